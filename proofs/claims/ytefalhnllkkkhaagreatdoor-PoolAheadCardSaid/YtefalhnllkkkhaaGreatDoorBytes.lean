/- The contracts of bytes.Clone and bytes.Equal, for every slice. -/
import Derived.Test.YtefalhnllkkkhaaGreatDoorBase
namespace Go.Proofs.YtefalhnllkkkhaaGreatDoor
open Go.RowKit
set_option linter.unusedVariables false

theorem info8 : (Tryz.prog.info? 5).map (fun i => (i.zero, i.size, i.bytes)) = some (some (.int .u8 0), 1, 1) := by kernel_rfl

theorem Rd.news {w : World} {p : Option Addr} {xs : List UInt8} (h : Rd w p xs) (hn : 0 < xs.length) :
    ∃ ad, p = some ad ∧ ∀ j u, (B8s xs)[j]? = some u → w.cell? (ad.add j) = some u := by
  obtain ⟨b, o, rfl, hc⟩ := h.at hn
  refine ⟨_, rfl, fun j u hj => ?_⟩
  have hj' : j < xs.length := by
    have := (List.getElem?_eq_some_iff.1 hj).1
    simpa [B8s] using this
  rw [B8s_get hj'] at hj
  cases hj
  rw [Go.WideShapes.add_plain]
  exact hc j hj'

theorem B8s_one {xs : List UInt8} : ∀ u ∈ B8s xs, u.oneCell' = true := by
  intro u hu
  obtain ⟨x, _, rfl⟩ := List.mem_map.1 hu
  rfl

set_option maxHeartbeats 400000 in
theorem clone_any (p : Option Addr) (n c : Nat) (xs : List UInt8) (w : World) (hx : xs.length = n) (hbig : n ≤ 140737488355328) (hr : Rd w p xs) :
    Calls Tryz.prog 10 #[.slice p n c] w fun e w' => ∃ v', e = .returned v' ∧ w'.ownsRow w.heap.size 5 1 v' n (B8s xs) ∧ Below w.heap.size w w' := by
  obtain ⟨i0, hi, hz0, hz1, hz2⟩ := info_parts info8
  have q22 : ∀ (w : World) (a : Option Addr) (n c n' c' : Nat), (binOp .eql 37 (.slice a n c) (.slice none n' c')).run Tryz.prog w = .ok (.bool a.isNone) w := fun w a n c n' c' => Lib.run_eql_slice_nil w _ _ a n c n' c' Tryz.underlying37
  cases p with
  | none =>
    obtain rfl : xs = [] := by
      rcases xs with _ | ⟨x, xs⟩
      · rfl
      · obtain ⟨b, o, h, _⟩ := hr.at (by simp)
        cases h
    subst hx
    go_enter Tryz.func10, Tryz.ntmps10
    go_wp2
    go_ret
    exact ⟨_, rfl, World.ownsRow_nil _ _ _ _, Below.refl _ _⟩
  | some a =>
    have H := Lib.hid hr
    have HX := Lib.hid hx
    clear hr hx
    go_enter Tryz.func10, Tryz.ntmps10
    go_wp2_with (at_builtin; refine wpList_append_own _ rfl _ _ 37 rfl w.heap.size 5 i0 (.int .u8 0) 1 1 Tryz.underlying37 hi hz0 hz1 hz2 rfl (by decide) _ _ _ rfl (World.ownsRow_made w #[] 0 (Nat.le_refl _) (Nat.zero_le _) rfl) a n c (B8s xs) rfl ?qc1 ?qc2 ?qc3 ?qc4 ?qc5 ?qc6 ?_)
    case qc1 => rw [B8s_length, HX.out]; simp
    case qc2 =>
      intro j u hj
      have hn : 0 < xs.length := by
        have := (List.getElem?_eq_some_iff.1 hj).1
        rw [B8s_length] at this
        omega
      obtain ⟨ad, hp, hc⟩ := H.out.news hn
      cases hp
      have hcj := hc j u hj
      exact ((Upd.of_below' ((Below.refl _ w).alloc (Nat.le_refl _) _) (fun _ => False)).cell hcj (fun h => h))
    case qc3 => exact B8s_one
    case qc4 => unfold maxLen; omega
    case qc5 => omega
    case qc6 => simp
    intro v' w1 hown hgrow _
    go_wp2
    go_ret
    refine ⟨v', rfl, by simpa using hown, ?_⟩
    exact ((Below.refl _ w).alloc (Nat.le_refl _) _).grown hgrow (by simp) (by intro k hk; simp [Value.ownBlock] at hk; omega)

theorem Rd.convert {w : World} {p : Option Addr} {xs : List UInt8} (h : Rd w p xs) {n : Nat} (hx : xs.length = n) (c : Nat) (src e dst : TypeId)
    (hs : Tryz.prog.underlying src = some (.slice e)) (he : Tryz.prog.underlying e = some (.int .u8)) (hd : Tryz.prog.underlying dst = some .string) :
    (convert src dst (.slice p n c)).run Tryz.prog w = .ok (.string ⟨xs.toArray⟩) w := by
  rw [← strOfNums8]
  rcases Nat.eq_zero_or_pos n with hn | hn
  · subst hn
    obtain rfl : xs = [] := List.eq_nil_of_length_eq_zero hx
    cases p with
    | none => exact run_convert_bytes_nil w src e hs he 0 c dst hd
    | some a =>
      have hl : (loadCells a 0).run Tryz.prog w = .ok (([] : List Int).map (Value.int .u8)).toArray w := by
        have := run_loadCells_list (P := Tryz.prog) w a [] (fun j v hj => by simp at hj)
        simpa using this
      rw [run_convert_bytes_string w src dst e _ 0 c hs he hd, run_bytesToString w _ 0 c [] hl, foldl_push_bytes]
      simp [strOfNums, nums8, ByteArray.empty, ByteArray.emptyWithCapacity]
      try rfl
  · obtain ⟨b, o, rfl, hc⟩ := h.at (by omega)
    refine run_convert_bytes_arg (P := Tryz.prog) w src e hs he b o n c (nums8 xs) (by simp [nums8, hx]) (fun i hi => ?_) dst hd
    rw [hc i (by omega), nums8_getD (by omega)]
    rfl

set_option maxHeartbeats 400000 in
theorem equal_any (p q : Option Addr) (n c m d : Nat) (xs ys : List UInt8) (w : World) (hx : xs.length = n) (hy : ys.length = m) (h1 : Rd w p xs) (h2 : Rd w q ys) :
    Calls Tryz.prog 16 #[.slice p n c, .slice q m d] w fun e w' => e = .returned (.bool (xs == ys)) ∧ w = w' := by
  have k1 := h1.convert hx c _ _ _ Tryz.underlying37 Tryz.underlying5 Tryz.underlying9
  have k2 := h2.convert hy d _ _ _ Tryz.underlying37 Tryz.underlying5 Tryz.underlying9
  clear hx hy h1 h2
  go_enter Tryz.func16, Tryz.ntmps16
  go_wp2
  go_ret
  exact ⟨rfl, rfl⟩
end Go.Proofs.YtefalhnllkkkhaaGreatDoor
