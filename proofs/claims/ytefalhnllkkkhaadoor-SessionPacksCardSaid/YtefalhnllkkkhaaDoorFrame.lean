/- Frames: wire.sum, slices.Concat, wire.Frame and the document's. -/
import Derived.Test.YtefalhnllkkkhaaDoorWire
namespace Go.Proofs.YtefalhnllkkkhaaDoor
open Go.RowKit
set_option linter.unusedVariables false

theorem four_own (w : World) {S : Nat} (h : S < 4294967296) : (w.alloc (.cells #[Value.int .u8 ((S : Int) % 256), Value.int .u8 ((S : Int) / 256 % 256), Value.int .u8 ((S : Int) / 65536 % 256), Value.int .u8 ((S : Int) / 16777216 % 256)] 5)).ownsRow w.heap.size 5 1 (.slice (some ⟨w.heap.size, 0, none⟩) 4 4) (leB S 4).length (B8s (leB S 4)) := by
  rw [four_bytes h]
  have := own_lit w (leB S 4) (Nat.le_refl _) (by rw [leB_length]; decide)
  rw [leB_length] at this ⊢
  exact this

set_option maxHeartbeats 400000 in
set_option maxRecDepth 20000 in
theorem four_any (S : Nat) (w : World) (h : S < 4294967296) :
    Calls Tryd.prog 76 #[.int .u32 S] w fun e w' => OwnQ (leB S 4) w w' e := by
  have hw8 : IntKind.u8.wrap ((S : Nat) : Int) = (S : Int) % 256 := IntKind.wrap_u8 _
  have H := Lib.hid h
  clear h
  go_enter Tryd.func76, Tryd.ntmps76
  go_wp2
  go_ret
  exact ⟨_, rfl, four_own w H.out, (Below.refl _ w).alloc (Nat.le_refl _) _⟩

set_option maxHeartbeats 400000 in
set_option maxRecDepth 20000 in
theorem sum4_any (p : Option Addr) (n c : Nat) (xs : List UInt8) (w : World) (hx : xs.length = n) (hr : Rd w p xs) (hm : n ≤ maxLen) (hT : Halves w) :
    Calls Tryd.prog 87 #[.slice p n c] w fun e w' => OwnQ (leB (sumN xs) 4) w w' e := by
  have HX := Lib.hid hx
  have HM := Lib.hid hm
  have HT := Lib.hid hT
  clear hx hm hT
  go_enter Tryd.func87, Tryd.ntmps87
  go_wp2_with fail
  refine (sum_any p n c xs _ HX.out hr HM.out HT.out).mono ?_
  rintro e w1 ⟨rfl, rfl⟩
  have H := Lib.hid (sumN_lt xs)
  obtain ⟨S, hS⟩ : ∃ S, S = sumN xs := ⟨_, rfl⟩
  rw [← hS] at H
  have HS := Lib.hid hS
  rw [← hS]
  clear hS
  have hw8 : IntKind.u8.wrap ((S : Nat) : Int) = (S : Int) % 256 := IntKind.wrap_u8 _
  go_wp2
  go_ret
  exact ⟨_, rfl, by rw [← HS.out]; exact four_own w H.out, (Below.refl _ w).alloc (Nat.le_refl _) _⟩

set_option maxHeartbeats 400000 in
set_option maxRecDepth 20000 in
/-- slices.Grow of nil. -/
theorem grow_nil (N : Nat) (w : World) (h : N ≤ 140737488355328) :
    Calls Tryd.prog 96 #[.slice none 0 0, .int .i64 N] w fun e w' => ∃ v', e = .returned v' ∧ w'.ownsRow w.heap.size 5 1 v' 0 [] ∧ Below w.heap.size w w' := by
  rcases Nat.eq_zero_or_pos N with h0 | h0
  · subst h0
    go_enter Tryd.func96, Tryd.ntmps96
    go_wp2
    go_ret
    exact ⟨_, rfl, World.ownsRow_nil _ _ _ _, Below.refl _ _⟩
  · have hN : (0 : Int) < (N : Int) := by omega
    obtain ⟨i0, hi, hz0, hz1, hz2⟩ := info_parts info8
    have hrun := fun ty => Lib.run_append_nil_zeros (P := Tryd.prog) w 22 3 ty 5 i0 (.int .u8 0) .i64 .i64 Tryd.underlying22 Tryd.underlying3 hi hz0 N h0 (by rw [hz1]; decide) (by omega) (by rw [hz2]; omega)
    have HR := Lib.hid hrun
    clear hrun h0
    go_enter Tryd.func96, Tryd.ntmps96
    go_wp2_with (at_builtin; refine Lib.wpList_append_run _ rfl (.tmp 20) (.tmp 21) 22 3 rfl _ _ rfl rfl _ _ (HR.out _) ?_)
    go_ret
    refine ⟨_, rfl, ?_, ((Below.refl _ w).alloc (Nat.le_refl _) _).drew⟩
    have hge := grownCap_ge w N 0 5
    have hle := grownCap_le_maxLen w N 0 5 (by unfold maxLen; omega)
    have hown := own8_mk (w := (w.alloc (.cells (Builtin.zeroCells #[Value.int .u8 0] N ++ Builtin.zeroCells #[Value.int .u8 0] (grownCap w N 0 5 - N)) 5)).drew) (base := w.heap.size) (g := w.heap.size) (n := 0) (cap := grownCap w N 0 5) (xs := [])
      (cur := (Builtin.zeroCells #[Value.int .u8 0] N ++ Builtin.zeroCells #[Value.int .u8 0] (grownCap w N 0 5 - N)).toList) (Nat.le_refl _)
      (by simp only [B8s, List.map_nil, List.nil_append, Array.toArray_toList]; exact heap_alloc_new w _) rfl
      (by rw [Array.length_toList, Array.size_append, size_zeroCells, size_zeroCells]; simp; omega) hle
    exact hown

set_option maxHeartbeats 1000000 in
set_option maxRecDepth 20000 in
/-- slices.Concat of parts. -/
theorem concat_any (p : Option Addr) (n c : Nat) (ps : List (List UInt8)) (w : World) (hn : ps.length = n) (hn3 : n ≤ 9223372036854775807) (h : PartsRd w p ps) (hf : ps.flatten.length ≤ 140737488355328) :
    Calls Tryd.prog 86 #[.slice p n c] w fun e w' => OwnQ ps.flatten w w' e := by
  have HN := Lib.hid hn
  have HF := Lib.hid hf
  clear hn hf
  go_enter Tryd.func86, Tryd.ntmps86
  go_wp2
  go_loopw [3, 11] (fun t i wr => w = wr ∧ ∃ k S : Nat, k ≤ n ∧ i = .int .i64 k ∧ t = .int .i64 S ∧ Hid (S = (ps.take k).flatten.length)) (fun _ i _ => n - (intOf i).toNat)
  case atStart => exact ⟨rfl, 0, 0, Nat.zero_le _, rfl, rfl, Lib.hid rfl⟩
  case round =>
    obtain ⟨rfl, k, S, hk, rfl, rfl, HS⟩ := hrel
    by_cases hlt : k < n
    · have hkl : k < ps.length := by rw [HN.out]; exact hlt
      obtain ⟨b, o, q, cq, rfl, hc, hr⟩ := h k hkl
      have hle : S + (ps[k]).length ≤ 140737488355328 := by
        have := flat_take_le ps (k + 1)
        rw [flat_take_succ hkl, List.length_append] at this
        have := HS.out
        have := HF.out
        omega
      have HS2 : Hid (S + (ps[k]).length = (ps.take (k + 1)).flatten.length) := Lib.hid (by rw [flat_take_succ hkl, List.length_append, HS.out])
      obtain ⟨m, hm⟩ : ∃ m, m = (ps[k]).length := ⟨_, rfl⟩
      rw [← hm] at hc hle HS2
      clear hr hm
      go_wp2
      go_roundw
      case rel => exact ⟨trivial, k + 1, S + m, by omega, by go_num, by go_num, HS2⟩
      case measure => simp [intOf]; omega
    · obtain rfl : k = n := by omega
      have e : ps.take k = ps := List.take_of_length_le (by rw [HN.out]; exact Nat.le_refl _)
      rw [e] at HS
      have hS : S ≤ 140737488355328 := by have := HS.out; have := HF.out; omega
      clear e HS
      go_wp2_with fail
      refine (grow_nil S _ hS).mono ?_
      rintro e w1 ⟨v1, rfl, hown, hb⟩
      have HO := Lib.hid hown
      clear hown hS
      go_wp2_with fail
      go_loopw [6, 27] (fun v i wr => ∃ j : Nat, j ≤ k ∧ i = .int .i64 j ∧ Hid (wr.ownsRow w.heap.size 5 1 v (ps.take j).flatten.length (B8s (ps.take j).flatten)) ∧ Below w.heap.size w wr) (fun _ i _ => k - (intOf i).toNat)
      case atStart => exact ⟨0, Nat.zero_le _, rfl, HO, hb⟩
      case round =>
        obtain ⟨j, hj, rfl, HO, hb⟩ := hrel
        by_cases hlt : j < k
        · have hkl : j < ps.length := by rw [HN.out]; exact hlt
          obtain ⟨b, o, q, cq, rfl, hc, hr⟩ := h j hkl
          have hc' := (hb.cell (cell_lt hc)).trans hc
          have hle : (ps.take j).flatten.length + (ps[j]).length ≤ 140737488355328 := by
            have := flat_take_le ps (j + 1)
            rw [flat_take_succ hkl, List.length_append] at this
            have := HF.out
            omega
          have HL := Lib.hid hle
          have HR := Lib.hid (hr.below hb)
          have HE := Lib.hid (flat_take_succ hkl)
          clear hc hr hle
          obtain ⟨fl, hfl⟩ : ∃ fl, fl = (ps.take j).flatten := ⟨_, rfl⟩
          obtain ⟨pj, hpj⟩ : ∃ pj, pj = ps[j] := ⟨_, rfl⟩
          rw [← hfl] at HO HL HE
          rw [← hpj] at HL HR HE hc'
          clear hfl hpj
          go_wp2_with (at_builtin; refine wp_appx (w0 := w) (base := w.heap.size) (n := fl.length) (m := pj.length) (c := cq) rfl (.tmp 31) (.tmp 32) rfl _ fl pj q rfl rfl rfl HR.out HO.out hb hb.size HL.out ?_)
          intro v2 w2 hown2 hb2
          have HO2 : Hid (w2.ownsRow w.heap.size 5 1 v2 (ps.take (j + 1)).flatten.length (B8s (ps.take (j + 1)).flatten)) := Lib.hid (by rw [HE.out, List.length_append]; exact hown2)
          clear hown2
          go_wp2
          go_roundw
          case rel => exact ⟨j + 1, by omega, by go_num, HO2, hb2⟩
          case measure => simp [intOf]; omega
        · obtain rfl : j = k := by omega
          have e : ps.take j = ps := List.take_of_length_le (by rw [HN.out]; exact Nat.le_refl _)
          rw [e] at HO
          go_wp2
          go_ret
          exact ⟨_, rfl, HO.out, hb⟩

/-- A frame's bytes. -/
def frameB (xs : List UInt8) : List UInt8 := varN xs.length ++ xs ++ leB (sumN xs) 4
def FrameQ (xs : List UInt8) (w w' : World) (e : Ending) : Prop :=
  ∃ p n c, e = .returned (.tuple #[.slice p n c, .int .i64 (if 65536 < xs.length then 12 else 0)]) ∧ (if 65536 < xs.length then [] else frameB xs).length = n ∧ Rd w' p (if 65536 < xs.length then [] else frameB xs) ∧ Below w.heap.size w w'

theorem partsOf3 {w : World} {p1 p2 p3 : Option Addr} {n1 n2 n3 c1 c2 c3 : Nat} {x1 x2 x3 : List UInt8} (h1 : x1.length = n1) (h2 : x2.length = n2) (h3 : x3.length = n3) (r1 : Rd w p1 x1) (r2 : Rd w p2 x2) (r3 : Rd w p3 x3) (t : TypeId) :
    PartsRd (w.alloc (.cells #[.slice p1 n1 c1, .slice p2 n2 c2, .slice p3 n3 c3] t)) (some ⟨w.heap.size, 0, none⟩) [x1, x2, x3] := fun k hk => by
  have hb : Below w.heap.size w (w.alloc (.cells #[.slice p1 n1 c1, .slice p2 n2 c2, .slice p3 n3 c3] t)) := (Below.refl _ w).alloc (Nat.le_refl _) _
  have hk3 : k = 0 ∨ k = 1 ∨ k = 2 := by simp at hk; omega
  have hc : ∀ j v, #[Value.slice p1 n1 c1, .slice p2 n2 c2, .slice p3 n3 c3][j]? = some v → (w.alloc (.cells #[.slice p1 n1 c1, .slice p2 n2 c2, .slice p3 n3 c3] t)).cell? ⟨w.heap.size, 0 + j, none⟩ = some v := fun j v hj => by
    rw [Nat.zero_add]
    simp only [World.cell?, heap_alloc_new]
    simpa using hj
  rcases hk3 with rfl | rfl | rfl
  · exact ⟨_, 0, p1, c1, rfl, hc 0 _ (by subst h1; rfl), r1.below hb⟩
  · exact ⟨_, 0, p2, c2, rfl, hc 1 _ (by subst h2; rfl), r2.below hb⟩
  · exact ⟨_, 0, p3, c3, rfl, hc 2 _ (by subst h3; rfl), r3.below hb⟩

set_option maxHeartbeats 1000000 in
set_option maxRecDepth 20000 in
theorem frame_any (p : Option Addr) (n c : Nat) (xs : List UInt8) (w : World) (hx : xs.length = n) (hr : Rd w p xs) (hm : n ≤ 140737488351232) (hT : Halves w) :
    Calls Tryd.prog 70 #[.slice p n c] w fun e w' => FrameQ xs w w' e := by
  have HX := Lib.hid hx
  have HT := Lib.hid hT
  by_cases h : n ≤ 65536
  · have HQ : Hid (¬ 65536 < xs.length) := Lib.hid (by omega)
    have hd : decide (65536 < (n : Int)) = false := by simp; omega
    have H := Lib.hid h
    clear hx h hT hm
    go_enter Tryd.func70, Tryd.ntmps70
    go_wp2_with fail
    refine (put_any none 0 0 [] n w rfl (by omega) (by have := H.out; omega) (Rd.nil _ _)).mono ?_
    rintro e w1 ⟨v1, rfl, hown, hb⟩
    obtain ⟨p1, k1, rfl, hr1, hx1, _, _⟩ := own_rd hown
    have HR1 := Lib.hid hr1
    clear hown hx1 hr1
    go_wp2_with fail
    refine (sum4_any p n c xs _ HX.out (hr.below hb) (by have := H.out; unfold maxLen; omega) (HT.out.below hb)).mono ?_
    rintro e w2 ⟨v2, rfl, hown2, hb2⟩
    obtain ⟨p2, k2, rfl, hr2, hx2, _, _⟩ := own_rd hown2
    have hb02 : Below w.heap.size w w2 := hb.trans (hb2.mono hb.size)
    have hP := partsOf3 (c1 := k1) (c2 := c) (c3 := k2) (x1 := [] ++ varN n) rfl HX.out hx2 (HR1.out.below hb2) (hr.below hb02) hr2 22
    have HP := Lib.hid hP
    have HF : Hid ([[] ++ varN n, xs, leB (sumN xs) 4].flatten.length ≤ 140737488355328) := Lib.hid (by
      have := varN_le9 (n := n) (by have := H.out; omega)
      have := HX.out
      have := H.out
      simp [leB_length]
      omega)
    have HE : Hid ([[] ++ varN n, xs, leB (sumN xs) 4].flatten = frameB xs) := Lib.hid (by unfold frameB; rw [HX.out]; simp)
    clear hown2 hP hr2 hx2 hr
    go_wp2_with fail
    refine (concat_any _ 3 3 _ _ rfl (by omega) HP.out HF.out).mono ?_
    rintro e w3 ⟨v3, rfl, hown3, hb3⟩
    rw [HE.out] at hown3
    obtain ⟨p3, k3, rfl, hr3, hx3, _, _⟩ := own_rd hown3
    have hb03 : Below w.heap.size w w3 := (hb02.alloc hb02.size _).trans (hb3.mono (by simp; exact Nat.le_succ_of_le hb02.size))
    clear hown3
    go_wp2
    go_ret2
    exact ⟨p3, _, k3, by rw [if_neg HQ.out]; rfl, by rw [if_neg HQ.out], by rw [if_neg HQ.out]; exact hr3, hb03⟩
  · have HQ : Hid (65536 < xs.length) := Lib.hid (by omega)
    have hd : decide (65536 < (n : Int)) = true := by simp; omega
    clear hx h hT hm
    go_enter Tryd.func70, Tryd.ntmps70
    go_wp2
    go_ret2
    exact ⟨none, 0, 0, by rw [if_pos HQ.out]; rfl, by rw [if_pos HQ.out]; rfl, by rw [if_pos HQ.out]; exact Rd.nil _ _, Below.refl _ _⟩
end Go.Proofs.YtefalhnllkkkhaaDoor
