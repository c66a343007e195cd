/- page.fill: parts, one behind the other, in a sector of noughts. -/
import Derived.Test.YtefalhnllkkkhaaGreatDoorNumber
import Derived.Laws.OwnMore
import Derived.Deep.OwnRows
namespace Go.Proofs.YtefalhnllkkkhaaGreatDoor
open Go.RowKit Go.Deep
set_option linter.unusedVariables false

/-- So many bytes of 0 as a block's cells; what make lays. -/
def Zs (n : Nat) : Array Value := madeCells #[.int .u8 0] n
theorem Zs_list (n : Nat) : (Zs n).toList = B8s (List.replicate n 0) := by
  unfold Zs
  rw [toList_madeCells_one]
  simp [B8s, B8]
theorem Zs_arr (n : Nat) : Zs n = (B8s (List.replicate n 0)).toArray := by
  rw [← Zs_list]
theorem make8 (m : Nat) (hm : m ≤ 281474976710656) (W : World) :
    (Instr.makeSlice 37 (.int .i64 (m : Int)) (.int .i64 (m : Int))).run Tryz.prog W = .ok (.slice (some ⟨W.heap.size, 0, none⟩) m m) (W.alloc (.cells (Zs m) 5)) :=
  run_make_row' 37 5 (.int .u8 0) 1 Tryz.underlying37 info8 rfl .i64 .i64 m (by omega) (by omega) W

/-- The cells hold slices of these lists of bytes. -/
def PartsRd (w : World) (p : Option Addr) (ps : List (List UInt8)) : Prop :=
  ∀ k (h : k < ps.length), ∃ b o q c, p = some ⟨b, o, none⟩ ∧ w.cell? ⟨b, o + k, none⟩ = some (.slice q (ps[k]).length c) ∧ Rd w q ps[k]
theorem PartsRd.below {w w' : World} {p : Option Addr} {ps : List (List UInt8)} (h : PartsRd w p ps) (hb : Below w.heap.size w w') : PartsRd w' p ps := fun k hk => by
  obtain ⟨b, o, q, c, e, hc, hr⟩ := h k hk
  exact ⟨b, o, q, c, e, (hb.cell (cell_lt hc)).trans hc, hr.below hb⟩

theorem flat_take_succ {ps : List (List UInt8)} {k : Nat} (hk : k < ps.length) : (ps.take (k + 1)).flatten = (ps.take k).flatten ++ ps[k] := by
  rw [List.take_succ_eq_append_getElem hk, List.flatten_append]
  simp
theorem flat_take_le (ps : List (List UInt8)) (k : Nat) : ((ps.take k).flatten).length ≤ ps.flatten.length := by
  have : ps.flatten = (ps.take k).flatten ++ (ps.drop k).flatten := by rw [← List.flatten_append, List.take_append_drop]
  rw [this, List.length_append]
  omega

/-- A sector that begins with bytes. -/
def padded (xs : List UInt8) : List UInt8 := xs ++ List.replicate (128 - xs.length) 0
theorem padded_length {xs : List UInt8} (h : xs.length ≤ 128) : (padded xs).length = 128 := by simp [padded]; omega

set_option maxHeartbeats 400000 in
set_option maxRecDepth 20000 in
theorem fill_any (p : Option Addr) (n c : Nat) (ps : List (List UInt8)) (w : World) (hn : ps.length = n) (hn3 : n ≤ 9223372036854775807) (h : PartsRd w p ps) (hf : ps.flatten.length < 128) :
    Calls Tryz.prog 64 #[.slice p n c] w fun e w' => ∃ v', e = .returned v' ∧ w'.ownsRow w.heap.size 5 1 v' 128 (B8s (padded ps.flatten)) ∧ Below w.heap.size w w' := by
  have HN := Lib.hid hn
  have hmk := make8 128 (by omega)
  have hmk' : ∀ W : World, (Instr.makeSlice 37 (.int .i64 128) (.int .i64 128)).run Tryz.prog W = .ok (.slice (some ⟨W.heap.size, 0, none⟩) 128 128) (W.alloc (.cells (Zs 128) 5)) := hmk
  clear hn hmk
  go_enter Tryz.func64, Tryz.ntmps64
  go_wp2
  go_loopw [4, 10] (fun t i wr => ∃ k at' : Nat, k ≤ n ∧ i = .int .i64 k ∧ t = .int .i64 at' ∧ Hid (at' = (ps.take k).flatten.length) ∧ Hid (wr.heap[w.heap.size]? = some (.cells (B8s (padded (ps.take k).flatten)).toArray 5 (0, 0))) ∧ Below w.heap.size w wr) (fun _ i _ => n - (intOf i).toNat)
  case atStart => exact ⟨0, 0, Nat.zero_le _, rfl, rfl, Lib.hid rfl, Lib.hid (by rw [heap_alloc_new, Zs_arr]; rfl), (Below.refl _ w).alloc (Nat.le_refl _) _⟩
  case round =>
    obtain ⟨k, at', hk, rfl, rfl, HA, HC, hb⟩ := hrel
    by_cases hlt : k < n
    · have hkl : k < ps.length := by rw [HN.out]; exact hlt
      obtain ⟨b, o, q, cq, rfl, hc, hr⟩ := h k hkl
      have hc' := (hb.cell (cell_lt hc)).trans hc
      have hle : at' + (ps[k]).length < 128 := by
        have := flat_take_le ps (k + 1)
        rw [flat_take_succ hkl, List.length_append] at this
        have := HA.out
        omega
      have HS := Lib.hid (flat_take_succ hkl)
      have hrq : Rd wr q ps[k] := hr.below hb
      have hlen : (padded (ps.take k).flatten).length = 128 := padded_length (by have := flat_take_le ps k; omega)
      have HQ := Lib.hid hrq
      have HLen := Lib.hid hlen
      clear hc hr hrq hlen
      have hmin : Hid ((B8s ps[k]).length = Nat.min (ps[k]).length (128 - at')) := Lib.hid (by rw [B8s_length]; show _ = min _ _; omega)
      have hsz8 : (Tryz.prog.info? 5).map (·.size) = some 1 := by kernel_rfl
      go_wp2_with (with_reducible (refine wpList_copy_splice rfl (.tmp 17) (.tmp 18) 37 37 rfl 5 Tryz.underlying37 hsz8 _ _ _ _ _ _ rfl rfl w.heap.size at' (B8s (padded (ps.take k).flatten)) 5 HC.out (B8s ps[k]) hmin.out ?n2 ?n3 B8s_one w.heap.size w hb (Nat.le_refl _) ?_))
      case n2 => intro hp; rw [B8s_length] at hp; exact HQ.out.news hp
      case n3 => rw [B8s_length, B8s_length, HLen.out]; omega
      intro w2 hh2 hb2
      have e1 : splice (B8s (padded (ps.take k).flatten)) at' (B8s ps[k]) = B8s (padded (ps.take (k + 1)).flatten) := by
        have ha := HA.out
        have hl : (ps.take k).flatten.length ≤ 128 := by have := flat_take_le ps k; omega
        rw [HS.out]
        unfold splice padded B8s
        generalize (ps.take k).flatten = xs at *
        generalize ps[k] = ys at *
        subst ha
        rw [← List.map_take, ← List.map_drop, ← List.map_append, ← List.map_append]
        congr 1
        rw [List.take_left, List.length_map, List.length_append, List.append_assoc]
        congr 1
        congr 1
        rw [List.drop_append, List.drop_of_length_le (by omega), List.nil_append, List.drop_replicate]
        congr 1
        omega
      have H2 : Hid (w2.heap[w.heap.size]? = some (.cells (B8s (padded (ps.take (k + 1)).flatten)).toArray 5 (0, 0))) := Lib.hid (by rw [hh2.out, e1])
      have HA2 : Hid (at' + (ps[k]).length = (ps.take (k + 1)).flatten.length) := Lib.hid (by rw [HS.out, List.length_append, HA.out])
      have hbl := B8s_length ps[k]
      clear hh2 e1
      go_wp2
      go_roundw
      case rel => exact ⟨k + 1, at' + (ps[k]).length, by omega, by go_num, by go_num, HA2, H2, hb2⟩
      case measure => simp [intOf]; omega
    · obtain rfl : k = n := by omega
      have e : ps.take k = ps := List.take_of_length_le (by rw [HN.out]; exact Nat.le_refl _)
      rw [e] at HC
      have hl : (padded ps.flatten).length = 128 := padded_length (by omega)
      go_wp2
      go_ret
      refine ⟨_, rfl, ⟨by rw [B8s_length, hl], .inr ⟨w.heap.size, 128, _, rfl, Nat.le_refl _, HC.out, Nat.le_refl _, by decide, by simp [B8s_length, hl], ?_⟩⟩, hb⟩
      show List.take (128 * 1) (B8s (padded ps.flatten)) = _
      rw [List.take_of_length_le (by rw [B8s_length, hl]; decide)]
end Go.Proofs.YtefalhnllkkkhaaGreatDoor
