/- slices.Sorted of slices.Values; Table. -/
import Derived.Test.YtefalhnllkkkhaaGreatDoorPoolOps2
namespace Go.Proofs.YtefalhnllkkkhaaGreatDoor
open Go.RowKit Go.Shelf Go.Sort
set_option linter.unusedVariables false
attribute [local go_sem] Oper.semAt_some

set_option maxRecDepth 100000 in
set_option maxHeartbeats 2000000 in
theorem values1_in (F : Fence) (n : Nat) (hf : F.fn 68) (hro : F.round = none) (hn : 1 ≤ n) (l Bs n₀ g L cap : Nat) (zs : List Int) (hz : zs.length = L) (hL : 0 < L) (hLm : L < 1000000000) (hg : g < n₀) (hB1 : Bs < n₀)
    (J Jx : List Int → World → Prop)
    (hY : ∀ pre x W, J pre W → pre.length < L → YieldAt F (n - 1) Tryz.prog l #[.int .i64 x] W fun e W' =>
      (e = .returned (.bool true) ∧ J (pre ++ [x]) W' ∧ Below n₀ W W') ∨ (e = .returned (.bool false) ∧ Jx (pre ++ [x]) W'))
    (W : World) (hBs : W.cell? ⟨Bs, 0, none⟩ = some (.slice (some ⟨g, 0, none⟩) L cap)) (hc : ∀ j x, zs[j]? = some x → W.cell? ⟨g, j, none⟩ = some (.int .i64 x)) (h0 : J [] W) :
    CallsIn F n Tryz.prog 68 #[.func (.yield l) #[] #[], .pointer (some ⟨Bs, 0, none⟩)] W fun e W' => (∃ v, e = .returned v) ∧
      (J zs W' ∨ (∃ k, k ≤ L ∧ Jx (zs.take k) W')) := by
  refine callsIn_of_wp Tryz.func68 rfl hf ?_ hro
  simp only [Tryz.ntmps68, List.size_toArray, List.length_cons, List.length_nil, Nat.reduceAdd, Nat.reduceSub, Array.replicate_succ, Array.replicate_zero, List.push_toArray, List.append_toArray, List.nil_append, List.cons_append]
  have HZ := Lib.hid hz
  clear hz
  gi_wp2
  gi_loopw [7] (fun i wr => ∃ (k : Nat), k ≤ L ∧ i = .int .i64 k ∧ J (zs.take k) wr ∧ Below n₀ W wr) (fun i _ => L - (intOf i).toNat)
  case atStart => exact ⟨0, Nat.zero_le _, rfl, h0, Below.refl _ _⟩
  case round =>
    obtain ⟨k, hk, rfl, hJs, hnx⟩ := hrel
    have hBs' := (hnx.cell (p := ⟨Bs, 0, none⟩) hB1).trans hBs
    by_cases hlt : k < L
    · obtain ⟨x, hx⟩ : ∃ x, zs[k]? = some x := ⟨_, List.getElem?_eq_getElem (by rw [HZ.out]; exact hlt)⟩
      obtain ⟨fn, tmps, assign, body, hy, hR⟩ := hY _ x wr hJs (by rw [List.length_take, HZ.out]; omega)
      have c0' := (hnx.cell (p := ⟨g, k, none⟩) hg).trans (hc k x hx)
      have hwk : IntKind.i64.wrap ((k : Int) + 1) = ((k + 1 : Nat) : Int) := by rw [IntKind.wrap_i64]; omega
      have HX := Lib.hid hx
      have HLT := Lib.hid hlt
      clear hx
      gi_wp2
      refine hR.mono ?_
      rintro e W3 (⟨rfl, hJ3, hk3⟩ | ⟨rfl, hJx3⟩)
      · gi_wp2
        go_roundw
        case rel => exact ⟨k + 1, HLT.out, by congr 1, by rw [take_next HX.out]; exact hJ3, hnx.trans hk3⟩
        case measure => simp [intOf] <;> omega
      · gi_wp2
        exact bodyPost_ret (results_none rfl _ _ _) rfl ⟨⟨_, rfl⟩, .inr ⟨k + 1, HLT.out, by rw [take_next HX.out]; exact hJx3⟩⟩
    · obtain rfl : k = L := by omega
      gi_wp2
      go_end0
      exact ⟨⟨_, rfl⟩, .inl (by rw [← HZ.out, List.take_length] at hJs; exact hJs)⟩

theorem values_stops (F : Fence) (n : Nat) (hf : F.fn 68) (hro : F.round = none) (hn : 1 ≤ n) (Bs n₀ cap base : Nat) (q : Option Addr) (zs : List Int) (hLm : zs.length < 1000000000) (hB1 : Bs < n₀)
    (w : World) (hn₀ : n₀ = w.heap.size) (hBs : w.cell? ⟨Bs, 0, none⟩ = some (.slice q zs.length cap)) (ho : w.ownsRow base 3 1 (.slice q zs.length cap) zs.length (zs.map (Value.int .i64))) :
    SeqStopsK F n Tryz.prog 68 #[.pointer (some ⟨Bs, 0, none⟩)] (fun x : Int => #[Value.int .i64 x]) (Below n₀) (fun ys => ys = zs) (fun pre => ∃ k, k ≤ zs.length ∧ pre = zs.take k) zs.length w := by
  rcases Nat.eq_zero_or_pos zs.length with h | h
  · have hz : zs = [] := List.eq_nil_of_length_eq_zero h
    subst hz
    have := valuesNil_stops F n hf hro Bs n₀ cap q w hBs
    intro l J Jx W hW hJ hJx hY h0
    refine (this l J Jx W hW hJ hJx hY h0).mono ?_
    rintro e W' ⟨he, ⟨ys, h1, h2⟩ | ⟨pre, h1, h2⟩⟩
    · exact ⟨he, .inl ⟨ys, h1, h2⟩⟩
    · exact h1.elim
  · intro l J Jx W hW hJ _ hY h0
    obtain ⟨g, rfl, -, hgt, hc⟩ := own_at1 ho h
    have hgl : g < w.heap.size := by obtain ⟨cs, hcs⟩ := hgt; exact (Array.getElem?_eq_some_iff.1 hcs).1
    have hBs' := (hW.cell (p := ⟨Bs, 0, none⟩) (by show Bs < _; omega)).trans hBs
    refine (values1_in F n hf hro hn l Bs n₀ g zs.length cap zs rfl h hLm (by omega) hB1 J Jx hY W hBs' (fun j x hx => (hW.cell (p := ⟨g, j, none⟩) hgl).trans (hc j _ (by simp [hx]))) h0).mono ?_
    rintro e W' ⟨he, h | ⟨k, hk, h⟩⟩
    · exact ⟨he, .inl ⟨_, rfl, h⟩⟩
    · exact ⟨he, .inr ⟨_, ⟨k, hk, rfl⟩, h⟩⟩

/-- slices.Sort of a row of its own. -/
theorem sortInts_any (base : Nat) (ys : List Int) (v : Value) (w : World) (hl : ys.length < 1000000000) (ho : w.ownsRow base 3 1 v ys.length (ys.map (Value.int .i64))) :
    Calls Tryz.prog 23 #[v] w fun e w' => (∃ x, e = .returned x) ∧ w'.ownsRow base 3 1 v ys.length ((ys.mergeSort leI).map (Value.int .i64)) ∧ (∀ B, B ≤ w.heap.size → B ≤ base → Below B w w') := by
  rcases ho.2 with ⟨rfl, h0⟩ | ⟨g, cap, cur, rfl, hb, hg, h1, h2, h3, h4⟩
  · have hz : ys = [] := List.eq_nil_of_length_eq_zero h0
    subst hz
    refine (sort_zero none 0 _).mono ?_
    rintro e w' ⟨he, rfl⟩
    exact ⟨he, by simpa using ho, fun B hB _ => Below.refl _ _⟩
  · rcases Nat.eq_zero_or_pos ys.length with h | h
    · have hz : ys = [] := List.eq_nil_of_length_eq_zero h
      subst hz
      refine (sort_zero _ cap _).mono ?_
      rintro e w' ⟨he, rfl⟩
      exact ⟨he, by simpa using ho, fun B hB _ => Below.refl _ _⟩
    · have hgl : g < w.heap.size := (Array.getElem?_eq_some_iff.1 hg).1
      have hH := holds_of_block_i hg (ss := ys) (by simpa using h4)
      refine (Tryz.slices_Sort_int g 0 cap ys w hH hgl (by omega)).mono ?_
      rintro e w' ⟨rfl, n, os, rfl⟩
      refine ⟨⟨_, rfl⟩, ?_, fun B hB1 hB2 => ?_⟩
      · have := ownsRow_sorted_i (n := n) (os := os) (ss := ys) (ts := ys.mergeSort leI) (by simp) hb hg h1 h2 h3
        simpa using this
      · exact (Below.refl B w).grown (grownBy_sorted_i _) hB1 (fun j hj => by cases hj; omega)

set_option maxRecDepth 20000 in
set_option maxHeartbeats 1000000 in
theorem sorted_any (Bs cap base : Nat) (q : Option Addr) (zs : List Int) (w : World) (hl : zs.length < 1000000000) (hBs : w.cell? ⟨Bs, 0, none⟩ = some (.slice q zs.length cap)) (ho : w.ownsRow base 3 1 (.slice q zs.length cap) zs.length (zs.map (Value.int .i64))) :
    Calls Tryz.prog 45 #[.func (.func 68) #[] #[.pointer (some ⟨Bs, 0, none⟩)]] w fun e w' => ∃ v, e = .returned v ∧ w'.ownsRow w.heap.size 3 1 v zs.length ((zs.mergeSort leI).map (Value.int .i64)) ∧ Below w.heap.size w w' := by
  have hcol : Calls Tryz.prog 67 #[.func (.func 68) #[] #[.pointer (some ⟨Bs, 0, none⟩)]] w fun e w' => ∃ v, e = .returned v ∧ w'.ownsRow w.heap.size 3 1 v zs.length (zs.map (Value.int .i64)) ∧ Below w.heap.size w w' := by
    refine (callsIn_wide (n := 5)).1 ?_
    refine (collectInts_in Fence.wide 5 trivial trivial 68 trivial (enters_of Tryz.func68 (by kernel_rfl) rfl) rfl (by omega) _ zs.length (by omega) _ _ w (Kp := Below w.heap.size) belowK_t (belowK_b (Nat.le_refl _)) (fun _ _ _ h => h)
      (values_stops Fence.wide 3 trivial rfl (by omega) Bs w.heap.size cap base q zs hl (cell_lt hBs) w rfl hBs ho)).mono ?_
    rintro e w' ⟨v, ys, rfl, rfl, hown, hb⟩
    exact ⟨v, rfl, hown, hb⟩
  have HL := Lib.hid hl
  clear hl ho
  go_enter Tryz.func45, Tryz.ntmps45
  go_wp2_with fail
  refine hcol.mono ?_
  rintro e w1 ⟨v, rfl, ho, hb⟩
  obtain ⟨p, c, rfl⟩ := own_zero ho
  have HO := Lib.hid ho
  have HB := Lib.hid hb
  clear ho hb
  go_wp2_with fail
  refine (sortInts_any w.heap.size zs (.slice p zs.length c) _ HL.out HO.out).mono ?_
  rintro e w2 ⟨⟨x, rfl⟩, ho2, hb2⟩
  have HO2 := Lib.hid ho2
  have HB2 := Lib.hid (HB.out.trans (hb2 w.heap.size HB.out.size (Nat.le_refl _)))
  clear ho2 hb2
  go_wp2
  go_ret
  exact ⟨_, rfl, HO2.out, HB2.out⟩
end Go.Proofs.YtefalhnllkkkhaaGreatDoor
