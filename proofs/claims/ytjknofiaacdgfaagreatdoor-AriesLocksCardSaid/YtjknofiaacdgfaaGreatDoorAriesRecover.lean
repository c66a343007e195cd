/- recover of no record: nothing is to be done. -/
import Derived.Test.YtjknofiaacdgfaaGreatDoorAriesNone
import Derived.Test.YtjknofiaacdgfaaGreatDoorAries
namespace Go.Proofs.YtjknofiaacdgfaaGreatDoor
open Go.RowKit Go.Shelf
set_option linter.unusedVariables false
attribute [local go_sem] Oper.semAt_some

theorem backwardI_any (q : Option Addr) (n c : Nat) (w : World) :
    Calls Tryz.prog 106 #[.slice q n c] w fun e w' => e = .returned (.func (.func 172) #[] #[.pointer (some ⟨w.heap.size, 0, none⟩)]) ∧ w' = w.alloc (.cells #[.slice q n c] 56) := by
  go_enter Tryz.func106, Tryz.ntmps106
  go_wp2
  go_ret
  exact ⟨rfl, rfl⟩
set_option maxRecDepth 100000 in
set_option maxHeartbeats 1000000 in
theorem backI_none (F : Fence) (n : Nat) (hf : F.fn 172) (hro : F.round = none) (Bs n₀ c : Nat) (p : Option Addr) (w : World) (hB : Bs < w.heap.size) (hm : w.cell? ⟨Bs, 0, none⟩ = some (.slice p 0 c)) :
    SeqStopsK F n Tryz.prog 172 #[.pointer (some ⟨Bs, 0, none⟩)] (fun x : Int => #[Value.int .i64 x, Value.int .i64 x]) (Below n₀) (fun ys => ys = []) (fun _ => False) 0 w :=
  fun l J Jx W hW hJ _ hY h0 => by
    have hm' := (hW.cell (p := ⟨Bs, 0, none⟩) hB).trans hm
    refine callsIn_of_wp Tryz.func172 rfl hf ?_ hro
    simp only [Tryz.ntmps172, List.size_toArray, List.length_cons, List.length_nil, Nat.reduceAdd, Nat.reduceSub, Array.replicate_succ, Array.replicate_zero, List.push_toArray, List.append_toArray, List.nil_append, List.cons_append]
    gi_wp2
    gi_loopw [3] (fun i wr => i = .int .i64 (-1) ∧ J [] wr) (fun _ _ => 0)
    case atStart => exact ⟨rfl, h0⟩
    case round =>
      obtain ⟨rfl, hJs⟩ := hrel
      gi_wp2
      go_end0
      exact ⟨⟨_, rfl⟩, .inl ⟨[], rfl, hJs⟩⟩

set_option maxRecDepth 100000 in
set_option maxHeartbeats 2000000 in
theorem recover_none {B bl bd fro sectors first last forced durable : Nat} {sv : Value} {xs : List UInt8} (bg : Nat) (w : World) (hl : w.cell? ⟨bg, 3, none⟩ = some (.pointer (some ⟨bl, 0, none⟩))) (h : LogAt w B bl bd fro sectors first last forced durable sv xs) (he : forced = last) :
    Calls Tryz.prog 51 #[.pointer (some ⟨bg, 0, none⟩), .slice none 0 0] w fun e w' => e = .returned (.int .i64 0) ∧ Below w.heap.size w w' := by
  have HL := Lib.hid hl
  have H := Lib.hid h
  have HE := Lib.hid he
  clear h he hl
  have hmm := @run_makeMap Tryz.prog
  obtain ⟨W1, hW1⟩ : ∃ W, W = w.alloc (.cells #[.pointer (some ⟨bg, 0, none⟩)] 29) := ⟨_, rfl⟩
  obtain ⟨W2, hW2⟩ : ∃ W, W = W1.alloc (.cells #[.int .i64 0] 26) := ⟨_, rfl⟩
  obtain ⟨W3, hW3⟩ : ∃ W, W = W2.alloc (.map #[] 0) := ⟨_, rfl⟩
  obtain ⟨W4, hW4⟩ : ∃ W, W = W3.alloc (.cells #[.map (some (w.heap.size + 1 + 1))] 50) := ⟨_, rfl⟩
  obtain ⟨W5, hW5⟩ : ∃ W, W = W4.alloc (.map #[] 0) := ⟨_, rfl⟩
  obtain ⟨W6, hW6⟩ : ∃ W, W = W5.alloc (.mapIter (some (w.heap.size + 1 + 1)) 0 #[] 0) := ⟨_, rfl⟩
  have s1 : W1.heap.size = w.heap.size + 1 := by rw [hW1]; simp
  have s2 : W2.heap.size = w.heap.size + 1 + 1 := by rw [hW2]; simp [s1]
  have s3 : W3.heap.size = w.heap.size + 1 + 1 + 1 := by rw [hW3]; simp [s2]
  have s4 : W4.heap.size = w.heap.size + 1 + 1 + 1 + 1 := by rw [hW4]; simp [s3]
  have s5 : W5.heap.size = w.heap.size + 1 + 1 + 1 + 1 + 1 := by rw [hW5]; simp [s4]
  have s6 : W6.heap.size = w.heap.size + 1 + 1 + 1 + 1 + 1 + 1 := by rw [hW6]; simp [s5]
  have b0 : Below w.heap.size w W1 := by rw [hW1]; exact (Below.refl _ w).alloc (Nat.le_refl _) _
  have b1 : Below W1.heap.size W1 W2 := by rw [hW2]; exact (Below.refl _ W1).alloc (Nat.le_refl _) _
  have b2 : Below W2.heap.size W2 W3 := by rw [hW3]; exact (Below.refl _ W2).alloc (Nat.le_refl _) _
  have b3 : Below W3.heap.size W3 W4 := by rw [hW4]; exact (Below.refl _ W3).alloc (Nat.le_refl _) _
  have b4 : Below W4.heap.size W4 W5 := by rw [hW5]; exact (Below.refl _ W4).alloc (Nat.le_refl _) _
  have b5 : Below W5.heap.size W5 W6 := by rw [hW6]; exact (Below.refl _ W5).alloc (Nat.le_refl _) _
  have B1 : Boxed W6 w.heap.size 29 (.pointer (some ⟨bg, 0, none⟩)) := boxedB (boxedB (boxedB (boxedB (boxedB (by rw [hW1]; exact Boxed.new w _ _) b1) b2) b3) b4) b5
  have B2 : Boxed W6 (w.heap.size + 1) 26 (.int .i64 0) := boxedB (boxedB (boxedB (boxedB (by rw [hW2, ← s1]; exact Boxed.new W1 _ _) b2) b3) b4) b5
  have B4 : Boxed W6 (w.heap.size + 1 + 1 + 1) 50 (.map (some (w.heap.size + 1 + 1))) := boxedB (boxedB (by rw [hW4, ← s3]; exact Boxed.new W3 _ _) b4) b5
  have hm3 : W3.heap[w.heap.size + 1 + 1]? = some (.map #[] 0) := by rw [hW3, ← s2]; exact heap_alloc_new W2 _
  have hm5 : W5.heap[w.heap.size + 1 + 1]? = some (.map #[] 0) := (b4.block _ (by omega)).trans ((b3.block _ (by omega)).trans hm3)
  have hrg := run_range_map (P := Tryz.prog) W5 50 3 102 (w.heap.size + 1 + 1) #[] 0 Tryz.underlying50 hm5
  have hnx : ∀ ty, (Instr.next (.pointer (some ⟨W5.heap.size, 0, none⟩)) false ty).run Tryz.prog (W5.alloc (.mapIter (some (w.heap.size + 1 + 1)) 0 #[] 0)) = .ok (.tuple #[.bool false]) (W5.alloc (.mapIter (some (w.heap.size + 1 + 1)) 0 #[] 0)) := fun ty => by
    rcases run_next_map (P := Tryz.prog) W5 ty (w.heap.size + 1 + 1) 0 0 #[] #[] 0 hm5 (by simp) (Nat.le_refl _) with ⟨-, h⟩ | ⟨e, he, -⟩
    · exact h
    · simp [leftOf] at he
  rw [← hW6, s5] at hrg hnx
  have HB6 := Lib.hid (b0.trans ((b1.mono b0.size).trans ((b2.mono (by omega)).trans ((b3.mono (by omega)).trans ((b4.mono (by omega)).trans (b5.mono (by omega)))))))
  have HB1 := Lib.hid B1
  have HB2 := Lib.hid B2
  have HB4 := Lib.hid B4
  have HS6 := Lib.hid s6
  have hw5 := Lib.hid (show ((((w.alloc (.cells #[.pointer (some ⟨bg, 0, none⟩)] 29)).alloc (.cells #[.int .i64 0] 26)).alloc (.map #[] 0)).alloc (.cells #[.map (some (w.heap.size + 1 + 1))] 50)).alloc (.map #[] 0) = W5 by rw [hW5, hW4, hW3, hW2, hW1])
  clear hW1 hW2 hW3 hW4 hW5 hW6 s1 s2 s3 s4 s5 s6 b0 b1 b2 b3 b4 b5 B1 B2 B4 hm3 hm5 W1 W2 W3 W4
  refine (callsIn_wide (n := 9)).1 ?_
  have h1 : 1 ≤ 9 := by omega
  refine callsIn_of_wp_marks Tryz.func51 rfl trivial ?_ rfl
  simp only [Tryz.ntmps51, List.size_toArray, List.length_cons, List.length_nil, Nat.reduceAdd, Nat.reduceSub, Array.replicate_succ, Array.replicate_zero, List.push_toArray, List.append_toArray, List.nil_append, List.cons_append]
  gi_wp2_with fail
  refine wpIn_loop_rounds 1 ?_
  rw [roundsIn_succ]
  gi_wp2_with fail
  refine wpIn_loop_rounds 1 ?_
  rw [roundsIn_succ]
  gi_wp2_with fail
  refine wpIn_loop_rounds 1 ?_
  rw [roundsIn_succ]
  gi_wp2_with fail
  rw [hw5.out, hrg]
  gi_wp2_with fail
  refine wpIn_loop_rounds 1 ?_
  rw [roundsIn_succ]
  gi_wp2_with fail
  refine ⟨trivial, (callsIn_wide.2 (sort_zero none 0 W6)).mono ?_⟩
  rintro e w7 ⟨⟨x, rfl⟩, rfl⟩
  gi_wp2_with fail
  refine ⟨trivial, (callsIn_wide.2 (backwardI_any none 0 0 w7)).mono ?_⟩
  rintro e w8 ⟨rfl, rfl⟩
  gi_wp2_with fail
  obtain ⟨W7, hW7⟩ : ∃ W7, W7 = w7.alloc (.cells #[.slice none 0 0] 56) := ⟨_, rfl⟩
  have HB7 : Hid (Below w7.heap.size w7 W7) := Lib.hid (by rw [hW7]; exact (Below.refl _ w7).alloc (Nat.le_refl _) _)
  have HS7 : Hid (W7.heap.size = w7.heap.size + 1) := Lib.hid (by rw [hW7]; simp)
  have hbk : W7.cell? ⟨w7.heap.size, 0, none⟩ = some (.slice none 0 0) := by rw [hW7]; exact cellNew rfl
  rw [← hW7]
  clear hW7
  refine wpIn_rangeFunc_ownH (F := Fence.wide) rfl h1 (gf := 172) (lb := #[.pointer (some ⟨w7.heap.size, 0, none⟩)]) rfl trivial (enters_of Tryz.func172 (by kernel_rfl) rfl)
    (backI_none Fence.wide 8 trivial rfl w7.heap.size W7.heap.size 0 none W7 (by have := HS7.out; omega) hbk) belowK_t (belowK_b (Nat.le_refl _)) (Below.refl _ _) (fun _ => rfl)
    (fun pre W => Below W7.heap.size W7 W) (fun c pre W => False) ?hI ?hIx (Below.refl _ _) (fun _ _ _ => True) ?hAx ?assign ?body ?done ?stop
  case hI => exact ownFrom_below (Nat.le_refl _) (Nat.le_refl _)
  case hIx => rintro c s A B row h - -; exact h
  case hAx => rintro x a' s A B row - - -; trivial
  case assign =>
    rintro l pre x W K hp hK
    gi_wp2
    exact hK _ _ (KeepsFrom.refl _ _) (Below.refl _ _) hp trivial
  case body =>
    rintro l pre x a' W - - - - hlt
    exact absurd hlt (Nat.not_lt_zero _)
  case stop =>
    rintro D c pre W - hf
    exact hf.elim
  case done =>
    rintro D ys W hD rfl hB hK
    have hb2 : Below w7.heap.size w7 W := chainC HB7.out hB
    have hbw : Below w.heap.size w W := HB6.out.trans (hb2.mono HB6.out.size)
    have b1 := boxedB HB1.out hb2
    have b2 := boxedB HB2.out hb2
    have c1 := b1.cell
    have c2 := b2.cell
    have f2 := b2.frozen
    have k3 : W.cell? ⟨bg, 3, none⟩ = _ := keepC hbw HL.out
    have HH := Lib.hid (H.out.below hbw)
    have HBW := Lib.hid hbw
    have HB22 := Lib.hid b2
    have HKK := Lib.hid hK
    clear hb2 hbw b1 b2 hB hK
    gi_wp2_with fail
    refine ⟨trivial, (callsIn_wide.2 (force_same HH.out HE.out)).mono ?_⟩
    rintro e w9 ⟨rfl, hb9⟩
    have b29 := boxedB HB22.out hb9
    have c29 := b29.cell
    have f29 := b29.frozen
    have HB9 := Lib.hid hb9
    have HB29 := Lib.hid b29
    have hK9 := Lib.hid ((hb9.block D (Array.getElem?_eq_some_iff.1 HKK.out).1).trans HKK.out)
    clear hb9 b29
    gi_wp2_with fail
    have hK6 : (w9.setCell ⟨w.heap.size + 1, 0, none⟩ (.int .i64 0)).heap[D]? = some (.deferred (some [])) := (KeepsOthers.setCell _ _ _).same D _ hK9.out rfl
    have g2 : Boxed (w9.setCell ⟨w.heap.size + 1, 0, none⟩ (.int .i64 0)) (w.heap.size + 1) 26 (.int .i64 0) := HB29.out.set _
    refine ⟨by simp, .inl ⟨_, _, rfl, run_takeDeferred hK6, ?_⟩⟩
    have hc2 := cell_kept g2.cell (grownBy_putObj' _ D (.deferred none)) (fun r e => by cases e; exact ⟨_, hK6, rfl⟩)
    have hb5 : Below w.heap.size w w9 := HBW.out.trans (HB9.out.mono HBW.out.size)
    refine ⟨.int .i64 0, ?_, rfl, ?_⟩
    · simp [results, Tryz.results51, go_sem, hc2]
    · exact (hb5.setCell (p := ⟨w.heap.size + 1, 0, none⟩) (by show w.heap.size ≤ w.heap.size + 1; omega) _).trans (belowK_b (w := w) (Nat.le_refl _) _ D _ _ (by have := HB6.out.size; have := HS7.out; omega) hK6 rfl rfl)
end Go.Proofs.YtjknofiaacdgfaaGreatDoor
