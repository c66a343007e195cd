/- Which replies may be: net.mayReply and the document's. -/
import Derived.Test.YtefalhnllkkkhaaDoorIsID
namespace Go.Proofs.YtefalhnllkkkhaaDoor
open Go.RowKit
set_option linter.unusedVariables false
set_option linter.unusedSimpArgs false

def mayR (id text : ByteArray) (st se wh : Int) : Bool :=
  isID id && decide (text.size ≤ 1000 ∧ ((st = 1 ∧ se = 0 ∧ wh = 0) ∨ (st = 2 ∧ se = 0 ∧ 0 < wh ∧ wh < 1000 ∧ text.size = 0) ∨ (st = 3 ∧ 0 < se ∧ se < 10000 ∧ wh = 0)))
theorem ret_bool {a b : Bool} (h : a = b) : Ending.returned (.bool a) = Ending.returned (.bool b) := by rw [h]
theorem text_nil (s : ByteArray) : s.toList = [] ↔ s.size = 0 := by
  rw [strB_toList, ← strB_length]
  rcases strB s with _ | ⟨x, l⟩ <;> simp

set_option maxHeartbeats 2000000 in
set_option maxRecDepth 20000 in
theorem mayReply_any (id text : ByteArray) (st se wh : Int) (w : World) (h1 : id.size ≤ maxLen) (h2 : text.size ≤ maxLen) :
    Calls Tryd.prog 53 #[.agg #[.string id, .int .i64 st, .int .i64 se, .int .i64 wh, .string text]] w fun e w' => e = .returned (.bool (mayR id text st se wh)) ∧ Below w.heap.size w w' := by
  have H1 := Lib.hid h1
  have H2 := Lib.hid h2
  unfold maxLen at h2
  clear h1
  cases hI : isID id with
  | false =>
    have HI := Lib.hid hI
    clear hI
    go_enter Tryd.func53, Tryd.ntmps53
    go_wp2_with (go_at_call 69; refine (isID_any _ _ H1.out).mono ?_; rintro e w' ⟨rfl, rfl⟩; rw [HI.out])
    all_goals go_ret
    all_goals refine ⟨ret_bool ?_, by first | exact (Below.refl _ w).alloc (Nat.le_refl _) _ | exact ((Below.refl _ w).alloc (Nat.le_refl _) _).drew⟩
    all_goals rw [Bool.eq_iff_iff]
    all_goals simp only [mayR, HI.out, text_nil, List.isEmpty_iff, Bool.and_eq_true, decide_eq_true_eq, beq_iff_eq, beq_eq_false_iff_ne, ne_eq, Bool.false_and, true_and, false_and, Bool.false_eq_true, true_iff, false_iff, iff_true, iff_false] at *
    all_goals omega
  | true =>
    have HI := Lib.hid hI
    clear hI
    go_enter Tryd.func53, Tryd.ntmps53
    go_wp2_with (go_at_call 69; refine (isID_any _ _ H1.out).mono ?_; rintro e w' ⟨rfl, rfl⟩; rw [HI.out])
    all_goals go_ret
    all_goals refine ⟨ret_bool ?_, by first | exact (Below.refl _ w).alloc (Nat.le_refl _) _ | exact ((Below.refl _ w).alloc (Nat.le_refl _) _).drew⟩
    all_goals rw [Bool.eq_iff_iff]
    all_goals simp only [mayR, HI.out, text_nil, List.isEmpty_iff, Bool.and_eq_true, decide_eq_true_eq, beq_iff_eq, beq_eq_false_iff_ne, ne_eq, Bool.false_and, true_and, false_and, Bool.false_eq_true, true_iff, false_iff, iff_true, iff_false] at *
    all_goals omega
set_option maxHeartbeats 2000000 in
set_option maxRecDepth 20000 in
theorem refmayReply_any (id text : ByteArray) (st se wh : Int) (w : World) (h1 : id.size ≤ maxLen) (h2 : text.size ≤ maxLen) :
    Calls Tryd.prog 56 #[.agg #[.string id, .int .i64 st, .int .i64 se, .int .i64 wh, .string text]] w fun e w' => e = .returned (.bool (mayR id text st se wh)) ∧ Below w.heap.size w w' := by
  have H1 := Lib.hid h1
  have H2 := Lib.hid h2
  unfold maxLen at h2
  clear h1
  cases hI : isID id with
  | false =>
    have HI := Lib.hid hI
    clear hI
    go_enter Tryd.func56, Tryd.ntmps56
    go_wp2_with (go_at_call 75; refine (refisID_any _ _ H1.out).mono ?_; rintro e w' ⟨rfl, rfl⟩; rw [HI.out])
    all_goals go_ret
    all_goals refine ⟨ret_bool ?_, by first | exact (Below.refl _ w).alloc (Nat.le_refl _) _ | exact ((Below.refl _ w).alloc (Nat.le_refl _) _).drew⟩
    all_goals rw [Bool.eq_iff_iff]
    all_goals simp only [mayR, HI.out, text_nil, List.isEmpty_iff, Bool.and_eq_true, decide_eq_true_eq, beq_iff_eq, beq_eq_false_iff_ne, ne_eq, Bool.false_and, true_and, false_and, Bool.false_eq_true, true_iff, false_iff, iff_true, iff_false] at *
    all_goals omega
  | true =>
    have HI := Lib.hid hI
    clear hI
    go_enter Tryd.func56, Tryd.ntmps56
    go_wp2_with (go_at_call 75; refine (refisID_any _ _ H1.out).mono ?_; rintro e w' ⟨rfl, rfl⟩; rw [HI.out])
    all_goals go_ret
    all_goals refine ⟨ret_bool ?_, by first | exact (Below.refl _ w).alloc (Nat.le_refl _) _ | exact ((Below.refl _ w).alloc (Nat.le_refl _) _).drew⟩
    all_goals rw [Bool.eq_iff_iff]
    all_goals simp only [mayR, HI.out, text_nil, List.isEmpty_iff, Bool.and_eq_true, decide_eq_true_eq, beq_iff_eq, beq_eq_false_iff_ne, ne_eq, Bool.false_and, true_and, false_and, Bool.false_eq_true, true_iff, false_iff, iff_true, iff_false] at *
    all_goals omega
end Go.Proofs.YtefalhnllkkkhaaDoor
