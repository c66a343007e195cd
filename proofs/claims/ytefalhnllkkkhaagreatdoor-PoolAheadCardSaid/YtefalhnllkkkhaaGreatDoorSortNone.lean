/- The sorts of no element; slices.Values, Sorted, SortedFunc of nothing. -/
import Derived.Test.YtefalhnllkkkhaaGreatDoorInts
namespace Go.Proofs.YtefalhnllkkkhaaGreatDoor
open Go.RowKit Go.Shelf
set_option linter.unusedVariables false
attribute [local go_sem] Oper.semAt_some

set_option maxRecDepth 100000 in
set_option maxHeartbeats 1000000 in
theorem len64_zero (w : World) : Calls Tryz.prog 82 #[.int .u64 0] w fun e w' => e = .returned (.int .i64 0) ∧ w' = w := by
  go_enter Tryz.func82, Tryz.ntmps82
  go_wp2
  go_ret
  exact ⟨by kernel_rfl, rfl⟩
set_option maxRecDepth 100000 in
set_option maxHeartbeats 1000000 in
theorem len_zero (w : World) : Calls Tryz.prog 49 #[.int .u64 0] w fun e w' => e = .returned (.int .i64 0) ∧ w' = w := by
  go_enter Tryz.func49, Tryz.ntmps49
  go_wp2_with fail
  refine (len64_zero _).mono ?_
  rintro e w' ⟨rfl, rfl⟩
  go_wp2
  go_ret
  exact ⟨rfl, rfl⟩
set_option maxHeartbeats 1000000 in
theorem insert_zero (v u : Value) (w : World) : Calls Tryz.prog 72 #[v, .int .i64 0, .int .i64 0] w fun e w' => (∃ x, e = .returned x) ∧ w' = w := by
  go_enter Tryz.func72, Tryz.ntmps72
  go_wp2
  go_loopw [6] (fun i wr => i = .int .i64 1 ∧ wr = w) (fun _ _ => 0)
  case atStart => exact ⟨rfl, rfl⟩
  case round =>
    obtain ⟨rfl, rfl⟩ := hrel
    go_wp2
    go_end0
    exact ⟨⟨_, rfl⟩, rfl⟩
set_option maxHeartbeats 1000000 in
theorem insertF_zero (v u : Value) (w : World) : Calls Tryz.prog 113 #[v, .int .i64 0, .int .i64 0, u] w fun e w' => (∃ x, e = .returned x) ∧ w' = w := by
  go_enter Tryz.func113, Tryz.ntmps113
  go_wp2
  go_loopw [8] (fun i wr => i = .int .i64 1 ∧ wr = w) (fun _ _ => 0)
  case atStart => exact ⟨rfl, rfl⟩
  case round =>
    obtain ⟨rfl, rfl⟩ := hrel
    go_wp2
    go_end0
    exact ⟨⟨_, rfl⟩, rfl⟩
set_option maxHeartbeats 1000000 in
theorem pdq_zero (v u : Value) (l : Int) (w : World) : Calls Tryz.prog 48 #[v, .int .i64 0, .int .i64 0, .int .i64 l] w fun e w' => (∃ x, e = .returned x) ∧ w' = w := by
  go_enter Tryz.func48, Tryz.ntmps48
  go_wp2_with fail
  go_loopw [1, 2, 3, 8, 9] (fun i j k p q wr => i = .int .i64 0 ∧ j = .int .i64 0 ∧ k = .int .i64 l ∧ p = .bool true ∧ q = .bool true ∧ wr = w) (fun _ _ _ _ _ _ => 0)
  case atStart => exact ⟨rfl, rfl, rfl, rfl, rfl, rfl⟩
  case round =>
    obtain ⟨rfl, rfl, rfl, rfl, rfl, rfl⟩ := hrel
    go_wp2_with fail
    refine (insert_zero v u _).mono ?_
    rintro e w' ⟨⟨x, rfl⟩, rfl⟩
    go_wp2
    go_returns
    exact ⟨⟨_, rfl⟩, rfl⟩
set_option maxHeartbeats 1000000 in
theorem pdqF_zero (v u : Value) (l : Int) (w : World) : Calls Tryz.prog 107 #[v, .int .i64 0, .int .i64 0, .int .i64 l, u] w fun e w' => (∃ x, e = .returned x) ∧ w' = w := by
  go_enter Tryz.func107, Tryz.ntmps107
  go_wp2_with fail
  go_loopw [1, 2, 3, 10, 11] (fun i j k p q wr => i = .int .i64 0 ∧ j = .int .i64 0 ∧ k = .int .i64 l ∧ p = .bool true ∧ q = .bool true ∧ wr = w) (fun _ _ _ _ _ _ => 0)
  case atStart => exact ⟨rfl, rfl, rfl, rfl, rfl, rfl⟩
  case round =>
    obtain ⟨rfl, rfl, rfl, rfl, rfl, rfl⟩ := hrel
    go_wp2_with fail
    refine (insertF_zero v u _).mono ?_
    rintro e w' ⟨⟨x, rfl⟩, rfl⟩
    go_wp2
    go_returns
    exact ⟨⟨_, rfl⟩, rfl⟩
set_option maxHeartbeats 1000000 in
theorem sort_zero (p : Option Addr) (c : Nat) (w : World) : Calls Tryz.prog 23 #[.slice p 0 c] w fun e w' => (∃ x, e = .returned x) ∧ w' = w := by
  go_enter Tryz.func23, Tryz.ntmps23
  go_wp2_with fail
  refine (len_zero _).mono ?_
  rintro e w' ⟨rfl, rfl⟩
  go_wp2_with fail
  refine (pdq_zero _ undef _ _).mono ?_
  rintro e w' ⟨⟨x, rfl⟩, rfl⟩
  go_wp2
  go_end0
  exact ⟨⟨_, rfl⟩, rfl⟩
set_option maxHeartbeats 1000000 in
theorem sortFunc_zero (p : Option Addr) (c : Nat) (u : Value) (w : World) : Calls Tryz.prog 92 #[.slice p 0 c, u] w fun e w' => (∃ x, e = .returned x) ∧ w' = w := by
  go_enter Tryz.func92, Tryz.ntmps92
  go_wp2_with fail
  refine (len_zero _).mono ?_
  rintro e w' ⟨rfl, rfl⟩
  go_wp2_with fail
  refine (pdqF_zero _ _ _ _).mono ?_
  rintro e w' ⟨⟨x, rfl⟩, rfl⟩
  go_wp2
  go_end0
  exact ⟨⟨_, rfl⟩, rfl⟩
/-- A nil slice, or one of no element. -/
theorem own_zero {w : World} {base n size : Nat} {e : TypeId} {v : Value} {xs : List Value} (h : w.ownsRow base e size v n xs) : ∃ p c, v = .slice p n c := by
  rcases h.2 with ⟨rfl, rfl⟩ | ⟨g, cap, cur, rfl, hb, hh, h1, h2, _⟩
  · exact ⟨none, 0, rfl⟩
  · exact ⟨_, cap, rfl⟩

/-- slices.SortedFunc over maps.Keys of no map: nothing. -/
theorem keys_any (m : Option Nat) (w : World) : Calls Tryz.prog 70 #[.map m] w fun e w' => e = .returned (.func (.func 93) #[] #[.pointer (some ⟨w.heap.size, 0, none⟩)]) ∧ w' = w.alloc (.cells #[.map m] 52) := by
  go_enter Tryz.func70, Tryz.ntmps70
  go_wp2
  go_ret
  exact ⟨rfl, rfl⟩
theorem keepsB (n : Nat) (w : World) (h : n = w.heap.size) : ∀ W W', KeepsOthers W W' → Below w.heap.size W W' → Below n W W' := fun W W' _ hb => by rw [h]; exact hb
set_option maxHeartbeats 1000000 in
theorem sortedFuncNil_any (Bm : Nat) (u : Value) (w : World) (hm : w.cell? ⟨Bm, 0, none⟩ = some (.map none)) :
    Calls Tryz.prog 69 #[.func (.func 93) #[] #[.pointer (some ⟨Bm, 0, none⟩)], u] w fun e w' => ∃ p c, e = .returned (.slice p 0 c) ∧ Below w.heap.size w w' := by
  have hcol : Calls Tryz.prog 67 #[.func (.func 93) #[] #[.pointer (some ⟨Bm, 0, none⟩)]] w fun e w' => ∃ p c, e = .returned (.slice p 0 c) ∧ Below w.heap.size w w' := by
    refine (callsIn_wide (n := 5)).1 ?_
    refine (collectInts_in Fence.wide 5 trivial trivial 93 trivial (enters_of Tryz.func93 (by kernel_rfl) rfl) rfl (by omega) _ 0 (by omega) (fun ys => ys = []) (fun _ => False) w (Kp := Below w.heap.size) belowK_t (belowK_b (Nat.le_refl _)) (fun _ _ _ h => h)
      (keysNil_stops Fence.wide 3 trivial rfl Bm w.heap.size w (cell_lt hm) hm)).mono ?_
    rintro e w' ⟨v, ys, rfl, rfl, hown, hb⟩
    obtain ⟨p, c, rfl⟩ := own_zero hown
    exact ⟨p, c, rfl, hb⟩
  go_enter Tryz.func69, Tryz.ntmps69
  go_wp2_with fail
  refine hcol.mono ?_
  rintro e w1 ⟨p, c, rfl, hb⟩
  go_wp2_with fail
  refine (sortFunc_zero p c u _).mono ?_
  rintro e w2 ⟨⟨x, rfl⟩, rfl⟩
  go_wp2
  go_ret
  exact ⟨p, c, rfl, hb⟩
set_option maxRecDepth 100000 in
set_option maxHeartbeats 1000000 in
/-- slices.Values's iterator over no element: nothing comes. -/
theorem valuesNil_stops (F : Fence) (n : Nat) (hf : F.fn 68) (hro : F.round = none) (Bs n₀ c : Nat) (p : Option Addr) (w : World) (hm : w.cell? ⟨Bs, 0, none⟩ = some (.slice p 0 c)) :
    SeqStopsK F n Tryz.prog 68 #[.pointer (some ⟨Bs, 0, none⟩)] (fun x : Int => #[Value.int .i64 x]) (Below n₀) (fun ys => ys = []) (fun _ => False) 0 w :=
  fun l J Jx W hW hJ _ hY h0 => by
    have hm' := (hW.cell (p := ⟨Bs, 0, none⟩) (cell_lt hm)).trans hm
    refine callsIn_of_wp Tryz.func68 rfl hf ?_ hro
    simp only [Tryz.ntmps68, List.size_toArray, List.length_cons, List.length_nil, Nat.reduceAdd, Nat.reduceSub, Array.replicate_succ, Array.replicate_zero, List.push_toArray, List.append_toArray, List.nil_append, List.cons_append]
    gi_wp2
    gi_loopw [7] (fun i wr => i = .int .i64 0 ∧ J [] wr) (fun _ _ => 0)
    case atStart => exact ⟨rfl, h0⟩
    case round =>
      obtain ⟨rfl, hJs⟩ := hrel
      gi_wp2
      go_end0
      exact ⟨⟨_, rfl⟩, .inl ⟨[], rfl, hJs⟩⟩
theorem values_any (p : Option Addr) (n c : Nat) (w : World) : Calls Tryz.prog 46 #[.slice p n c] w fun e w' => e = .returned (.func (.func 68) #[] #[.pointer (some ⟨w.heap.size, 0, none⟩)]) ∧ w' = w.alloc (.cells #[.slice p n c] 63) := by
  go_enter Tryz.func46, Tryz.ntmps46
  go_wp2
  go_ret
  exact ⟨rfl, rfl⟩
set_option maxHeartbeats 1000000 in
theorem sortedNil_any (Bm c0 : Nat) (p0 : Option Addr) (w : World) (hm : w.cell? ⟨Bm, 0, none⟩ = some (.slice p0 0 c0)) :
    Calls Tryz.prog 45 #[.func (.func 68) #[] #[.pointer (some ⟨Bm, 0, none⟩)]] w fun e w' => ∃ p c, e = .returned (.slice p 0 c) ∧ Below w.heap.size w w' := by
  have hcol : Calls Tryz.prog 67 #[.func (.func 68) #[] #[.pointer (some ⟨Bm, 0, none⟩)]] w fun e w' => ∃ p c, e = .returned (.slice p 0 c) ∧ Below w.heap.size w w' := by
    refine (callsIn_wide (n := 5)).1 ?_
    refine (collectInts_in Fence.wide 5 trivial trivial 68 trivial (enters_of Tryz.func68 (by kernel_rfl) rfl) rfl (by omega) _ 0 (by omega) (fun ys => ys = []) (fun _ => False) w (Kp := Below w.heap.size) belowK_t (belowK_b (Nat.le_refl _)) (fun _ _ _ h => h)
      (valuesNil_stops Fence.wide 3 trivial rfl Bm w.heap.size c0 p0 w hm)).mono ?_
    rintro e w' ⟨v, ys, rfl, rfl, hown, hb⟩
    obtain ⟨p, c, rfl⟩ := own_zero hown
    exact ⟨p, c, rfl, hb⟩
  go_enter Tryz.func45, Tryz.ntmps45
  go_wp2_with fail
  refine hcol.mono ?_
  rintro e w1 ⟨p, c, rfl, hb⟩
  go_wp2_with fail
  refine (sort_zero p c _).mono ?_
  rintro e w2 ⟨⟨x, rfl⟩, rfl⟩
  go_wp2
  go_ret
  exact ⟨p, c, rfl, hb⟩
end Go.Proofs.YtefalhnllkkkhaaGreatDoor
