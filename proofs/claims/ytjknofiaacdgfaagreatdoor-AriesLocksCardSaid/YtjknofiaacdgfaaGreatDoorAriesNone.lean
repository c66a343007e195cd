/- A manager that no call made: each method tells so. -/
import Derived.Test.YtjknofiaacdgfaaGreatDoorLock
import Derived.Test.YtjknofiaacdgfaaGreatDoorInts
namespace Go.Proofs.YtjknofiaacdgfaaGreatDoor
open Go.RowKit
set_option linter.unusedVariables false
set_option maxRecDepth 20000
set_option maxHeartbeats 400000

theorem begin_none (p : Option Addr) (w : World) (h : NoMgr w p) :
    Calls Tryz.prog 9 #[.pointer p] w fun e w' => e = .returned (.tuple #[.int .i64 0, .int .i64 2]) ∧ w' = w := by
  go_enter_defers Tryz.func9, Tryz.ntmps9
  go_wp2_with fail
  refine (mheld_none p _ h).mono ?_
  rintro e w1 ⟨rfl, rfl⟩
  go_wp2_with fail
  exact ⟨_, results_tmp2 rfl _ _ _, rfl, rfl⟩
theorem read_none (p : Option Addr) (t n : Int) (w : World) (h : NoMgr w p) :
    Calls Tryz.prog 11 #[.pointer p, .int .i64 t, .int .i64 n] w fun e w' => e = .returned (.tuple #[.slice none 0 0, .int .i64 2]) ∧ w' = w := by
  go_enter_defers Tryz.func11, Tryz.ntmps11
  go_wp2_with fail
  refine (mheld_none p _ h).mono ?_
  rintro e w1 ⟨rfl, rfl⟩
  go_wp2_with fail
  exact ⟨_, results_tmp2 rfl _ _ _, rfl, rfl⟩
theorem write_none (p : Option Addr) (t n o : Int) (s : Value) (w : World) (h : NoMgr w p) :
    Calls Tryz.prog 10 #[.pointer p, .int .i64 t, .int .i64 n, .int .i64 o, s] w fun e w' => e = .returned (.int .i64 2) ∧ w' = w := by
  go_enter_defers Tryz.func10, Tryz.ntmps10
  go_wp2_with fail
  refine (mheld_none p _ h).mono ?_
  rintro e w1 ⟨rfl, rfl⟩
  go_wp2_with fail
  exact ⟨_, results_tmp rfl _ _ _, rfl, rfl⟩
theorem commit_none (p : Option Addr) (t : Int) (w : World) (h : NoMgr w p) :
    Calls Tryz.prog 13 #[.pointer p, .int .i64 t] w fun e w' => e = .returned (.int .i64 2) ∧ w' = w := by
  go_enter_defers Tryz.func13, Tryz.ntmps13
  go_wp2_with fail
  refine (mheld_none p _ h).mono ?_
  rintro e w1 ⟨rfl, rfl⟩
  go_wp2_with fail
  exact ⟨_, results_tmp rfl _ _ _, rfl, rfl⟩
theorem abort_none (p : Option Addr) (t : Int) (w : World) (h : NoMgr w p) :
    Calls Tryz.prog 14 #[.pointer p, .int .i64 t] w fun e w' => e = .returned (.int .i64 2) ∧ w' = w := by
  go_enter_defers Tryz.func14, Tryz.ntmps14
  go_wp2_with fail
  refine (mheld_none p _ h).mono ?_
  rintro e w1 ⟨rfl, rfl⟩
  go_wp2_with fail
  exact ⟨_, results_tmp rfl _ _ _, rfl, rfl⟩
theorem checkpoint_none (p : Option Addr) (w : World) (h : NoMgr w p) :
    Calls Tryz.prog 15 #[.pointer p] w fun e w' => e = .returned (.int .i64 2) ∧ w' = w := by
  go_enter_defers Tryz.func15, Tryz.ntmps15
  go_wp2_with fail
  refine (mheld_none p _ h).mono ?_
  rintro e w1 ⟨rfl, rfl⟩
  go_wp2_with fail
  exact ⟨_, results_tmp rfl _ _ _, rfl, rfl⟩
theorem pages_none (p : Option Addr) (w : World) (h : NoMgr w p) :
    Calls Tryz.prog 16 #[.pointer p] w fun e w' => e = .returned (.int .i64 0) ∧ w' = w := by
  rcases h with rfl | ⟨b, rfl, h2, h4, h6, h7⟩
  all_goals
    go_enter Tryz.func16, Tryz.ntmps16
    go_wp2
    go_ret
    exact ⟨rfl, rfl⟩
theorem records_none (p : Option Addr) (w : World) (h : NoMgr w p) :
    Calls Tryz.prog 17 #[.pointer p] w fun e w' => e = .returned (.int .i64 0) ∧ w' = w := by
  rcases h with rfl | ⟨b, rfl, h2, h4, h6, h7⟩
  all_goals
    go_enter Tryz.func17, Tryz.ntmps17
    go_wp2
    go_ret
    exact ⟨rfl, rfl⟩
theorem active_none (p : Option Addr) (w : World) (h : NoMgr w p) :
    Calls Tryz.prog 18 #[.pointer p] w fun e w' => e = .returned (.slice none 0 0) ∧ Below w.heap.size w w' := by
  rcases h with rfl | ⟨b, rfl, h2, h4, h6, h7⟩
  · go_enter Tryz.func18, Tryz.ntmps18
    go_wp2
    go_returns
    exact ⟨rfl, Below.refl _ _⟩
  · have hrg := run_range_nilMap (P := Tryz.prog) w 50 3 102 Tryz.underlying50
    have hnx : ∀ ty, (Instr.next (.pointer (some ⟨w.heap.size, 0, none⟩)) false ty).run Tryz.prog (w.alloc (.mapIter none 0 #[] 0)) = _ := fun ty => run_next_nilMap _ ty 0 0 #[]
    have HB := Lib.hid ((Below.refl w.heap.size w).alloc (Nat.le_refl _) (.mapIter none 0 #[] 0))
    go_enter Tryz.func18, Tryz.ntmps18
    go_wp2_with fail
    refine wp_loop_rounds 1 ?_
    rw [rounds_succ]
    go_wp2_with fail
    refine (sort_zero none 0 _).mono ?_
    rintro e w1 ⟨⟨x, rfl⟩, rfl⟩
    go_wp2
    go_returns
    exact ⟨rfl, HB.out⟩
end Go.Proofs.YtjknofiaacdgfaaGreatDoor
