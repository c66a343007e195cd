/- held: takes the lock of a manager that a call made. -/
import Derived.Test.YtheeomjfpnijbaaGreatDoorMutex
import Derived.Test.YtheeomjfpnijbaaGreatDoorDisk
namespace Go.Proofs.YtheeomjfpnijbaaGreatDoor
open Go.RowKit
set_option linter.unusedVariables false

/-- No manager: nil, or one that no call made. -/
def NoMgr (w : World) (p : Option Addr) : Prop := p = none ∨ ∃ b, p = some ⟨b, 0, none⟩ ∧ w.cell? ⟨b, 2, none⟩ = some (.pointer none) ∧ w.cell? ⟨b, 4, none⟩ = some (.int .i64 0) ∧ w.cell? ⟨b, 6, none⟩ = some (.int .i64 0) ∧ w.cell? ⟨b, 7, none⟩ = some (.map none)
theorem NoMgr.below {w w' : World} {p : Option Addr} (h : NoMgr w p) (hb : Below w.heap.size w w') : NoMgr w' p := by
  rcases h with rfl | ⟨b, rfl, h, h4, h6, h7⟩
  · exact .inl rfl
  · exact .inr ⟨b, rfl, keepC hb h, keepC hb h4, keepC hb h6, keepC hb h7⟩

set_option maxRecDepth 20000 in
set_option maxHeartbeats 400000 in
theorem mheld_none (p : Option Addr) (w : World) (h : NoMgr w p) :
    Calls Tryz.prog 97 #[.pointer p] w fun e w' => e = .returned (.bool false) ∧ w' = w := by
  rcases h with rfl | ⟨b, rfl, h, -⟩
  · go_enter Tryz.func97, Tryz.ntmps97
    go_wp2
    go_ret
    exact ⟨rfl, rfl⟩
  · go_enter Tryz.func97, Tryz.ntmps97
    go_wp2
    go_ret
    exact ⟨rfl, rfl⟩
set_option maxRecDepth 20000 in
set_option maxHeartbeats 400000 in
theorem mheld_some (b : Nat) (q : Addr) (w : World) (h : w.cell? ⟨b, 2, none⟩ = some (.pointer (some q))) (h0 : w.cell? ⟨b, 0, none⟩ = some (.int .i32 0)) (hz : w.frozen? ⟨b, 0, none⟩ = false) :
    Calls Tryz.prog 97 #[.pointer (some ⟨b, 0, none⟩)] w fun e w' => e = .returned (.bool true) ∧ w' = w.setCell ⟨b, 0, none⟩ (.int .i32 1) := by
  go_enter Tryz.func97, Tryz.ntmps97
  go_wp2_with fail
  refine (Go.MuLone.lock_free muLib ⟨b, 0, none⟩ _ h0 hz).mono ?_
  rintro e w1 ⟨rfl, rfl⟩
  go_wp2
  go_ret
  exact ⟨rfl, rfl⟩
end Go.Proofs.YtheeomjfpnijbaaGreatDoor
