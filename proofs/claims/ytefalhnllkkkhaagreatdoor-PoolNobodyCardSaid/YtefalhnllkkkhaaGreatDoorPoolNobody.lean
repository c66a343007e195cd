/- rostrumlaw05.PoolNobody: the walk. -/
import Derived.Test.YtefalhnllkkkhaaGreatDoorPoolNone
namespace Go.Proofs.YtefalhnllkkkhaaGreatDoor
open Go.RowKit
set_option linter.unusedVariables false

def zPool : Obj := .cells #[.map none, .int .i64 0, .pointer none, .pointer none, .int .i64 0, .int .i64 0, .int .i64 0] 56
theorem nobody_cells (w : World) (k : Nat) (hk : k < 2) : ∃ p, ((w.alloc zPool).alloc (.cells #[.pointer none, .pointer (some ⟨w.heap.size, 0, none⟩)] 31)).cell? ⟨w.heap.size + 1, k, none⟩ = some (.pointer p) ∧
    NoPool ((w.alloc zPool).alloc (.cells #[.pointer none, .pointer (some ⟨w.heap.size, 0, none⟩)] 31)) p := by
  have e : ∀ j v, (#[Value.pointer none, .pointer (some ⟨w.heap.size, 0, none⟩)] : Array Value)[j]? = some v → ((w.alloc zPool).alloc (.cells #[.pointer none, .pointer (some ⟨w.heap.size, 0, none⟩)] 31)).cell? ⟨w.heap.size + 1, j, none⟩ = some v := fun j v h => by
    have := cellNew (w := w.alloc zPool) (t := 31) h
    rw [World.size_alloc] at this
    exact this
  rcases (show k = 0 ∨ k = 1 by omega) with rfl | rfl
  · exact ⟨none, e 0 _ rfl, .inl rfl⟩
  · refine ⟨some ⟨w.heap.size, 0, none⟩, e 1 _ rfl, .inr ⟨w.heap.size, rfl, ?_⟩⟩
    have : (w.alloc zPool).cell? ⟨w.heap.size, 0, none⟩ = some (.map none) := cellNew rfl
    exact keepC ((Below.refl _ _).alloc (Nat.le_refl _) _) this

set_option maxHeartbeats 2000000 in
set_option maxRecDepth 20000 in
theorem poolNobody_walk (n : Int) (w : World) :
    Calls Tryz.prog 4 #[.int .i64 n] w fun e w' => e = .returned (.bool true) ∧ Below w.heap.size w w' := by
  have HC := Lib.hid (nobody_cells w)
  have HB1 : Hid (Below w.heap.size w ((w.alloc zPool).alloc (.cells #[.pointer none, .pointer (some ⟨w.heap.size, 0, none⟩)] 31))) := Lib.hid (((Below.refl _ w).alloc (Nat.le_refl _) _).alloc (by simp) _)
  unfold zPool at HC HB1
  have hmk : ∀ W : World, (Instr.makeSlice 37 (.int .i64 112) (.int .i64 112)).run Tryz.prog W = .ok (.slice (some ⟨W.heap.size, 0, none⟩) 112 112) (W.alloc (.cells (Zs 112) 5)) := make8 112 (by omega)
  go_enter Tryz.func4, Tryz.ntmps4
  go_wp2_with fail
  generalize (w.alloc (.cells #[.map none, .int .i64 0, .pointer none, .pointer none, .int .i64 0, .int .i64 0, .int .i64 0] 56)).alloc (.cells #[.pointer none, .pointer (some ⟨w.heap.size, 0, none⟩)] 31) = W1 at HC HB1 ⊢
  go_loopw [21] (fun i wr => ∃ k : Nat, k ≤ 2 ∧ i = .int .i64 k ∧ Hid (Below W1.heap.size W1 wr)) (fun i _ => 2 - (intOf i).toNat)
  case atStart => exact ⟨0, by omega, rfl, Lib.hid (Below.refl _ _)⟩
  case round =>
    obtain ⟨k, hk, rfl, HB⟩ := hrel
    by_cases hlt : k < 2
    · obtain ⟨p, kp, np⟩ := HC.out k hlt
      have kp' := keepC HB.out kp
      have NP := Lib.hid (np.below HB.out)
      clear kp np
      have hki : (k : Int) < 2 := by omega
      go_wp2_with fail
      refine (get_none p n _ NP.out).mono ?_
      rintro e w1 ⟨rfl, rfl⟩
      go_wp2_with fail
      have HBA := Lib.hid ((Below.refl _ w1).alloc (Nat.le_refl _) (.cells (Zs 112) 5))
      have NPA := Lib.hid (NP.out.below HBA.out)
      refine (put_none p n 1 _ 112 112 _ NPA.out).mono ?_
      rintro e w2 ⟨rfl, rfl⟩
      go_wp2_with fail
      refine (pin_none p n _ NPA.out).mono ?_
      rintro e w2 ⟨rfl, rfl⟩
      go_wp2_with fail
      refine (unpin_none p n _ NPA.out).mono ?_
      rintro e w2 ⟨rfl, rfl⟩
      go_wp2_with fail
      refine (pflush_none p n _ NPA.out).mono ?_
      rintro e w2 ⟨rfl, rfl⟩
      go_wp2_with fail
      refine (all_none p _ NPA.out).mono ?_
      rintro e w2 ⟨rfl, rfl⟩
      go_wp2_with fail
      refine (table_none p _ NPA.out).mono ?_
      rintro e w3 ⟨rfl, hb3⟩
      have HB3 := Lib.hid (chainC HBA.out hb3)
      have NP3 := Lib.hid (NPA.out.below hb3)
      clear hb3
      go_wp2_with fail
      refine (held_none p _ NP3.out).mono ?_
      rintro e w4 ⟨q4, c4, rfl, hb4⟩
      have HB4 := Lib.hid (chainC HB3.out hb4)
      clear hb4
      go_wp2_with fail
      go_roundw
      case rel => exact ⟨k + 1, by omega, by congr 1, Lib.hid (chainC HB.out HB4.out)⟩
      case measure => simp [intOf]; omega
    · obtain rfl : k = 2 := by omega
      go_wp2_with fail
      refine (diskNew_any 9 _ (by omega) (by omega)).mono ?_
      rintro e w2 ⟨bd, rfl, hbd, hbl, hD, hb2⟩
      have HD := Lib.hid (hD (fun _ => False) (fun k h => h.elim))
      have HB2 := Lib.hid (chainC HB.out hb2)
      clear hD hb2 hbd hbl
      go_wp2_with fail
      refine (logOpen_zero bd 0 2 9 _ HD.out (by omega) (by omega)).mono ?_
      rintro e w3 ⟨bl, rfl, hL, hbl, hb3⟩
      have HD3 := Lib.hid (HD.out.below hb3)
      have HB3 := Lib.hid (chainC HB2.out hb3)
      clear hb3 hbl hL
      go_wp2_with fail
      refine (poolNew_nodisk _ _ _ _ _).mono ?_
      rintro e w4 ⟨rfl, rfl⟩
      go_wp2_with fail
      refine (poolNew_nolog bd (zeroS 9) [] _ _ _ _ HD3.out).mono ?_
      rintro e w5 ⟨rfl, rfl⟩
      go_wp2_with fail
      go_ret
      exact ⟨rfl, HB1.out.trans (HB3.out.mono HB1.out.size)⟩
end Go.Proofs.YtefalhnllkkkhaaGreatDoor
