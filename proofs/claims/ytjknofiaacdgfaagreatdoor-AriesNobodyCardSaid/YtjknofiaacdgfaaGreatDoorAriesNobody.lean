/- rostrumlaw06.AriesNobody: the walk. -/
import Derived.Test.YtjknofiaacdgfaaGreatDoorAriesBegin
namespace Go.Proofs.YtjknofiaacdgfaaGreatDoor
open Go.RowKit Go.Shelf
set_option linter.unusedVariables false

theorem mgr_cells (w : World) (k : Nat) (hk : k < 2) : ∃ p : Option Addr, ((w.alloc (.cells #[.int .i32 0, .int .u32 0, .pointer none, .pointer none, .int .i64 0, .int .i64 0, .int .i64 0, .map none] 52)).alloc (.cells #[.pointer none, .pointer (some ⟨w.heap.size, 0, none⟩)] 29)).cell? ⟨w.heap.size + 1, k, none⟩ = some (.pointer p) ∧
    NoMgr ((w.alloc (.cells #[.int .i32 0, .int .u32 0, .pointer none, .pointer none, .int .i64 0, .int .i64 0, .int .i64 0, .map none] 52)).alloc (.cells #[.pointer none, .pointer (some ⟨w.heap.size, 0, none⟩)] 29)) p := by
  obtain ⟨W, hW⟩ : ∃ W, W = w.alloc (.cells #[.int .i32 0, .int .u32 0, .pointer none, .pointer none, .int .i64 0, .int .i64 0, .int .i64 0, .map none] 52) := ⟨_, rfl⟩
  have hs : W.heap.size = w.heap.size + 1 := by rw [hW]; simp
  have hc : ∀ j v, (#[Value.int .i32 0, .int .u32 0, .pointer none, .pointer none, .int .i64 0, .int .i64 0, .int .i64 0, .map none] : Array Value)[j]? = some v → W.cell? ⟨w.heap.size, j, none⟩ = some v := fun j v h => by rw [hW]; exact cellNew h
  rw [← hW]
  have e : ∀ j v, (#[Value.pointer none, .pointer (some ⟨w.heap.size, 0, none⟩)] : Array Value)[j]? = some v → (W.alloc (.cells #[.pointer none, .pointer (some ⟨w.heap.size, 0, none⟩)] 29)).cell? ⟨w.heap.size + 1, j, none⟩ = some v := fun j v h => by
    have := cellNew (w := W) (t := 29) h
    rw [hs] at this
    exact this
  rcases (show k = 0 ∨ k = 1 by omega) with rfl | rfl
  · exact ⟨none, e 0 _ rfl, .inl rfl⟩
  · have hb : Below W.heap.size W (W.alloc (.cells #[.pointer none, .pointer (some ⟨w.heap.size, 0, none⟩)] 29)) := (Below.refl _ _).alloc (Nat.le_refl _) _
    exact ⟨some ⟨w.heap.size, 0, none⟩, e 1 _ rfl, .inr ⟨w.heap.size, rfl, keepC hb (hc 2 _ rfl), keepC hb (hc 4 _ rfl), keepC hb (hc 6 _ rfl), keepC hb (hc 7 _ rfl)⟩⟩
theorem noDisk_below {w w' : World} {p : Option Addr} (h : NoDisk w p) (hb : Below w.heap.size w w') : NoDisk w' p := by
  rcases h with rfl | ⟨b, c, rfl, h⟩
  · exact .inl rfl
  · exact .inr ⟨b, c, rfl, keepC hb h⟩
theorem dsk_cells (w : World) (k : Nat) (hk : k < 2) : ∃ p : Option Addr, ((w.alloc (.cells #[.slice none 0 0, .slice none 0 0] 62)).alloc (.cells #[.pointer none, .pointer (some ⟨w.heap.size, 0, none⟩)] 28)).cell? ⟨w.heap.size + 1, k, none⟩ = some (.pointer p) ∧
    NoDisk ((w.alloc (.cells #[.slice none 0 0, .slice none 0 0] 62)).alloc (.cells #[.pointer none, .pointer (some ⟨w.heap.size, 0, none⟩)] 28)) p := by
  obtain ⟨W, hW⟩ : ∃ W, W = w.alloc (.cells #[.slice none 0 0, .slice none 0 0] 62) := ⟨_, rfl⟩
  have hs : W.heap.size = w.heap.size + 1 := by rw [hW]; simp
  have hc : W.cell? ⟨w.heap.size, 0, none⟩ = some (.slice none 0 0) := by rw [hW]; exact cellNew rfl
  rw [← hW]
  have e : ∀ j v, (#[Value.pointer none, .pointer (some ⟨w.heap.size, 0, none⟩)] : Array Value)[j]? = some v → (W.alloc (.cells #[.pointer none, .pointer (some ⟨w.heap.size, 0, none⟩)] 28)).cell? ⟨w.heap.size + 1, j, none⟩ = some v := fun j v h => by
    have := cellNew (w := W) (t := 28) h
    rw [hs] at this
    exact this
  rcases (show k = 0 ∨ k = 1 by omega) with rfl | rfl
  · exact ⟨none, e 0 _ rfl, .inl rfl⟩
  · have hb : Below W.heap.size W (W.alloc (.cells #[.pointer none, .pointer (some ⟨w.heap.size, 0, none⟩)] 28)) := (Below.refl _ _).alloc (Nat.le_refl _) _
    exact ⟨some ⟨w.heap.size, 0, none⟩, e 1 _ rfl, .inr ⟨w.heap.size, 0, rfl, keepC hb hc⟩⟩
set_option maxHeartbeats 4000000 in
set_option maxRecDepth 20000 in
theorem ariesNobody_walk (t n : Int) (w : World) (hT : Halves w) (hg : 0 < w.heap.size) :
    Calls Tryz.prog 4 #[.int .i64 t, .int .i64 n] w fun e w' => e = .returned (.bool true) ∧ Below w.heap.size w w' := by
  have HT := Lib.hid hT
  have HG := Lib.hid hg
  have HC := Lib.hid (mgr_cells w)
  have HB1 : Hid (Below w.heap.size w ((w.alloc (.cells #[.int .i32 0, .int .u32 0, .pointer none, .pointer none, .int .i64 0, .int .i64 0, .int .i64 0, .map none] 52)).alloc (.cells #[.pointer none, .pointer (some ⟨w.heap.size, 0, none⟩)] 29))) := Lib.hid (((Below.refl _ w).alloc (Nat.le_refl _) _).alloc (by simp) _)
  clear hT hg
  go_enter Tryz.func4, Tryz.ntmps4
  go_wp2_with fail
  generalize (w.alloc (.cells #[.int .i32 0, .int .u32 0, .pointer none, .pointer none, .int .i64 0, .int .i64 0, .int .i64 0, .map none] 52)).alloc (.cells #[.pointer none, .pointer (some ⟨w.heap.size, 0, none⟩)] 29) = W1 at HC HB1 ⊢
  go_loopw [19] (fun i wr => ∃ k : Nat, k ≤ 2 ∧ i = .int .i64 k ∧ Hid (Below W1.heap.size W1 wr)) (fun i _ => 2 - (intOf i).toNat)
  case atStart => exact ⟨0, by omega, rfl, Lib.hid (Below.refl _ _)⟩
  case round =>
    obtain ⟨k, hk, rfl, HB⟩ := hrel
    by_cases hlt : k < 2
    · obtain ⟨p, kp, np⟩ := HC.out k hlt
      have kp' := keepC HB.out kp
      have NP := Lib.hid (np.below HB.out)
      clear kp np
      have hki : (k : Int) < 2 := by omega
      go_wp2_with fail
      refine (begin_none p _ NP.out).mono ?_
      rintro e w1 ⟨rfl, rfl⟩
      go_wp2_with fail
      refine (read_none p t n _ NP.out).mono ?_
      rintro e w2 ⟨rfl, rfl⟩
      go_wp2_with fail
      have HBA := Lib.hid ((Below.refl _ w2).alloc (Nat.le_refl _) (.cells #[.int .u8 1] 5))
      have NPA := Lib.hid (NP.out.below HBA.out)
      refine (write_none p t n 0 _ _ NPA.out).mono ?_
      rintro e w3 ⟨rfl, rfl⟩
      go_wp2_with fail
      refine (commit_none p t _ NPA.out).mono ?_
      rintro e w3 ⟨rfl, rfl⟩
      go_wp2_with fail
      refine (abort_none p t _ NPA.out).mono ?_
      rintro e w3 ⟨rfl, rfl⟩
      go_wp2_with fail
      refine (checkpoint_none p _ NPA.out).mono ?_
      rintro e w3 ⟨rfl, rfl⟩
      go_wp2_with fail
      refine (pages_none p _ NPA.out).mono ?_
      rintro e w3 ⟨rfl, rfl⟩
      go_wp2_with fail
      refine (records_none p _ NPA.out).mono ?_
      rintro e w3 ⟨rfl, rfl⟩
      go_wp2_with fail
      refine (active_none p _ NPA.out).mono ?_
      rintro e w3 ⟨rfl, hb3⟩
      have HB3 := Lib.hid (chainC HBA.out hb3)
      clear hb3
      go_wp2_with fail
      go_roundw
      case rel => exact ⟨k + 1, by omega, by congr 1, Lib.hid (chainC HB.out HB3.out)⟩
      case measure => simp [intOf]; omega
    · obtain rfl : k = 2 := by omega
      go_wp2_with fail
      have HC2 := Lib.hid (dsk_cells wr)
      have HB2 : Hid (Below wr.heap.size wr ((wr.alloc (.cells #[.slice none 0 0, .slice none 0 0] 62)).alloc (.cells #[.pointer none, .pointer (some ⟨wr.heap.size, 0, none⟩)] 28))) := Lib.hid (((Below.refl _ wr).alloc (Nat.le_refl _) _).alloc (by simp) _)
      generalize (wr.alloc (.cells #[.slice none 0 0, .slice none 0 0] 62)).alloc (.cells #[.pointer none, .pointer (some ⟨wr.heap.size, 0, none⟩)] 28) = W2 at HC2 HB2 ⊢
      have HW2 : Hid (Below w.heap.size w W2) := Lib.hid (HB1.out.trans ((HB.out.mono HB1.out.size).trans (HB2.out.mono (Nat.le_trans HB1.out.size HB.out.size))))
      go_loopw [94] (fun i wr => ∃ k : Nat, k ≤ 2 ∧ i = .int .i64 k ∧ Hid (Below W2.heap.size W2 wr)) (fun i _ => 2 - (intOf i).toNat)
      case atStart => exact ⟨0, by omega, rfl, Lib.hid (Below.refl _ _)⟩
      case round =>
        obtain ⟨k, hk, rfl, HBr⟩ := hrel
        by_cases hlt : k < 2
        · obtain ⟨p, kp0, np⟩ := HC2.out k hlt
          have kp := keepC HBr.out kp0
          have NP := Lib.hid (noDisk_below np HBr.out)
          clear np kp0
          have hki : (k : Int) < 2 := by omega
          go_wp2_with fail
          refine (ariesOpen_none p _ _ _ _ NP.out).mono ?_
          rintro e w3 ⟨rfl, rfl⟩
          go_wp2_with fail
          go_roundw
          case rel =>
            first
              | (refine ⟨_, _, _, _, _, _, _, _, _, _, _, _, _, _, _, _, _, _, _, _, ⟨k + 1, by omega, ?_, HBr⟩, rfl⟩; first | rfl | congr 1)
              | (refine ⟨_, _, _, _, _, _, _, _, _, _, _, _, _, _, _, _, _, _, _, _, ⟨k + 1, by omega, rfl, HBr⟩, rfl⟩)
          case measure => simp [intOf]; omega
        · obtain rfl : k = 2 := by omega
          go_wp2_with fail
          have HW3 : Hid (Below w.heap.size w _) := Lib.hid (HW2.out.trans (HBr.out.mono HW2.out.size))
          refine (lawbegin_any _ (HT.out.below HW3.out) (by have := HG.out; have := HW3.out.size; omega)).mono ?_
          rintro e w3 ⟨bw, bg, bp, bl, bm, ba, bd, rfl, -, -, hb⟩
          have HB3 := Lib.hid (HW3.out.trans (hb.mono HW3.out.size))
          clear hb
          go_wp2
          go_ret
          exact ⟨rfl, HB3.out⟩
end Go.Proofs.YtjknofiaacdgfaaGreatDoor
