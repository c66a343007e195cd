/- rostrumlaw20.SessionNobody: the walk. -/
import Derived.Test.YtfhbakbmnhbmnaaGreatDoorSess
import Derived.Deep.AppendLies
import Derived.Deep.OwnRows
import Derived.Deep.RegionLaw
import Derived.Laws.OwnMore
namespace Go.Proofs.YtfhbakbmnhbmnaaGreatDoor
open Go.RowKit
set_option linter.unusedVariables false

theorem infoSl8 : (Tryz.prog.info? 27).map (fun i => (i.zero, i.size, i.bytes)) = some (some (.slice none 0 0), 1, 24) := by kernel_rfl
set_option maxHeartbeats 2000000 in
set_option maxRecDepth 20000 in
theorem ref02new_three (w : World) :
    Calls Tryz.prog 10 #[.int .i64 3] w fun e w' => ∃ (bd c : Nat) (q : Option Addr), e = .returned (.tuple #[.pointer (some ⟨bd, 0, none⟩), .int .i64 0]) ∧ w'.cell? ⟨bd, 0, none⟩ = some (.slice q 3 c) ∧ Below w.heap.size w w' := by
  obtain ⟨i0, hi, hz0, hz1, hz2⟩ := info_parts infoSl8
  go_enter Tryz.func10, Tryz.ntmps10
  go_wp2_with fail
  have hmk : ∀ W : World, (Instr.makeSlice 27 (.int .i64 128) (.int .i64 128)).run Tryz.prog W = .ok (.slice (some ⟨W.heap.size, 0, none⟩) 128 128) (W.alloc (.cells (madeCells #[.int .u8 0] 128) 5)) := fun W => run_make_row' 27 5 (.int .u8 0) 1 Tryz.underlying27 info8 rfl .i64 .i64 128 (by omega) (by omega) W
  go_loopw [14] (fun i wr => ∃ (k : Nat) (v : Value) (xs : List Value), k ≤ 3 ∧ i = .int .i64 k ∧ Hid (wr.heap[w.heap.size]? = some (.cells #[v, .slice none 0 0] 53 (0, 0))) ∧
    Hid (wr.ownsRow (w.heap.size + 1) 27 1 v k xs) ∧ Hid (Below w.heap.size w wr) ∧ w.heap.size + 1 ≤ wr.heap.size) (fun i _ => 3 - (intOf i).toNat)
  case atStart => exact ⟨0, .slice none 0 0, [], Nat.zero_le _, rfl, Lib.hid (heap_alloc_new _ _), Lib.hid (World.ownsRow_nil _ _ _ _), Lib.hid ((Below.refl _ w).alloc (Nat.le_refl _) _), by simp⟩
  case round =>
    obtain ⟨k, v, xs, hk, rfl, HD, HR, HB, hsz⟩ := hrel
    by_cases hlt : k < 3
    · obtain ⟨q, cq, rfl, hqc⟩ : ∃ q c, v = .slice q k c ∧ k ≤ c := by
        rcases HR.out.2 with ⟨rfl, h0⟩ | ⟨g, cap, cur, rfl, _, _, h1, _⟩
        · exact ⟨none, 0, by rw [h0], by omega⟩
        · exact ⟨_, cap, rfl, h1⟩
      have k0 : wr.cell? ⟨w.heap.size, 0, none⟩ = some (.slice q k cq) := by simp [World.cell?, HD.out]
      have f0 : wr.frozen? ⟨w.heap.size, 0, none⟩ = false := frozenB HD.out
      have hlt1 : w.heap.size < wr.heap.size := hsz
      have HOA : Hid (((wr.alloc (.cells (madeCells #[.int .u8 0] 128) 5)).alloc (.cells #[.slice (some ⟨wr.heap.size, 0, none⟩) 128 128] 27)).drew.ownsRow (w.heap.size + 1) 27 1 (.slice q k cq) k xs) := Lib.hid ((HR.out.alloc _).alloc _).drew
      have kB1 : Below wr.heap.size wr (wr.alloc (.cells (madeCells #[.int .u8 0] 128) 5)) := (Below.refl _ wr).alloc (Nat.le_refl _) _
      have kc1 : (wr.alloc (.cells (madeCells #[.int .u8 0] 128) 5)).cell? ⟨w.heap.size, 0, none⟩ = some (.slice q k cq) := keepC kB1 k0
      have kc2 : ((wr.alloc (.cells (madeCells #[.int .u8 0] 128) 5)).alloc (.cells #[.slice (some ⟨wr.heap.size, 0, none⟩) 128 128] 27)).cell? ⟨w.heap.size, 0, none⟩ = some (.slice q k cq) := keepC (kB1.alloc (by simp) _) k0
      clear kB1
      have HNW : Hid (∀ (j : Nat) (u : Value), [Value.slice (some ⟨wr.heap.size, 0, none⟩) 128 128][j]? = some u → ((wr.alloc (.cells (madeCells #[.int .u8 0] 128) 5)).alloc (.cells #[.slice (some ⟨wr.heap.size, 0, none⟩) 128 128] 27)).drew.cell? ((⟨wr.heap.size + 1, 0, none⟩ : Addr).add j) = some u) := Lib.hid (by
        have h := cell_one_new (wr.alloc (.cells (madeCells #[.int .u8 0] 128) 5)) (.slice (some ⟨wr.heap.size, 0, none⟩) 128 128) 27
        rw [World.size_alloc] at h
        exact h)
      go_wp2
      go_region_law (first
        | (refine step_append_lies _ rfl (.tmp 20) (.tmp 22) 50 rfl (w.heap.size + 1) 27 i0 (.slice none 0 0) 1 24 Tryz.underlying50 hi hz0 hz1 hz2 rfl (by decide) (.slice q k cq) k xs rfl HOA.out ⟨wr.heap.size + 1, 0, none⟩ 1 1 [.slice (some ⟨wr.heap.size, 0, none⟩) 128 128] (by rfl) rfl HNW.out (by simp [Value.oneCell']) (by omega) (by simp only [maxLen]; omega) (by omega) (by simp; omega) (wr.heap.size + 1 + 1) (by simp) ?_; intro gg cap w3 hown1 hgrow hat hltg; have HD1 := Lib.hid (((hgrow.block w.heap.size (by simp; omega) (fun e' => by have := (HR.out.lt _ e'.symm).1; omega)).trans ((Below.heap_alloc _ _ _ (by simp; omega)).trans (Below.heap_alloc _ _ _ (by omega)))).trans HD.out); have k01 : w3.cell? ⟨w.heap.size, 0, none⟩ = some (.slice q k cq) := (by simp [World.cell?, HD1.out]); have f01 := frozenB (i := 0) HD1.out; have HR1 := Lib.hid hown1; have HG1 := Lib.hid hgrow; clear hown1 hgrow hat))
      all_goals go_wp2
      all_goals go_roundw
      all_goals first
        | exact ⟨k + 1, _, xs ++ [.slice (some ⟨wr.heap.size, 0, none⟩) 128 128], hlt, by simp,
            Lib.hid (heap_setCell_same w3 w.heap.size 0 _ _ _ HD1.out),
            Lib.hid (ownsRow_setCell_below HR1.out (a := ⟨w.heap.size, 0, none⟩) (by show w.heap.size < w.heap.size + 1; omega) (.slice (some ⟨gg, 0, none⟩) (k + 1) cap)),
            Lib.hid ((((((HB.out.alloc (by omega) _).alloc (by simp; omega) _).drew).grown HG1.out (by simp; omega) (fun j hj => by have := (HR.out.lt j hj).1; omega))).setCell (p := ⟨w.heap.size, 0, none⟩) (Nat.le_refl _) _),
            by have := HG1.out.size; simp at this ⊢; omega⟩
        | (simp [intOf]; omega)
    · obtain rfl : k = 3 := by omega
      obtain ⟨q, cq, rfl⟩ : ∃ q c, v = .slice q 3 c := by
        rcases HR.out.2 with ⟨rfl, h0⟩ | ⟨g, cap, cur, rfl, _, _, h1, _⟩
        · cases h0
        · exact ⟨_, cap, rfl⟩
      go_wp2
      go_ret2
      exact ⟨w.heap.size, cq, q, rfl, by simp [World.cell?, HD.out], HB.out⟩
theorem st_cells (w : World) (k : Nat) (hk : k < 2) : ∃ p : Option Addr, ((w.alloc (.cells #[.pointer none] 25)).alloc (.cells #[.pointer none, .pointer (some ⟨w.heap.size, 0, none⟩)] 22)).cell? ⟨w.heap.size + 1, k, none⟩ = some (.pointer p) ∧
    NoSt ((w.alloc (.cells #[.pointer none] 25)).alloc (.cells #[.pointer none, .pointer (some ⟨w.heap.size, 0, none⟩)] 22)) p := by
  obtain ⟨W, hW⟩ : ∃ W, W = w.alloc (.cells #[.pointer none] 25) := ⟨_, rfl⟩
  have hs : W.heap.size = w.heap.size + 1 := by rw [hW]; simp
  have hc : W.cell? ⟨w.heap.size, 0, none⟩ = some (.pointer none) := by rw [hW]; simp
  rw [← hW]
  have e : ∀ j v, (#[Value.pointer none, .pointer (some ⟨w.heap.size, 0, none⟩)] : Array Value)[j]? = some v → (W.alloc (.cells #[.pointer none, .pointer (some ⟨w.heap.size, 0, none⟩)] 22)).cell? ⟨w.heap.size + 1, j, none⟩ = some v := fun j v h => by
    rw [← hs]
    simp only [World.cell?, heap_alloc_new]
    simpa using h
  have hb : Below W.heap.size W (W.alloc (.cells #[.pointer none, .pointer (some ⟨w.heap.size, 0, none⟩)] 22)) := (Below.refl _ _).alloc (Nat.le_refl _) _
  rcases (show k = 0 ∨ k = 1 by omega) with rfl | rfl
  · exact ⟨none, e 0 _ rfl, .inl rfl⟩
  · exact ⟨some ⟨w.heap.size, 0, none⟩, e 1 _ rfl, .inr ⟨w.heap.size, rfl, keepC hb hc⟩⟩
set_option maxHeartbeats 4000000 in
set_option maxRecDepth 20000 in
theorem sessionNobody_walk (id : Int) (name : ByteArray) (w : World) (hE : ET w) :
    Calls Tryz.prog 3 #[.int .i64 id, .string name] w fun e w' => e = .returned (.bool true) ∧ Below w.heap.size w w' := by
  have HE := Lib.hid hE
  have HC := Lib.hid (st_cells w)
  have HB1 : Hid (Below w.heap.size w ((w.alloc (.cells #[.pointer none] 25)).alloc (.cells #[.pointer none, .pointer (some ⟨w.heap.size, 0, none⟩)] 22))) := Lib.hid (((Below.refl _ w).alloc (Nat.le_refl _) _).alloc (by simp) _)
  clear hE
  go_enter Tryz.func3, Tryz.ntmps3
  go_wp2_with fail
  generalize (w.alloc (.cells #[.pointer none] 25)).alloc (.cells #[.pointer none, .pointer (some ⟨w.heap.size, 0, none⟩)] 22) = W1 at HC HB1 ⊢
  go_loopw [28] (fun i wr => ∃ k : Nat, k ≤ 2 ∧ i = .int .i64 k ∧ Hid (Below W1.heap.size W1 wr)) (fun i _ => 2 - (intOf i).toNat)
  case atStart => exact ⟨0, by omega, rfl, Lib.hid (Below.refl _ _)⟩
  case round =>
    obtain ⟨k, hk, rfl, HB⟩ := hrel
    by_cases hlt : k < 2
    · obtain ⟨p, kp, np⟩ := HC.out k hlt
      have kp' := keepC HB.out kp
      have NP := Lib.hid (np.below HB.out)
      have HE1 := Lib.hid ((HE.out.below HB1.out).below HB.out)
      clear kp np
      have hki : (k : Int) < 2 := by omega
      go_wp2_with fail
      refine (unpack_none p id _ NP.out).mono ?_
      rintro e w1 ⟨rfl, hb1⟩
      have HA1 := Lib.hid hb1
      clear hb1
      go_wp2_with fail
      refine (next_none p _ (NP.out.below HA1.out) (HE1.out.below HA1.out)).mono ?_
      rintro e w2 ⟨rfl, hb2⟩
      have HA2 := Lib.hid (chainC HA1.out hb2)
      clear hb2
      go_wp2_with fail
      refine (list_none p _ (NP.out.below HA2.out)).mono ?_
      rintro e w3 ⟨rfl, hb3⟩
      have HA3 := Lib.hid (chainC HA2.out hb3)
      clear hb3
      go_wp2_with fail
      refine (drop_none p id _ (NP.out.below HA3.out)).mono ?_
      rintro e w4 ⟨rfl, hb4⟩
      have HA4 := Lib.hid (chainC HA3.out hb4)
      clear hb4
      go_wp2_with fail
      refine (cached_none p name _ (NP.out.below HA4.out)).mono ?_
      rintro e w5 ⟨rfl, hb5⟩
      have HA5 := Lib.hid (chainC HA4.out hb5)
      clear hb5
      go_wp2_with fail
      have HA6 := Lib.hid (chainC HA5.out ((Below.refl w5.heap.size w5).alloc (Nat.le_refl _) (.cells #[.string ⟨#[]⟩, .int .i64 0, .int .i64 0, .int .i64 0, .string ⟨#[]⟩] 40)))
      refine (roots_none p _ (NP.out.below HA6.out)).mono ?_
      rintro e w7 ⟨rfl, hb7⟩
      have HA7 := Lib.hid (chainC HA6.out hb7)
      clear hb7
      go_wp2_with fail
      obtain ⟨W8, hW8⟩ : ∃ W, W = w7.alloc (.cells #[.int .i64 2, .int .i64 2, .int .i64 2, .int .i64 2, .int .i64 2, .int .i64 2] 28) := ⟨_, rfl⟩
      have HA8 : Hid (Below wr.heap.size wr W8) := Lib.hid (by rw [hW8]; exact chainC HA7.out ((Below.refl w7.heap.size w7).alloc (Nat.le_refl _) _))
      have HK8 : Hid (∀ j : Nat, j < 6 → W8.cell? ⟨w7.heap.size, j, none⟩ = some (.int .i64 2)) := Lib.hid (fun j hj => by
        rw [hW8]
        simp only [World.cell?, heap_alloc_new]
        rcases (show j = 0 ∨ j = 1 ∨ j = 2 ∨ j = 3 ∨ j = 4 ∨ j = 5 by omega) with rfl | rfl | rfl | rfl | rfl | rfl <;> rfl)
      rw [← hW8]
      clear hW8
      go_loopw [74] (fun i wx => ∃ j : Nat, j ≤ 6 ∧ i = .int .i64 j ∧ Hid (wx = W8)) (fun i _ => 6 - (intOf i).toNat)
      case atStart => exact ⟨0, by omega, rfl, Lib.hid rfl⟩
      case round =>
        obtain ⟨j, hj, rfl, hw8⟩ := hrel
        obtain rfl := hw8.out
        clear hw8
        by_cases hlj : j < 6
        · have kj := HK8.out j hlj
          have hji : (j : Int) < 6 := by omega
          go_wp2_with fail
          go_roundw
          case rel => exact ⟨j + 1, by omega, by congr 1, Lib.hid trivial⟩
          case measure => simp [intOf]; omega
        · obtain rfl : j = 6 := by omega
          go_wp2_with fail
          go_roundw
          case rel => exact ⟨k + 1, by omega, by congr 1, Lib.hid (chainC HB.out HA8.out)⟩
          case measure => simp [intOf]; omega
    · obtain rfl : k = 2 := by omega
      have HB2 := Lib.hid (chainC HB1.out HB.out)
      go_wp2_with fail
      refine (ref02new_three _).mono ?_
      rintro e w3 ⟨bd, c, q, rfl, hk3, hb3⟩
      have HB3 := Lib.hid (chainC HB2.out hb3)
      have hl3 := cell_lt hk3
      clear hb3
      go_wp2
      go_ret
      exact ⟨rfl, HB3.out⟩
end Go.Proofs.YtfhbakbmnhbmnaaGreatDoor
