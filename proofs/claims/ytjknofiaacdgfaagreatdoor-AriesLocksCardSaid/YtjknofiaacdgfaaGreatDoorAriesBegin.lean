/- rostrumlaw06.begin: a manager over a new disk. -/
import Derived.Test.YtjknofiaacdgfaaGreatDoorAriesOpen
namespace Go.Proofs.YtjknofiaacdgfaaGreatDoor
open Go.RowKit Go.Shelf
set_option linter.unusedVariables false

/-- A manager over a disk of noughts, of 40 and 6. -/
structure Fresh (Z : Nat) (w : World) (bg bp bl bm ba bd : Nat) : Prop where
  cells : w.heap[bg]? = some (MgrC bp bl 6 ba)
  st : St w (z0 Z) bd bl 46 0 (fun _ => zeros 128) ⟨0, 40, 1, 0, 0, 0, .slice none 0 0, []⟩
  pool : PoolAt w (z0 Z) bp bd bl bm 40 6 2 0 []
  map : MapZ w ba []
  low : Z ≤ bg ∧ Z ≤ ba ∧ ba ≠ bm
theorem Fresh.below {Z : Nat} {w w' : World} {bg bp bl bm ba bd : Nat} (h : Fresh Z w bg bp bl bm ba bd) (hb : Below w.heap.size w w') : Fresh Z w' bg bp bl bm ba bd :=
  ⟨(hb.block _ (Array.getElem?_eq_some_iff.1 h.cells).1).trans h.cells, h.st.below hb, h.pool.below hb, h.map.upd (Upd.of_below' hb (fun _ => False)) (fun h => h), h.low⟩
set_option maxHeartbeats 2000000 in
set_option maxRecDepth 20000 in
theorem lawbegin_any (w : World) (hT : Halves w) (hg : 0 < w.heap.size) :
    Calls Tryz.prog 8 #[] w fun e w' => ∃ bw bg bp bl bm ba bd : Nat, e = .returned (.pointer (some ⟨bw, 0, none⟩)) ∧ w'.cell? ⟨bw, 1, none⟩ = some (.pointer (some ⟨bg, 0, none⟩)) ∧ Fresh w.heap.size w' bg bp bl bm ba bd ∧ Typed w' bw 33 ∧ Below w.heap.size w w' := by
  have HT := Lib.hid hT
  have HG := Lib.hid hg
  have hmm := @run_makeMap Tryz.prog
  obtain ⟨i0, hi, hz0, hz1, hz2⟩ := info_parts infoSlD
  have hmk : ∀ W : World, (Instr.makeSlice 22 (.int .i64 112) (.int .i64 112)).run Tryz.prog W = .ok (.slice (some ⟨W.heap.size, 0, none⟩) 112 112) (W.alloc (.cells (Zs 112) 5)) := fun W => make8 112 (by omega) W
  clear hT hg
  go_enter Tryz.func8, Tryz.ntmps8
  go_wp2_with fail
  refine (diskNew_any 46 _ (by omega) (by omega)).mono ?_
  rintro e w1 ⟨bd, rfl, hbd, hbl, hD, hb1⟩
  have HD := Lib.hid (hD (z0 w.heap.size) (Nat.le_refl _) (fun k h => h.elim))
  have HB1 := Lib.hid hb1
  clear hD hb1 hbd hbl
  go_wp2_with fail
  refine (ariesOpen_zero w.heap.size bd 40 6 2 46 _ HD.out HB1.out.size (HT.out.below HB1.out) HG.out (by omega) (by omega) (by omega) (by omega) (by omega)).mono ?_
  rintro e w2 ⟨bg, bp, bl, bm, ba, rfl, h1, h2, h3, h4, h5, h6, h7, hb2⟩
  have HF : Hid (Fresh w.heap.size w2 bg bp bl bm ba bd) := Lib.hid ⟨h1, h2, h3, h4, h5, h6, h7⟩
  have HB2 : Hid (Below w.heap.size w w2) := Lib.hid (HB1.out.trans (hb2.mono HB1.out.size))
  clear h1 h2 h3 h4 h5 h6 h7 hb2 HD
  go_wp2_with fail
  go_loopw [26] (fun i wr => ∃ (k : Nat) (v : Value) (xs : List Value), k ≤ 6 ∧ i = .int .i64 k ∧ Hid (wr.heap[w2.heap.size + 1]? = some (.cells #[.pointer (some ⟨bd, 0, none⟩), .pointer (some ⟨bg, 0, none⟩), v, .map (some w2.heap.size)] 33 (0, 0))) ∧
    Hid (wr.ownsRow (w2.heap.size + 2) 22 1 v k xs) ∧ Hid (Below w2.heap.size w2 wr) ∧ w2.heap.size + 2 ≤ wr.heap.size) (fun i _ => 6 - (intOf i).toNat)
  case atStart =>
    have e1 := heap_alloc_new (w2.alloc (.map #[] 0)) (.cells #[.pointer (some ⟨bd, 0, none⟩), .pointer (some ⟨bg, 0, none⟩), .slice none 0 0, .map (some w2.heap.size)] 33)
    rw [World.size_alloc] at e1
    exact ⟨0, _, [], Nat.zero_le _, rfl, Lib.hid e1, Lib.hid (World.ownsRow_nil _ _ _ _), Lib.hid (((Below.refl _ w2).alloc (Nat.le_refl _) _).alloc (by simp) _), by simp⟩
  case round =>
    obtain ⟨k, v, xs, hk, rfl, HD, HR, HB, hsz⟩ := hrel
    by_cases hlt : k < 6
    · obtain ⟨q, cq, rfl, hqc⟩ : ∃ q c, v = .slice q k c ∧ k ≤ c := by
        rcases HR.out.2 with ⟨rfl, h0⟩ | ⟨g, cap, cur, rfl, _, _, h1, _⟩
        · exact ⟨none, 0, by rw [h0], by omega⟩
        · exact ⟨_, cap, rfl, h1⟩
      have k0 : wr.cell? ⟨w2.heap.size + 1, 2, none⟩ = some (.slice q k cq) := by simp [World.cell?, HD.out]
      have f0 : wr.frozen? ⟨w2.heap.size + 1, 2, none⟩ = false := frozenC HD.out
      have hlt1 : w2.heap.size + 1 < wr.heap.size := hsz
      have HOA : Hid (((wr.alloc (.cells (Zs 112) 5)).alloc (.cells #[.slice (some ⟨wr.heap.size, 0, none⟩) 112 112] 22)).drew.ownsRow (w2.heap.size + 2) 22 1 (.slice q k cq) k xs) := Lib.hid ((HR.out.alloc _).alloc _).drew
      have kB1 : Below wr.heap.size wr (wr.alloc (.cells (Zs 112) 5)) := (Below.refl _ wr).alloc (Nat.le_refl _) _
      have kc1 : (wr.alloc (.cells (Zs 112) 5)).cell? ⟨w2.heap.size + 1, 2, none⟩ = some (.slice q k cq) := keepC kB1 k0
      have kc2 : ((wr.alloc (.cells (Zs 112) 5)).alloc (.cells #[.slice (some ⟨wr.heap.size, 0, none⟩) 112 112] 22)).cell? ⟨w2.heap.size + 1, 2, none⟩ = some (.slice q k cq) := keepC (kB1.alloc (by simp) _) k0
      clear kB1
      have HNW : Hid (∀ (j : Nat) (u : Value), [Value.slice (some ⟨wr.heap.size, 0, none⟩) 112 112][j]? = some u → ((wr.alloc (.cells (Zs 112) 5)).alloc (.cells #[.slice (some ⟨wr.heap.size, 0, none⟩) 112 112] 22)).drew.cell? ((⟨wr.heap.size + 1, 0, none⟩ : Addr).add j) = some u) := Lib.hid (by
        have h := cell_one_new (wr.alloc (.cells (Zs 112) 5)) (.slice (some ⟨wr.heap.size, 0, none⟩) 112 112) 22
        rw [World.size_alloc] at h
        exact h)
      go_wp2
      go_region_law (first
        | (refine step_append_lies _ rfl (.tmp 32) (.tmp 34) 30 rfl (w2.heap.size + 2) 22 i0 (.slice none 0 0) 1 24 Tryz.underlying30 hi hz0 hz1 hz2 rfl (by decide) (.slice q k cq) k xs rfl HOA.out ⟨wr.heap.size + 1, 0, none⟩ 1 1 [.slice (some ⟨wr.heap.size, 0, none⟩) 112 112] (by rfl) rfl HNW.out (by simp [Value.oneCell']) (by omega) (by simp only [maxLen]; omega) (by omega) (by simp; omega) (wr.heap.size + 1 + 1) (by simp) ?_; intro gg cap w3 hown1 hgrow hat hltg; have HD1 := Lib.hid (((hgrow.block (w2.heap.size + 1) (by simp; omega) (fun e' => by have := (HR.out.lt _ e'.symm).1; omega)).trans ((Below.heap_alloc _ _ _ (by simp; omega)).trans (Below.heap_alloc _ _ _ (by omega)))).trans HD.out); have k01 : w3.cell? ⟨w2.heap.size + 1, 2, none⟩ = some (.slice q k cq) := (by simp [World.cell?, HD1.out]); have f01 := frozenC (i := 2) HD1.out; have HR1 := Lib.hid hown1; have HG1 := Lib.hid hgrow; clear hown1 hgrow hat))
      all_goals go_wp2
      all_goals go_roundw
      all_goals first
        | exact ⟨k + 1, _, xs ++ [.slice (some ⟨wr.heap.size, 0, none⟩) 112 112], hlt, by simp,
            Lib.hid (heap_setCell_same w3 (w2.heap.size + 1) 2 _ _ _ HD1.out),
            Lib.hid (ownsRow_setCell_below HR1.out (a := ⟨w2.heap.size + 1, 2, none⟩) (by show w2.heap.size + 1 < w2.heap.size + 2; omega) (.slice (some ⟨gg, 0, none⟩) (k + 1) cap)),
            Lib.hid ((((((HB.out.alloc (by omega) _).alloc (by simp; omega) _).drew).grown HG1.out (by simp; omega) (fun j hj => by have := (HR.out.lt j hj).1; omega))).setCell (p := ⟨w2.heap.size + 1, 2, none⟩) (by show w2.heap.size ≤ w2.heap.size + 1; omega) _),
            by have := HG1.out.size; simp at this ⊢; omega⟩
        | (simp [intOf]; omega)
    · obtain rfl : k = 6 := by omega
      go_wp2
      go_ret
      have hbw : Below w.heap.size w wr := HB2.out.trans (HB.out.mono HB2.out.size)
      exact ⟨w2.heap.size + 1, bg, bp, bl, bm, ba, bd, rfl, by simp [World.cell?, HD.out], HF.out.below HB.out, ⟨_, HD.out⟩, hbw⟩
end Go.Proofs.YtjknofiaacdgfaaGreatDoor
