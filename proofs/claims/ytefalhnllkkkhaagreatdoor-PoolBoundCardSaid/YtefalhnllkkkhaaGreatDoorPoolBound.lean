/- rostrumlaw05.PoolBound: the walk. -/
import Derived.Test.YtefalhnllkkkhaaGreatDoorPoolNew
import Derived.Test.YtefalhnllkkkhaaGreatDoorPoolDo
import Derived.Test.YtefalhnllkkkhaaGreatDoorPoolUniq
import Derived.Deep.CutBlock
namespace Go.Proofs.YtefalhnllkkkhaaGreatDoor
open Go.RowKit Go.Shelf Go.Sort
set_option linter.unusedVariables false

/-- The law's own counters. -/
def PinsAt (w : World) (pb : Nat) (pl : List Nat) : Prop := w.heap[pb]? = some (.cells (pl.map fun p : Nat => Value.int .i64 (p : Int)).toArray 3 (0, 0)) ∧ pl.length = 10
theorem PinsAt.upd {w w' : World} {T : Nat → Prop} {pb : Nat} {pl : List Nat} (h : PinsAt w pb pl) (hu : Upd T w w') (hT : ∀ k, T k → ¬ Typed w k 3) : PinsAt w' pb pl :=
  ⟨(hu.block pb (Array.getElem?_eq_some_iff.1 h.1).1 (fun ht => hT pb ht ⟨_, h.1⟩)).trans h.1, h.2⟩
theorem PinsAt.cell {w : World} {pb j p : Nat} {pl : List Nat} (h : PinsAt w pb pl) (hj : pl[j]? = some p) : w.cell? ⟨pb, j, none⟩ = some (.int .i64 p) := by
  simp [World.cell?, h.1, hj]
theorem PinsAt.set {w : World} {pb j p : Nat} {pl : List Nat} (h : PinsAt w pb pl) : PinsAt (w.setCell ⟨pb, j, none⟩ (.int .i64 p)) pb (pl.set j p) := by
  refine ⟨?_, by rw [List.length_set]; exact h.2⟩
  rw [heap_setCell_same w pb j _ _ _ h.1]
  simp [List.map_set]
theorem make10 (W : World) : (Instr.makeSlice 63 (.int .i64 10) (.int .i64 10)).run Tryz.prog W = .ok (.slice (some ⟨W.heap.size, 0, none⟩) 10 10) (W.alloc (.cells (Array.replicate 10 (.int .i64 0)) 3)) := by
  kernel_rfl
/-- What holds between two calls of the law. -/
structure PB (w0 : World) (bp bd bl bm B pb k : Nat) (wr : World) (pl : List Nat) (clock : Nat) (M : List (Int × Buf)) (D : Nat → List UInt8) (L : LogV) : Prop where
  run : Run (z0 w0.heap.size) bp bd bl bm 4 10 B 14 wr clock 0 M C0 D L
  pins : PinsAt wr pb pl
  same : ∀ j : Nat, j < 10 → pinsOf M j = pl.getD j 0
  clean : ∀ x ∈ M, x.2.first = 0
  tick : clock ≤ k
  below : Below w0.heap.size w0 wr
  low : w0.heap.size ≤ pb
def PBI (w0 : World) (bp bd bl bm B pb k : Nat) (wr : World) : Prop := ∃ pl clock M D L, PB w0 bp bd bl bm B pb k wr pl clock M D L
section
variable {w0 wr w' : World} {bp bd bl bm B pb k : Nat} {pl : List Nat} {clock : Nat} {M : List (Int × Buf)} {D : Nat → List UInt8} {L : LogV}
theorem PB.later (h : PB w0 bp bd bl bm B pb k wr pl clock M D L) (hb : Below wr.heap.size wr w') : PB w0 bp bd bl bm B pb k w' pl clock M D L :=
  ⟨h.run.below hb, h.pins.upd (T := fun _ => False) (Upd.of_below' hb _) (fun k hk => hk.elim), h.same, h.clean, h.tick, h.below.trans (hb.mono h.below.size), h.low⟩
theorem PB.goes {clock' c' : Nat} {M' : List (Int × Buf)} {D' : Nat → List UInt8} {L' : LogV} (h : PB w0 bp bd bl bm B pb k wr pl clock M D L) (hg : Goes (z0 w0.heap.size) bp bd bl bm 4 10 B 14 wr clock 0 M C0 D L w' clock' c' M' D' L') :
    Run (z0 w0.heap.size) bp bd bl bm 4 10 B 14 w' clock' 0 M' C0 D' L' ∧ PinsAt w' pb pl ∧ (∀ x ∈ M', x.2.first = 0) ∧ clock' ≤ k + 1 ∧ Below w0.heap.size w0 w' := by
  obtain ⟨hc0, hcl⟩ := hg.clean h.clean
  subst hc0
  refine ⟨hg.run, h.pins.upd hg.upd (fun k hk ht => fs_not8 h.run.pool (.inr (.inl rfl)) k hk ht), hcl, by have := hg.tick.2; have := h.tick; omega, ?_⟩
  exact h.below.trans (FS.below hg.upd h.run.st.base)
theorem PB.go {clock' c' : Nat} {M' : List (Int × Buf)} {D' : Nat → List UInt8} {L' : LogV} (h : PB w0 bp bd bl bm B pb k wr pl clock M D L) (hg : Goes (z0 w0.heap.size) bp bd bl bm 4 10 B 14 wr clock 0 M C0 D L w' clock' c' M' D' L') (hp : ∀ j, pinsOf M' j = pinsOf M j) : PB w0 bp bd bl bm B pb (k + 1) w' pl clock' M' D' L' := by
  obtain ⟨h1, h2, h3, h4, h5⟩ := h.goes hg
  exact ⟨h1, h2, fun j hj => by rw [hp]; exact h.same j hj, h3, h4, h5, h.low⟩
/-- A counter is set anew. -/
theorem PB.count {clock' c' n p : Nat} {M' : List (Int × Buf)} {D' : Nat → List UInt8} {L' : LogV} (h : PB w0 bp bd bl bm B pb k wr pl clock M D L) (hg : Goes (z0 w0.heap.size) bp bd bl bm 4 10 B 14 wr clock 0 M C0 D L w' clock' c' M' D' L') (hn : n < 10) (hp : ∀ j, pinsOf M' j = if j = (n : Int) then p else pinsOf M j) : PB w0 bp bd bl bm B pb (k + 1) (w'.setCell ⟨pb, n, none⟩ (.int .i64 p)) (pl.set n p) clock' M' D' L' := by
  obtain ⟨h1, h2, h3, h4, h5⟩ := h.goes hg
  have ht : Typed w' pb 3 := ⟨_, h2.1⟩
  have hu := Upd.setC w' pb n (.int .i64 p)
  refine ⟨h1.upd hu (fun k hk => by subst hk; exact h.low) (fun k hk => ?_), h2.set, fun j hj => ?_, h3, h4, ?_, h.low⟩
  · subst hk
    exact ⟨fun hf => fs_not8 h1.pool (.inr (.inl rfl)) _ hf ht, fun h8 => absurd (h8.one ht) (by decide)⟩
  · rw [hp]
    by_cases e : j = n
    · subst e
      rw [if_pos rfl, List.getD_eq_getElem?_getD, List.getElem?_set_self (by rw [h.pins.2]; exact hj)]
      rfl
    · rw [if_neg (by omega), List.getD_eq_getElem?_getD, List.getElem?_set_ne (fun e' => e e'.symm), ← List.getD_eq_getElem?_getD]
      exact h.same j hj
  · exact h5.setCell h.low _
theorem PB.small (h : PB w0 bp bd bl bm B pb k wr pl clock M D L) {n : Nat} (hn : n < 10) : pl.getD n 0 ≤ 100 := by
  rw [← h.same n hn]
  unfold pinsOf
  rcases hl : look M (n : Int) with _ | b
  · exact Nat.zero_le _
  · exact (h.run.pool.nums _ (look_mem hl)).pins
theorem PinsAt.cells (h : PinsAt wr pb pl) {n : Nat} (hn : n < 10) : wr.cell? ⟨pb, n, none⟩ = some (.int .i64 (pl.getD n 0 : Nat)) ∧ wr.frozen? ⟨pb, n, none⟩ = false := by
  refine ⟨h.cell ?_, frozenC h.1⟩
  rw [List.getD_eq_getElem?_getD, List.getElem?_eq_getElem (by rw [h.2]; exact hn)]
  rfl
theorem PB.cell (h : PB w0 bp bd bl bm B pb k wr pl clock M D L) {n : Nat} (hn : n < 10) : wr.cell? ⟨pb, n, none⟩ = some (.int .i64 (pl.getD n 0 : Nat)) ∧ wr.frozen? ⟨pb, n, none⟩ = false := by
  refine ⟨h.pins.cell ?_, frozenC h.pins.1⟩
  rw [List.getD_eq_getElem?_getD, List.getElem?_eq_getElem (by rw [h.pins.2]; exact hn)]
  rfl
end
theorem pinsOf_mem {M : List (Int × Buf)} {k : Int} (h : 0 < pinsOf M k) : k ∈ M.map (·.1) := by
  unfold pinsOf at h
  rcases hl : look M k with _ | b
  · rw [hl] at h
    exact absurd h (by simp)
  · exact List.mem_map.2 ⟨_, look_mem hl, rfl⟩
theorem chainB {w W1 W2 : World} (h1 : Below w.heap.size w W1) (h2 : Below w.heap.size W1 W2) : Below w.heap.size w W2 := h1.trans h2
set_option maxRecDepth 20000 in
set_option maxHeartbeats 4000000 in
theorem poolBound_walk (b : Int) (p : Option Addr) (n cp : Nat) (ds : List Do) (w : World) (hT : Halves w) (hn : ds.length = n) (hm : n ≤ 140737488351232) (h : Cells w p (ds.flatMap doCells)) (hdo : ∀ x ∈ ds, DoOk w x) :
    Calls Tryz.prog 5 #[.int .i64 b, .slice p n cp] w fun e w' => e = .returned (.bool true) ∧ Below w.heap.size w w' := by
  have HN := Lib.hid hn
  have HM := Lib.hid hm
  have HC := Lib.hid h
  have HT := Lib.hid hT
  have hgl := cell_lt (hT 0)
  have HG : Hid (0 < w.heap.size) := Lib.hid hgl
  have hmk := make10
  obtain ⟨R, hR, htm⟩ := umod b 5 (by omega)
  obtain ⟨B, hB⟩ : ∃ B, B = R + 1 := ⟨_, rfl⟩
  have hB1 : (1 : Int) + (R : Int) = (B : Int) := by omega
  have hB2 : wrap64 ((1 : Int) + (R : Int)) = (B : Int) := by rw [wrap64]; omega
  have htm' : (IntKind.u64.wrap b).tmod 5 = (R : Int) := htm
  have HBB : Hid (1 ≤ B ∧ B ≤ 5) := Lib.hid (by omega)
  clear hn hm h hT hgl hB htm hdo
  go_enter Tryz.func5, Tryz.ntmps5
  go_wp2_with fail
  refine (diskNew_any 14 _ (by omega) (by omega)).mono ?_
  rintro e w1 ⟨bd, rfl, hbd, hbl, hD, hb1⟩
  have HD := Lib.hid (hD (z0 w.heap.size) (Nat.le_refl _) (fun k h => h.elim))
  have HB1 := Lib.hid hb1
  clear hD hb1
  have HBD := Lib.hid (And.intro hbd hbl)
  clear hbd hbl
  go_wp2_with fail
  refine (logOpen_zero w.heap.size bd 0 4 14 _ HD.out (by omega) (by omega)).mono ?_
  rintro e w2 ⟨bl, rfl, hL, hbl, hb2⟩
  have HL := Lib.hid hL
  have HB2 := Lib.hid hb2
  clear hL hb2
  have HST : Hid (St w2 (z0 w.heap.size) bd bl 14 0 (fun _ => zeros 128) ⟨0, 4, 1, 0, 0, 0, .slice none 0 0, []⟩) := Lib.hid (start_run (HD.out.below HB2.out) ⟨HL.out.cells, World.ownsRow_nil _ _ _ _⟩ (Nat.le_trans HB1.out.size hbl) rfl (by have := HB1.out.size; have := HB2.out.size; omega) ((HT.out.below HB1.out).below HB2.out) HG.out)
  clear hbl
  go_wp2_with fail
  refine (poolNew_any bd bl 14 0 4 10 B _ _ _ HST.out (by omega) (by omega) HBB.out.1 (by have := HBB.out; omega)).mono ?_
  rintro e w3 ⟨bp, bm, rfl, hp3, hb3⟩
  have HR3 : Hid (Run (z0 w.heap.size) bp bd bl bm 4 10 B 14 w3 0 0 [] C0 (fun _ => zeros 128) ⟨0, 4, 1, 0, 0, 0, .slice none 0 0, []⟩) := Lib.hid ⟨HST.out.below hb3, hp3, start_inv, by omega, by simp, .inl rfl, by simp, HBB.out.1, by have := HBB.out; omega⟩
  have HB3 := Lib.hid (chainC (chainC HB1.out HB2.out) hb3)
  clear hp3 hb3
  go_wp2_with fail
  have HP0 : Hid (PinsAt (w3.alloc (.cells (Array.replicate 10 (.int .i64 0)) 3)) w3.heap.size (List.replicate 10 0)) := Lib.hid ⟨by rw [heap_alloc_new]; rfl, rfl⟩
  have HR4 := Lib.hid (HR3.out.below ((Below.refl _ w3).alloc (Nat.le_refl _) (.cells (Array.replicate 10 (.int .i64 0)) 3)))
  have HB4 := Lib.hid (below_alloc HB3.out (.cells (Array.replicate 10 (.int .i64 0)) 3))
  obtain ⟨pb, hpb⟩ : ∃ pb, pb = w3.heap.size := ⟨_, rfl⟩
  rw [← hpb] at HP0 ⊢
  have HPB : Hid (w.heap.size ≤ pb) := Lib.hid (by rw [hpb]; exact HB3.out.size)
  clear hpb
  generalize w3.alloc (.cells (Array.replicate 10 (.int .i64 0)) 3) = W0 at *
  clear HR3 HB3 HST HD HL HB1 HB2 HBD hmk hB1 hB2 htm'
  go_loopw [54] (fun i wr => ∃ (k : Nat), k ≤ n ∧ i = .int .i64 k ∧ Hid (PBI w bp bd bl bm B pb k wr)) (fun i _ => n - (intOf i).toNat)
  case atStart => exact ⟨0, Nat.zero_le _, rfl, Lib.hid ⟨_, 0, [], _, _, HR4.out, HP0.out, (fun j hj => by rw [show pinsOf [] (j : Int) = 0 from rfl, List.getD_eq_getElem?_getD, List.getElem?_replicate, if_pos hj]; rfl), (by simp), Nat.le_refl _, HB4.out, HPB.out⟩⟩
  case round =>
    obtain ⟨k, hk, rfl, HI⟩ := hrel
    obtain ⟨pl, clock, M, D, L, hI⟩ := HI.out
    have HP := Lib.hid hI
    have hB := hI.below
    by_cases hlt : k < n
    · obtain ⟨d, hd⟩ : ∃ d, ds[k]? = some d := ⟨_, List.getElem?_eq_getElem (by rw [HN.out]; exact hlt)⟩
      obtain ⟨g, o, rfl, c0, c1, c2, c3⟩ := do_cells HC.out hd
      have c0' := keepC hB c0
      have c1' := keepC hB c1
      have c2' := keepC hB c2
      have c3' := keepC hB c3
      have hgl := cell_lt c0'
      obtain ⟨N10, hN10, hm10⟩ := umod d.n 10 (by omega)
      obtain ⟨O3, hO3, hm3⟩ := umod d.op 3 (by omega)
      have hm10' : (IntKind.u64.wrap d.n).tmod 10 = (N10 : Int) := hm10
      have hm3' : (IntKind.u64.wrap d.op).tmod 3 = (O3 : Int) := hm3
      have HN10 := Lib.hid hN10
      have HCK : Hid (clock < 2305843009213693952) := Lib.hid (by have := hI.tick; have := HM.out; omega)
      clear c0 c1 c2 c3 hd hm10 hm3 hI hB HI
      have HPA := Lib.hid (HP.out.later ((Below.refl _ wr).alloc (Nat.le_refl _) (.cells #[.int .i64 d.op, .int .i64 d.n, .int .i64 d.lsn, .slice d.p d.m d.c] 39)))
      go_upto_block 2 with fail
      generalize wr.alloc (.cells #[.int .i64 d.op, .int .i64 d.n, .int .i64 d.lsn, .slice d.p d.m d.c] 39) = W at *
      have HO3 := Lib.hid hO3
      clear c0' c1' c2' c3' hm10' hm3' hgl HP
      go_cut [] (fun wx => Hid (PBI w bp bd bl bm B pb (k + 1) wx))
      case first =>
        obtain ⟨P, hP⟩ : ∃ P, P = pl.getD N10 0 := ⟨_, rfl⟩
        have hPC := HPA.out.cell HN10.out
        have hP100 := HPA.out.small HN10.out
        have hPS := HPA.out.same N10 HN10.out
        rw [← hP] at hPC hP100 hPS
        have HPE := Lib.hid hP
        have HPS := Lib.hid hPS
        clear hP hPS
        by_cases e0 : O3 = 0
        · have hd0 : ((O3 : Int) == 0) = true := by rw [beq_iff_eq]; omega
          clear e0 hPC hP100
          go_wp2_with fail
          refine (get_any W (N10 : Int) HPA.out.run (by omega) (by have := HN10.out; omega) HCK.out (by omega)).mono ?_
          rintro e w5 (⟨rfl, -, -, hg⟩ | ⟨q, c5, clock', c', M', D', L', rfl, -, hp, hg⟩)
          · have HI5 := Lib.hid (HPA.out.go hg (fun j => rfl))
            clear hg
            go_wp2_with fail
            go_meet
            exact Lib.hid ⟨_, _, _, _, _, HI5.out⟩
          · have HI5 := Lib.hid (HPA.out.go hg hp)
            clear hg hp
            go_wp2_with fail
            go_meet
            exact Lib.hid ⟨_, _, _, _, _, HI5.out⟩
        · have hd0 : ((O3 : Int) == 0) = false := by rw [beq_eq_false_iff_ne]; omega
          by_cases e1 : O3 = 1
          · have hd1 : ((O3 : Int) == 1) = true := by rw [beq_iff_eq]; omega
            clear e0 e1
            go_wp2_with fail
            refine (pin_any W (N10 : Int) HPA.out.run (by omega) (by have := HN10.out; omega) HCK.out (by omega)).mono ?_
            rintro e w5 ⟨v, clock', c', M', D', L', rfl, hp, hg⟩
            by_cases hv : v = 0
            · have hdv : (v == 0) = true := by rw [beq_iff_eq]; exact hv
              have HV := Lib.hid hv
              have HPP := Lib.hid hp
              have HG := Lib.hid hg
              obtain ⟨k5, f5⟩ := PinsAt.cells (HPA.out.goes hg).2.1 HN10.out
              rw [← HPE.out] at k5
              clear hv hp hg hPC
              go_wp2_with fail
              go_meet
              have hcnt := HPA.out.count (p := P + 1) HG.out HN10.out (fun j => by
                rw [HPP.out]
                by_cases e : j = (N10 : Int)
                · rw [if_pos ⟨HV.out, e⟩, if_pos e, e, HPS.out]
                · rw [if_neg (fun h => e h.2), if_neg e])
              exact Lib.hid ⟨_, _, _, _, _, hcnt⟩
            · have hdv : (v == 0) = false := by rw [beq_eq_false_iff_ne]; exact hv
              have HI5 := Lib.hid (HPA.out.go hg (fun j => by rw [hp, if_neg (fun h => hv h.1)]))
              clear hv hp hg hPC hP100
              go_wp2_with fail
              go_meet
              exact Lib.hid ⟨_, _, _, _, _, HI5.out⟩
          · have hd1 : ((O3 : Int) == 1) = false := by rw [beq_eq_false_iff_ne]; omega
            clear e0 e1
            obtain ⟨k4, f4⟩ := hPC
            have k4' : W.drew.cell? ⟨pb, N10, none⟩ = some (.int .i64 P) := k4
            have HPA' := Lib.hid (HPA.out.later (Below.refl _ W).drew)
            have hpblt := cell_lt k4
            have hN10i : (N10 : Int) < 10 := by omega
            by_cases hP0 : 0 < P
            · have hd4 : decide ((P : Int) > 0) = true := decide_eq_true (by omega)
              have hd4' : decide (0 < P) = true := decide_eq_true (by omega)
              have HP0 := Lib.hid hP0
              obtain ⟨P', hP'⟩ : ∃ P', P' = P - 1 := ⟨_, rfl⟩
              have hm1 : (P : Int) - 1 = (P' : Int) := by omega
              have HPP := Lib.hid hP'
              clear hP'
              go_wp2_with fail
              go_region_law (first
                | (go_simp; go_at_call 19; refine (unpin_any W.drew (N10 : Int) HPA'.out.run (by omega) (by have := HN10.out; omega)).mono ?_; rintro e w5 ⟨v, M', rfl, hv, hp, hg⟩; have HP5 := Lib.hid hp; have HG5 := Lib.hid hg; have hdv : (v == 0) = true := (by rw [beq_iff_eq]; exact hv.2 (by rw [HPS.out]; exact HP0.out)); obtain ⟨k5, f5⟩ := PinsAt.cells (HPA'.out.goes hg).2.1 HN10.out; rw [← HPE.out] at k5; clear hv hp hg))
              all_goals clear k4 k4' f4
              all_goals go_wp2_with fail
              all_goals go_meet
              all_goals
                have hcnt := HPA'.out.count (p := P') HG5.out HN10.out (fun j => by
                  rw [HP5.out]
                  by_cases e : j = (N10 : Int)
                  · rw [if_pos e, if_pos e, e, HPS.out, HPP.out]
                  · rw [if_neg e, if_neg e])
                exact Lib.hid ⟨_, _, _, _, _, hcnt⟩
            · have hd4 : decide ((P : Int) > 0) = false := decide_eq_false (by omega)
              have hd4' : decide (0 < P) = false := decide_eq_false (by omega)
              have HP0 := Lib.hid hP0
              obtain ⟨P', hP'⟩ : ∃ P' : Nat, P' = 0 := ⟨_, rfl⟩
              have hm1 : (P : Int) - 1 = -1 := by omega
              have HPP := Lib.hid hP'
              clear hP' hP0 hP100
              go_wp2_with fail
              go_region_law (first
                | (go_simp; go_at_call 19; refine (unpin_any W.drew (N10 : Int) HPA'.out.run (by omega) (by have := HN10.out; omega)).mono ?_; rintro e w5 ⟨v, M', rfl, hv, hp, hg⟩; have HP5 := Lib.hid hp; have HG5 := Lib.hid hg; have hdv : (v == 0) = false := (by rw [beq_eq_false_iff_ne]; exact fun h => HP0.out (by rw [← HPS.out]; exact hv.1 h)); obtain ⟨k5, f5⟩ := PinsAt.cells (HPA'.out.goes hg).2.1 HN10.out; rw [← HPE.out] at k5; clear hv hp hg))
              all_goals clear k4 k4' f4
              all_goals go_wp2_with fail
              all_goals go_meet
              all_goals
                have hcnt := HPA'.out.count (p := 0) HG5.out HN10.out (fun j => by
                  rw [HP5.out]
                  by_cases e : j = (N10 : Int)
                  · rw [if_pos e, if_pos e, e, HPS.out]; have := HP0.out; omega
                  · rw [if_neg e, if_neg e])
                exact Lib.hid ⟨_, _, _, _, _, hcnt⟩
      case rest =>
        obtain ⟨pl2, clock2, M2, D2, L2, hI2⟩ := hcut.out
        have HP2 := Lib.hid hI2
        have HCK2 : Hid (clock2 < 4611686018427387904) := Lib.hid (by have := hI2.tick; have := HM.out; omega)
        clear hI2 hcut
        go_wp2_with fail
        refine (held_any bp bd bl bm 4 10 B clock2 M2 _ HP2.out.run.pool HCK2.out).mono ?_
        rintro e w6 ⟨v6, zs, rfl, hz, ho, hb6⟩
        obtain ⟨q6, c6, rfl⟩ := own_zero ho
        have HZ := Lib.hid hz
        have HO := Lib.hid ho
        have HB6 := Lib.hid hb6
        have HP6 := Lib.hid (HP2.out.later hb6)
        have HLB : Hid (zs.length ≤ B ∧ zs.length ≤ 5) := Lib.hid (by have h5 := hz.length_eq; have := HP2.out.run.len; have := HBB.out; rw [List.length_map] at h5; omega)
        clear hz ho hb6
        go_wp2_with fail
        refine (sortInts_any wc.heap.size zs (.slice q6 zs.length c6) _ (by have := HLB.out; omega) HO.out).mono ?_
        rintro e w7 ⟨⟨x7, rfl⟩, ho7, hb7⟩
        obtain ⟨ts, hts⟩ : ∃ ts, ts = zs.mergeSort leI := ⟨_, rfl⟩
        have HPT : Hid (ts.Perm (M2.map (·.1))) := Lib.hid (by rw [hts]; exact (List.mergeSort_perm zs leI).trans HZ.out)
        rw [← hts] at ho7
        obtain ⟨l, hl⟩ : ∃ l, l = zs.length := ⟨_, rfl⟩
        rw [← hl] at ho7 HLB ⊢
        have HB7 := Lib.hid (hb7 wc.heap.size HB6.out.size (Nat.le_refl _))
        have HP7 : Hid (PB w bp bd bl bm B pb (k + 1) w7 pl2 clock2 M2 D2 L2) := Lib.hid (HP2.out.later (chainB HB6.out HB7.out))
        have HND : Hid (ts.Nodup) := Lib.hid (HPT.out.nodup_iff.2 HP2.out.run.pool.nodup)
        have HO7 := Lib.hid ho7
        have hld : decide ((l : Int) > (B : Int)) = false := decide_eq_false (by have := HLB.out; omega)
        have hld' : decide (B < l) = false := decide_eq_false (by have := HLB.out; omega)
        have hle : ((l : Int) != (l : Int)) = false := by simp
        clear ho7 hb7 hts hl HO HZ
        go_wp2_with fail
        refine (cloneI_any _ l _ ts _ HO7.out (by have := HLB.out; omega)).mono ?_
        rintro e w8 ⟨v8, rfl, ho8, hb8⟩
        have HO8 := Lib.hid ho8
        have HB8 := Lib.hid hb8
        clear ho8 hb8
        go_wp2_with fail
        refine (compactI_any _ l _ ts _ HO8.out (by have := HLB.out; omega) HND.out).mono ?_
        rintro e w9 ⟨⟨q9, c9, rfl⟩, hb9⟩
        have HB9 := Lib.hid (HB8.out.trans hb9)
        have HP9 := Lib.hid (HP7.out.later HB9.out)
        have HO9 := Lib.hid (own_later HO7.out HB9.out)
        clear hb9 HO8 HB8
        go_wp2_with fail
        go_loop [123] (fun i => ∃ j : Nat, j ≤ 10 ∧ i = .int .i64 j) (fun i => 10 - (intOf i).toNat)
        case atStart => exact ⟨0, by omega, rfl⟩
        case round =>
          obtain ⟨j, hj, rfl⟩ := hrel
          by_cases hj10 : j < 10
          · have hji : (j : Int) < 10 := by omega
            obtain ⟨P, hP⟩ : ∃ P, P = pl2.getD j 0 := ⟨_, rfl⟩
            have kj := (HP9.out.cell hj10).1
            have hps := HP9.out.same j hj10
            rw [← hP] at kj hps
            by_cases hp0 : 0 < P
            · have hd1 : decide ((P : Int) > 0) = true := decide_eq_true (by omega)
              have hd2 : decide (0 < P) = true := decide_eq_true hp0
              have HC : Hid (ts.contains (j : Int) = true) := Lib.hid (by
                rw [List.contains_iff_mem, HPT.out.mem_iff]
                rw [← hps] at hp0
                exact pinsOf_mem hp0)
              clear hP hps hp0
              go_wp2_with fail
              refine (containsI_any _ l _ ts (j : Int) _ HO9.out (by have := HLB.out; omega)).mono ?_
              rintro e w10 ⟨rfl, rfl⟩
              rw [HC.out]
              go_wp2_with fail
              go_round
              case rel => exact ⟨j + 1, by omega, by go_num⟩
              case measure => simp [intOf]; omega
            · have hd1 : decide ((P : Int) > 0) = false := decide_eq_false (by omega)
              have hd2 : decide (0 < P) = false := decide_eq_false hp0
              clear hP hps hp0
              go_wp2_with fail
              go_round
              case rel => exact ⟨j + 1, by omega, by go_num⟩
              case measure => simp [intOf]; omega
          · obtain rfl : j = 10 := by omega
            go_wp2_with fail
            go_roundw
            case rel => exact ⟨k + 1, by omega, by rw [wrapK hlt (by have := HM.out; omega)], Lib.hid ⟨_, _, _, _, _, HP9.out⟩⟩
            case measure => rw [wrapK hlt (by have := HM.out; omega)]; simp [intOf]; omega
    · obtain rfl : k = n := by omega
      have HCK : Hid (clock < 4611686018427387904) := Lib.hid (by have := hI.tick; have := HM.out; omega)
      clear hI hB HI
      go_wp2_with fail
      refine (table_any _ HP.out.run.pool HCK.out).mono ?_
      rintro e w9 ⟨v9, ts, rfl, -, ho9, hb9⟩
      have he : dirtyOf M ts = [] := by
        unfold dirtyOf
        refine List.filter_eq_nil_iff.2 fun x _ => ?_
        have : firstOf M x = 0 := by
          unfold firstOf
          rcases hl : look M x with _ | b
          · rfl
          · exact HP.out.clean _ (look_mem hl)
        simp [this]
      rw [he] at ho9
      obtain ⟨q9, c9, rfl⟩ := own_zero ho9
      have HB9 := Lib.hid (HP.out.below.trans (hb9.mono HP.out.below.size))
      clear he ho9 hb9
      go_wp2_with fail
      go_returns
      exact ⟨rfl, HB9.out⟩
end Go.Proofs.YtefalhnllkkkhaaGreatDoor
