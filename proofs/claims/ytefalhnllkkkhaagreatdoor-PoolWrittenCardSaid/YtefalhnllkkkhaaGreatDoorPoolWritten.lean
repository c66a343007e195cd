/- rostrumlaw05.PoolWritten: the walk. -/
import Derived.Test.YtefalhnllkkkhaaGreatDoorPoolWant
import Derived.Test.YtefalhnllkkkhaaGreatDoorPoolNew
import Derived.Test.YtefalhnllkkkhaaGreatDoorRefDecode
import Derived.Deep.CutBlock
import Derived.Deep.RegionHeld3
namespace Go.Proofs.YtefalhnllkkkhaaGreatDoor
open Go.RowKit Go.Shelf
set_option linter.unusedVariables false

theorem pending_none {N : Zone} (bd n : Nat) (D : Nat → List UInt8) (w : World) (h : DiskIs w N bd n D 0) :
    Calls Tryz.prog 13 #[.pointer (some ⟨bd, 0, none⟩)] w fun e w' => e = .returned (.slice none 0 0) ∧ w' = w := by
  obtain ⟨S, P, hd, -, hP, -⟩ := h
  obtain rfl : P = [] := List.eq_nil_of_length_eq_zero (by omega)
  obtain ⟨bs, cs, pv, k0, k1⟩ := hd.load
  obtain ⟨q, c, rfl⟩ : ∃ q c, pv = .slice q 0 c := by
    obtain ⟨⟨bs', cs', pv', vs, us, hh, -, -, -, hp, -⟩, -⟩ := hd
    obtain ⟨q, c, e⟩ := own_sl hp
    have : w.cell? ⟨bd, 1, none⟩ = some pv' := by simp [World.cell?, hh]
    rw [k1] at this
    cases this
    exact ⟨q, c, e⟩
  clear hd k0
  go_enter Tryz.func13, Tryz.ntmps13
  go_wp2_with fail
  go_loop [3, 13] (fun l i => l = .slice none 0 0 ∧ i = .int .i64 0) (fun _ i => 0)
  case atStart => exact ⟨rfl, rfl⟩
  case round =>
    obtain ⟨rfl, rfl⟩ := hrel
    go_wp2_with fail
    go_returns
    exact ⟨rfl, rfl⟩
set_option maxRecDepth 20000 in
set_option maxHeartbeats 4000000 in
theorem poolWritten_walk (b : Int) (p : Option Addr) (n cp : Nat) (ds : List Do) (w : World) (hT : Halves w) (hn : ds.length = n) (hm : n ≤ 140737488351232) (h : Cells w p (ds.flatMap doCells)) (hdo : ∀ x ∈ ds, DoOk w x) :
    Calls Tryz.prog 3 #[.int .i64 b, .slice p n cp] w fun e w' => e = .returned (.bool true) ∧ Below w.heap.size w w' := by
  have HN := Lib.hid hn
  have HM := Lib.hid hm
  have HC := Lib.hid h
  have HT := Lib.hid hT
  have HDO := Lib.hid hdo
  have hgl := cell_lt (hT 0)
  have HG : Hid (0 < w.heap.size) := Lib.hid hgl
  have hmm := @run_makeMap Tryz.prog
  obtain ⟨R, hR, htm⟩ := umod b 5 (by omega)
  obtain ⟨B, hB⟩ : ∃ B, B = R + 1 := ⟨_, rfl⟩
  have hB1 : (1 : Int) + (R : Int) = (B : Int) := by omega
  have hB2 : wrap64 ((1 : Int) + (R : Int)) = (B : Int) := by rw [wrap64]; omega
  have htm' : (IntKind.u64.wrap b).tmod 5 = (R : Int) := htm
  have HBB : Hid (1 ≤ B ∧ B ≤ 5) := Lib.hid (by omega)
  clear hn hm h hT hgl hB htm hdo
  go_enter Tryz.func3, Tryz.ntmps3
  go_wp2_with fail
  refine (diskNew_any 14 _ (by omega) (by omega)).mono ?_
  rintro e w1 ⟨bd, rfl, hbd, hbl, hD, hb1⟩
  have HD := Lib.hid (hD (z0 w.heap.size) (Nat.le_refl _) (fun k h => h.elim))
  have HB1 := Lib.hid hb1
  clear hD hb1 hbd hbl
  go_wp2_with fail
  refine (logOpen_zero w.heap.size bd 0 4 14 _ HD.out (by omega) (by omega)).mono ?_
  rintro e w2 ⟨bl, rfl, hL, hbl, hb2⟩
  have HL := Lib.hid hL
  have HB2 := Lib.hid hb2
  clear hL hb2
  have HST : Hid (St w2 (z0 w.heap.size) bd bl 14 0 (fun _ => zeros 128) ⟨0, 4, 1, 0, 0, 0, .slice none 0 0, []⟩) := Lib.hid (start_run (HD.out.below HB2.out) ⟨HL.out.cells, World.ownsRow_nil _ _ _ _⟩ (Nat.le_trans HB1.out.size hbl) rfl (by have := HB1.out.size; have := HB2.out.size; omega) ((HT.out.below HB1.out).below HB2.out) HG.out)
  clear hbl
  go_wp2_with fail
  refine (poolNew_any bd bl 14 0 4 10 B _ _ _ HST.out (by omega) (by omega) HBB.out.1 (by have := HBB.out; omega)).mono ?_
  rintro e w3 ⟨bp, bm, rfl, hp3, hb3⟩
  have HR3 : Hid (Run (z0 w.heap.size) bp bd bl bm 4 10 B 14 w3 0 0 [] C0 (fun _ => zeros 128) ⟨0, 4, 1, 0, 0, 0, .slice none 0 0, []⟩) := Lib.hid ⟨HST.out.below hb3, hp3, start_inv, by omega, by simp, .inl rfl, by simp, HBB.out.1, by have := HBB.out; omega⟩
  have HB3 := Lib.hid (chainC (chainC HB1.out HB2.out) hb3)
  have hbml : bm < w3.heap.size := hp3.map.lt
  clear hp3 hb3
  go_upto_block 0 with fail
  have HI0 : Hid (PWI w bp bd bl bm B w3.heap.size (w3.heap.size + 1) 0 ((w3.alloc (.map #[] 0)).alloc (.map #[] 0))) := Lib.hid (by
    have b1 : Below w3.heap.size w3 ((w3.alloc (.map #[] 0)).alloc (.map #[] 0)) := ((Below.refl _ w3).alloc (Nat.le_refl _) _).alloc (by simp) _
    have hm2 : MapIs intKeys ((w3.alloc (.map #[] 0)).alloc (.map #[] 0)) (w3.heap.size + 1) ([] : List (Int × Value)) := by
      have := MapIs.made (KK := intKeys) (w3.alloc (.map #[] 0))
      rwa [World.size_alloc] at this
    exact ⟨0, 0, [], C0, _, _, [], [], HR3.out.below b1, fun n => rfl, Nat.le_refl _, Nat.le_refl _, chainC HB3.out b1, (MapIs.made w3).alloc _, hm2, ⟨by omega, by omega, by omega⟩, ⟨HB3.out.size, Nat.le_succ_of_le HB3.out.size⟩, fun n => .inl rfl⟩)
  obtain ⟨wm, hwm⟩ : ∃ x, x = w3.heap.size := ⟨_, rfl⟩
  rw [← hwm] at HI0 ⊢
  obtain ⟨lm, hlm⟩ : ∃ x, x = wm + 1 := ⟨_, rfl⟩
  rw [← hlm] at HI0 ⊢
  clear hwm hlm hbml
  generalize (w3.alloc (.map #[] 0)).alloc (.map #[] 0) = W0 at *
  clear HR3 HB3 HST HD HL HB1 HB2 hmm hB1 hB2 htm' HT HG
  go_cut [] (fun wx => Hid (∃ k, k ≤ 31 ∧ PWI w bp bd bl bm B wm lm k wx))
  case first =>
    go_wp2_with fail
    go_loopw [62] (fun i wr => ∃ (k : Nat), k ≤ n ∧ k ≤ 31 ∧ i = .int .i64 k ∧ Hid (PWI w bp bd bl bm B wm lm k wr)) (fun i _ => n - (intOf i).toNat)
    case atStart => exact ⟨0, Nat.zero_le _, by omega, rfl, HI0⟩
    case round =>
      obtain ⟨k, hk, hk31, rfl, HI⟩ := hrel
      by_cases hlt : k < n
      · obtain ⟨clock, c, M, C, D, L, m1, m2, hI⟩ := HI.out
        have HP := Lib.hid hI
        have hB := hI.below
        obtain ⟨d, hd⟩ : ∃ d, ds[k]? = some d := ⟨_, List.getElem?_eq_getElem (by rw [HN.out]; exact hlt)⟩
        obtain ⟨g, o, rfl, c0, c1, c2, c3⟩ := do_cells HC.out hd
        have c0' := keepC hB c0
        have c1' := keepC hB c1
        have c2' := keepC hB c2
        have c3' := keepC hB c3
        have hgl := cell_lt c0'
        obtain ⟨N10, hN10, hm10⟩ := umod d.n 10 (by omega)
        have hm10' : (IntKind.u64.wrap d.n).tmod 10 = (N10 : Int) := hm10
        have hok := HDO.out d (List.mem_of_getElem? hd)
        have HRD := Lib.hid (hok.rd.below (show Below w.heap.size w wr from hB))
        have HLN := Lib.hid (And.intro hok.len hok.cap)
        have HN10 := Lib.hid hN10
        have HCK : Hid (clock < 2305843009213693952 ∧ c < 1000000) := Lib.hid (by have := hI.tick; have := hI.cnt; omega)
        by_cases h30 : 30 < k
        · have hd30 : decide ((k : Int) > 30) = true := decide_eq_true (by omega)
          clear c0 c1 c2 c3 hd hm10 hI hB HI
          go_wp2_with fail
          go_meet
          exact Lib.hid ⟨k, hk31, _, _, _, _, _, _, _, _, HP.out.later ((Below.refl _ wr).alloc (Nat.le_refl _) _)⟩
        · have hd30 : decide ((k : Int) > 30) = false := decide_eq_false (by omega)
          clear c0 c1 c2 c3 hd hm10 hI hB HI
          have HPA := Lib.hid (HP.out.later ((Below.refl _ wr).alloc (Nat.le_refl _) (.cells #[.int .i64 d.op, .int .i64 d.n, .int .i64 d.lsn, .slice d.p d.m d.c] 39)))
          go_wp2_with fail
          clear c0' c1' c2' c3'
          have q3 : (wr.alloc (.cells #[.int .i64 d.op, .int .i64 d.n, .int .i64 d.lsn, .slice d.p d.m d.c] 39)).cell? ⟨wr.heap.size, 3, none⟩ = some (.slice d.p d.m d.c) := cellNew rfl
          have HRA : Hid (Rd (wr.alloc (.cells #[.int .i64 d.op, .int .i64 d.n, .int .i64 d.lsn, .slice d.p d.m d.c] 39)) d.p d.xs) := Lib.hid (HRD.out.below ((Below.refl _ wr).alloc (Nat.le_refl _) _))
          clear hgl HRD HP
          generalize wr.alloc (.cells #[.int .i64 d.op, .int .i64 d.n, .int .i64 d.lsn, .slice d.p d.m d.c] 39) = W at *
          go_cut [17] (fun v wx => ∃ q5 c5, v = .slice q5 112 c5 ∧ Hid (wx.ownsRow W.heap.size 5 1 (.slice q5 112 c5) 112 (B8s (loadV d.xs))) ∧ Hid (Below W.heap.size W wx))
          case first =>
            have q3' : W.drew.cell? ⟨wr.heap.size, 3, none⟩ = some (.slice d.p d.m d.c) := q3
            obtain ⟨mn, hmn⟩ : ∃ x, x = min d.m 112 := ⟨_, rfl⟩
            obtain ⟨r, hr⟩ : ∃ x, x = 112 - mn := ⟨_, rfl⟩
            have hmin1 : (if (112 : Int) < (d.m : Int) then (112 : Int) else (d.m : Int)) = (mn : Int) := by split <;> omega
            have hmin2 : (if 112 < d.m then (112 : Int) else (d.m : Int)) = (mn : Int) := by split <;> omega
            have hsub : IntKind.i64.wrap ((112 : Int) - (mn : Int)) = (r : Int) := by rw [IntKind.wrap_i64]; omega
            have hmin3 : min (d.m : Int) 112 = (mn : Int) := by omega
            have hmc : mn ≤ d.c := by have := HLN.out; omega
            have HXL : Hid ((d.xs.take 112).length = mn ∧ mn ≤ 112 ∧ r ≤ 112) := Lib.hid (by rw [List.length_take, HLN.out.1]; omega)
            have HRT : Hid (Rd W.drew d.p (d.xs.take 112)) := Lib.hid (show Rd W d.p (d.xs.take 112) from HRA.out.front 112)
            have HLV : Hid (d.xs.take 112 ++ List.replicate r 0 = loadV d.xs ∧ mn + r = 112) := Lib.hid (by rw [loadV, HLN.out.1, hr, hmn]; exact ⟨rfl, by omega⟩)
            clear hmn hr
            have S0 : Hid (Hid (Below W.heap.size W W.drew) ∧ W.drew.cell? ⟨wr.heap.size, 3, none⟩ = some (.slice d.p d.m d.c)) := Lib.hid ⟨Lib.hid (Below.refl _ W).drew, q3'⟩
            have hwl : wr.heap.size < W.heap.size := cell_lt q3
            go_region_held3 (fun w' => Hid (Below W.heap.size W w') ∧ w'.cell? ⟨wr.heap.size, 3, none⟩ = some (.slice d.p d.m d.c))
              (first | exact S0.out | exact S5.out | exact S6.out)
              (first
                | (go_at_call 10; refine (clone_any d.p mn d.c (d.xs.take 112) _ HXL.out.1 (by have := HXL.out; omega) ((HRA.out.below (And.left (by assumption : Hid (Below W.heap.size W _) ∧ _)).out).front 112)).mono ?_; rintro e w5 ⟨v5, rfl, ho5, hb5⟩; obtain ⟨q5, d5, rfl, -⟩ := own_slice ho5; have S5 := Lib.hid (keepL1 (by assumption : Hid (Below W.heap.size W _) ∧ _) hb5); have HO5 := Lib.hid (own_mono ho5 (And.left (by assumption : Hid (Below W.heap.size W _) ∧ _)).out.size); clear ho5 hb5)
                | (refine step_appz rfl (.tmp 81) (.tmp 86) rfl (.slice q5 mn d5) (d.xs.take 112) rfl rfl HO5.out (by have := HXL.out; omega) (by have := HXL.out; omega) S5.out.1.out.size ?_; intro v6 w6 ho6 hg6; have HO6 := Lib.hid ho6; have S6 := Lib.hid (keepL2 S5.out HO5.out hg6 hwl); clear ho6 hg6))
            all_goals
              have ho6 := HO6.out
              rw [HLV.out.1, HLV.out.2] at ho6
              obtain ⟨q6, d6, rfl, -⟩ := own_slice ho6
              have HO6' := Lib.hid ho6
              clear ho6 HO6
            all_goals go_wp2
            all_goals go_meet
            all_goals exact ⟨q6, d6, rfl, HO6', S6.out.1⟩
          case rest =>
            obtain ⟨q6, d6, rfl, HO6, HB6⟩ := hcut
            obtain ⟨l, hl⟩ : ∃ l, l = k + 1 := ⟨_, rfl⟩
            have hkl : (1 : Int) + (k : Int) = (l : Int) := by omega
            have hl31 : 1 ≤ l ∧ l ≤ 31 := by omega
            have HLL := Lib.hid hl
            have HP6 := Lib.hid (HPA.out.later HB6.out)
            have HT6 : Hid (∀ b o s, q6 = some ⟨b, o, s⟩ → ¬ FS (z0 w.heap.size) bm wc b) := Lib.hid (fun b o s e hf => by
              obtain ⟨g6, e6, -, ht6, -⟩ := own_at1 HO6.out (by omega)
              rw [e] at e6
              cases e6
              exact fs_not8 HP6.out.run.pool (.inl rfl) _ hf ht6)
            clear hl q3 hm10'
            go_wp2_with fail
            refine (putP_any wc (N10 : Int) l q6 112 d6 (loadV d.xs) HP6.out.run (by omega) (by have := HN10.out; omega) HCK.out.1 HCK.out.2 (by omega) rfl (loadV_length _) (own_rdv HO6.out) HT6.out).mono ?_
            rintro e w7 (⟨rfl, hp7, hne7, -⟩ | ⟨clock', c', M', D', L', rfl, hp7, hr7, ht7, hc7, -, hu7⟩)
            · exfalso
              obtain ⟨x, hx⟩ := List.exists_mem_of_ne_nil _ hne7
              have h0 := HP6.out.pins x.1
              unfold pinsOf at h0
              rw [look_of_mem HP6.out.run.pool.nodup (show (x.1, x.2) ∈ M from hx)] at h0
              exact hp7 x hx h0
            · have HP7 := Lib.hid hp7
              have HR7 := Lib.hid hr7
              have HU7 := Lib.hid hu7
              have HX7 := Lib.hid (And.intro ht7.2 hc7)
              obtain ⟨hm71, hm72⟩ := HP6.out.maps hu7
              have HM71 := Lib.hid hm71
              have HM72 := Lib.hid hm72
              have HBY : Hid (Byt w7 (z0 w.heap.size) (.slice q6 112 d6) (loadV d.xs)) := Lib.hid (Byt.own (own_upd HO6.out hu7 (fun k hk ht => fs_not8 HP6.out.run.pool (.inl rfl) k hk ht)) (fun k hk => hk.elim))
              have HKL : Hid (IntKind.i64.wrap (k : Int) = k) := Lib.hid (by rw [IntKind.wrap_i64]; omega)
              clear hp7 hr7 hu7 ht7 hc7 hm71 hm72
              go_wp2_with (first
                | (at_mapUpdate; refine wpList_store (KK := intKeys) (b := wm) rfl _ _ _ 35 rfl 3 37 Tryz.underlying35 Tryz.underlying3 (N10 : Int) (.slice q6 112 d6) rfl rfl rfl HM71.out ?_; intro w8 hs8 hu8; have HS8 := Lib.hid hs8; have HU8 := Lib.hid hu8; have HM82 := Lib.hid (HM72.out.upd hu8 (fun e => HP6.out.apart.1 e.symm)); clear hs8 hu8)
                | (at_mapUpdate; refine wpList_store (KK := intKeys) (b := lm) rfl _ _ _ 36 rfl 3 3 Tryz.underlying36 Tryz.underlying3 (N10 : Int) (.int .i64 l) rfl rfl rfl HM82.out ?_; intro w9 hs9 hu9; have HS9 := Lib.hid hs9; have HU9 := Lib.hid hu9; clear hs9 hu9))
              go_roundw
              case rel => exact ⟨k + 1, by omega, by omega, by rfl, Lib.hid ⟨_, _, _, _, _, _, _, _, HP6.out.step HR7.out HX7.out.1 HX7.out.2 HP7.out HU7.out HBY.out HS8.out HU8.out HS9.out HU9.out⟩⟩
              case measure => simp [intOf]; omega
      · obtain rfl : k = n := by omega
        go_wp2_with fail
        go_meet
        exact Lib.hid ⟨k, hk31, HI.out⟩
  case rest =>
    obtain ⟨k, hk31, clock, c, M, C, D, L, m1, m2, hI⟩ := hcut.out
    have HP := Lib.hid hI
    have HK := Lib.hid hk31
    clear hI hcut hk31 HI0
    go_wp2_with fail
    refine (allP_any _ HP.out.run (by have := HP.out.tick; have := HK.out; omega) (by have := HP.out.cnt; have := HK.out; omega)).mono ?_
    rintro e w5 ⟨rfl, M', D', L', hr5, hcl5, -, -, hu5⟩
    have HR5 := Lib.hid hr5
    have HCL := Lib.hid hcl5
    obtain ⟨hm1, hm2⟩ := HP.out.maps hu5
    have HM1 := Lib.hid hm1
    have HM2 := Lib.hid hm2
    have HW5 := Lib.hid (HP.out.wants hu5)
    have HB5 : Hid (Below w.heap.size w w5) := Lib.hid (HP.out.below.trans (FS.below hu5 HP.out.run.st.base))
    clear hr5 hcl5 hm1 hm2 hu5
    go_wp2_with fail
    refine (pending_none bd 14 D' _ HR5.out.st.disk).mono ?_
    rintro e w6 ⟨rfl, rfl⟩
    go_wp2_with fail
    go_loopw [112] (fun i wr => ∃ j : Nat, j ≤ 10 ∧ i = .int .i64 j ∧ Hid (Below w6.heap.size w6 wr)) (fun i _ => 10 - (intOf i).toNat)
    case atStart => exact ⟨0, by omega, rfl, Lib.hid (Below.refl _ _)⟩
    case round =>
      obtain ⟨j, hj, rfl, HB⟩ := hrel
      by_cases hj10 : j < 10
      · have hji : (j : Int) < 10 := by omega
        have hu := Upd.of_below' HB.out (fun _ => False)
        have HMW1 := Lib.hid (HM1.out.upd hu (fun h => h))
        have HMW2 := Lib.hid (HM2.out.upd hu (fun h => h))
        have HRW := Lib.hid (HR5.out.below HB.out)
        have HJ := Lib.hid hj10
        rcases HW5.out (j : Int) with hl | ⟨v, hl, hby, hl2⟩
        · have HL1 : Hid (look m1 (j : Int) = none) := Lib.hid hl
          clear hl hu
          go_wp2_with (at_lookup; refine wpList_look_ok (KK := intKeys) rfl _ _ 35 rfl 3 37 Tryz.underlying35 Tryz.underlying3 _ zslB (j : Int) rfl rfl HMW1.out ?_; rw [HL1.out, Option.getD_none, Option.isSome_none])
          go_roundw
          case rel => exact ⟨j + 1, by omega, by go_num, HB⟩
          case measure => simp [intOf]; omega
        · have HL1 := Lib.hid hl
          have HL2 := Lib.hid hl2
          have hck := HRW.out.inv.ok (j : Int) (by omega) (by omega)
          have HCK := Lib.hid hck
          obtain ⟨q0, d0, rfl⟩ := hby.slice
          rw [hck.2] at hl hby HL1
          have HRB := Lib.hid (hby.rd.1.below HB.out)
          have HDE : Hid (D' (4 + j) = encV (C (j : Int)).1 (C (j : Int)).2) := Lib.hid (by
            have := HR5.out.inv.clean HCL.out (j : Int) (by omega) (by omega)
            simpa using this)
          obtain ⟨J, hJ⟩ : ∃ J, J = 4 + j := ⟨_, rfl⟩
          have hjJ : (4 : Int) + (j : Int) = (J : Int) := by omega
          have HJ14 : Hid (J < 14) := Lib.hid (by omega)
          rw [← hJ] at HDE
          clear hl hl2 hby hu hck hJ
          go_wp2_with (at_lookup; refine wpList_look_ok (KK := intKeys) rfl _ _ 35 rfl 3 37 Tryz.underlying35 Tryz.underlying3 _ zslB (j : Int) rfl rfl HMW1.out ?_; rw [HL1.out, Option.getD_some, Option.isSome_some])
          refine (disIs_read bd 14 0 J D' _ HRW.out.st.disk HRW.out.st.no HJ14.out (by omega)).mono ?_
          rintro e w7 ⟨v7, rfl, ho7, hb7⟩
          obtain ⟨q7, c7, rfl, hc7⟩ := own_slice ho7
          have HO7 := Lib.hid ho7
          have HB7 := Lib.hid hb7
          have HC7 := Lib.hid (And.intro hc7 (own_cap ho7 (by omega)).2)
          have HRD7 : Hid (Rd w7 q7 (D' J) ∧ (D' J).length = 128) := Lib.hid (by
            obtain ⟨p', c', e', hr', hx', -⟩ := own_rd ho7
            cases e'
            exact ⟨hr', hx'⟩)
          clear ho7 hb7 hc7
          go_wp2_with fail
          refine (refdecode_any q7 128 c7 (D' J) _ HRD7.out.2 HRD7.out.1 HC7.out.1 HC7.out.2).mono ?_
          rintro e w8 ⟨hq8, hb8⟩
          obtain ⟨de1, de2, de3⟩ := dec_enc (l := (C (j : Int)).1) HCK.out.2 HCK.out.1
          rw [HDE.out] at hq8
          rcases hq8 with ⟨-, v8, rfl, ho8⟩ | ⟨hne, -⟩
          case' inr => exact absurd de1 hne
          rw [de3] at ho8
          rw [de2]
          obtain ⟨q8, c8, rfl, -⟩ := own_slice ho8
          have HR8 := Lib.hid (own_rdv ho8)
          have HB8 := Lib.hid (chainC HB.out (chainC HB7.out hb8))
          have HRB8 := Lib.hid ((HRB.out.below HB7.out).below hb8)
          have hu8 := Upd.of_below' (chainC HB7.out hb8) (fun _ => False)
          have HM28 := Lib.hid (HMW2.out.upd hu8 (fun h => h))
          obtain ⟨l, hl⟩ : ∃ l, l = (C (j : Int)).1 := ⟨_, rfl⟩
          rw [← hl] at HL2 ⊢
          have hll : ((l : Int) != (l : Int)) = false := by simp
          have HBE : Hid (((C (j : Int)).2 == (C (j : Int)).2) = true) := Lib.hid (by simp)
          clear hl hu8 ho8 hb8 de1 de2 de3
          have hlk : (Instr.lookup 36 (.map (some lm)) (.int .i64 (j : Int)) false).run Tryz.prog w8 = .ok (.int .i64 l) w8 := by
            have h := HM28.out.lookup (P := Tryz.prog) Tryz.underlying36 Tryz.underlying3 (zintI w8) (j : Int)
            rw [HL2.out, Option.getD_some] at h
            exact h
          go_wp2_with fail
          refine (equal_any q8 q0 112 c8 112 d0 (C (j : Int)).2 (C (j : Int)).2 _ HCK.out.2 HCK.out.2 HR8.out HRB8.out).mono ?_
          rintro e w9 ⟨rfl, rfl⟩
          rw [HBE.out]
          go_wp2_with fail
          go_roundw
          case rel => exact ⟨j + 1, by omega, by go_num, HB8⟩
          case measure => simp [intOf]; omega
      · obtain rfl : j = 10 := by omega
        go_wp2_with fail
        go_returns
        exact ⟨rfl, HB5.out.trans (HB.out.mono HB5.out.size)⟩
end Go.Proofs.YtefalhnllkkkhaaGreatDoor
