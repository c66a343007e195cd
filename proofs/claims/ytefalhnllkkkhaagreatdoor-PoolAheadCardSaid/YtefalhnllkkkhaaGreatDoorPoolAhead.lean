/- rostrumlaw05.PoolAhead: the walk. -/
import Derived.Test.YtefalhnllkkkhaaGreatDoorPoolApp
import Derived.Test.YtefalhnllkkkhaaGreatDoorPoolNew
import Derived.Deep.CutBlock
import Derived.Deep.RegionHeld3
namespace Go.Proofs.YtefalhnllkkkhaaGreatDoor
open Go.RowKit Go.Shelf
set_option linter.unusedVariables false

/-- What holds between two calls of the law. -/
structure PA (w0 : World) (bp bd bl bm B wm k t : Nat) (wr : World) (N : Zone) (clock c : Nat) (M : List (Int × Buf)) (C : Int → Nat × List UInt8) (D : Nat → List UInt8) (L : LogV) (m1 : List (Int × Value)) : Prop where
  zone : N.B = w0.heap.size
  run : Run N bp bd bl bm 4 10 B 14 wr clock c M C D L
  pins : ∀ n, pinsOf M n = 0
  tick : clock ≤ t
  cnt : c ≤ t
  below : Below w0.heap.size w0 wr
  map1 : MapIs intKeys wr wm m1
  apart : wm ≠ bm
  low : w0.heap.size ≤ wm
  want : ∀ n : Int, look m1 n = none ∨ ∃ v, look m1 n = some v ∧ Byt wr N v (C n).2
  at0 : L.fro = 0 ∧ L.sectors = 4
  last : L.last = k
  lsn : ∀ n : Int, 0 ≤ n → n < 10 → (C n).1 ≤ k
  ahead : Ahead D L.forced
def PAI (w0 : World) (bp bd bl bm B wm k t : Nat) (wr : World) : Prop := ∃ N clock c M C D L m1, PA w0 bp bd bl bm B wm k t wr N clock c M C D L m1
section
variable {w0 wr w' : World} {bp bd bl bm B wm k t : Nat} {N : Zone} {clock c : Nat} {M : List (Int × Buf)} {C : Int → Nat × List UInt8} {D : Nat → List UInt8} {L : LogV} {m1 : List (Int × Value)}
theorem PA.later (h : PA w0 bp bd bl bm B wm k t wr N clock c M C D L m1) (hb : Below wr.heap.size wr w') : PA w0 bp bd bl bm B wm k t w' N clock c M C D L m1 := by
  have hu := Upd.of_below' hb (fun _ => False)
  refine ⟨h.zone, h.run.below hb, h.pins, h.tick, h.cnt, h.below.trans (hb.mono h.below.size), h.map1.upd hu (fun h => h), h.apart, h.low, fun n => ?_, h.at0, h.last, h.lsn, h.ahead⟩
  rcases h.want n with e | ⟨v, e1, e2⟩
  · exact .inl e
  · exact .inr ⟨v, e1, e2.upd hu (fun k hk => hk.elim)⟩
theorem PA.more {t' : Nat} (h : PA w0 bp bd bl bm B wm k t wr N clock c M C D L m1) (ht : t ≤ t') : PA w0 bp bd bl bm B wm k t' wr N clock c M C D L m1 :=
  ⟨h.zone, h.run, h.pins, Nat.le_trans h.tick ht, Nat.le_trans h.cnt ht, h.below, h.map1, h.apart, h.low, h.want, h.at0, h.last, h.lsn, h.ahead⟩
theorem PA.okC (h : PA w0 bp bd bl bm B wm k t wr N clock c M C D L m1) (n : Int) (h0 : 0 ≤ n) (h1 : n < 10) : (C n).1 ≤ L.last ∧ (C n).2.length = 112 := ⟨by rw [h.last]; exact h.lsn n h0 h1, (h.run.inv.ok n h0 (by omega)).2⟩
theorem PA.wants (h : PA w0 bp bd bl bm B wm k t wr N clock c M C D L m1) (hu : Upd (FS N bm wr) wr w') (n : Int) : look m1 n = none ∨ ∃ v, look m1 n = some v ∧ Byt w' N v (C n).2 := by
  rcases h.want n with e | ⟨v, e1, e2⟩
  · exact .inl e
  · exact .inr ⟨v, e1, e2.upd hu (fun k hk ht => (fs_not8 h.run.pool (.inl rfl) k hk ht).elim)⟩
theorem PA.frame (h : PA w0 bp bd bl bm B wm k t wr N clock c M C D L m1) (hu : Upd (FS N bm wr) wr w') : Below w0.heap.size w0 w' := h.below.trans (by have := FS.below hu h.run.st.base; rwa [h.zone] at this)
/-- A call of the pool that leaves the pages as they are. -/
theorem PA.goes {clock' c' : Nat} {M' : List (Int × Buf)} {D' : Nat → List UInt8} {L' : LogV} (h : PA w0 bp bd bl bm B wm k t wr N clock c M C D L m1) (hr : Run N bp bd bl bm 4 10 B 14 w' clock' c' M' C D' L') (hp : ∀ n, pinsOf M' n = pinsOf M n) (hw : Wr 4 10 C L D L' D') (hu : Upd (FS N bm wr) wr w') {t' : Nat} (ht : clock' ≤ t') (hc : c' ≤ t') :
    PA w0 bp bd bl bm B wm k t' w' N clock' c' M' C D' L' m1 := by
  obtain ⟨e1, e2, e3, -, -⟩ := hw.same
  exact ⟨h.zone, hr, fun n => by rw [hp]; exact h.pins n, ht, hc, h.frame hu, h.map1.upd hu (fs_notMap h.map1 h.apart), h.apart, h.low, h.wants hu, by rw [e1, e2]; exact h.at0, by rw [e3]; exact h.last, h.lsn, h.ahead.wr hw h.run.log h.run.st.lok.forced h.okC⟩
/-- Append, Put and the map. -/
theorem PA.step {N' : Zone} {w5 w6 w7 w8 : World} {L5 L' : LogV} {clock' c' : Nat} {M' : List (Int × Buf)} {D' : Nat → List UInt8} {n : Int} {xs : List UInt8} {v : Value} (h : PA w0 bp bd bl bm B wm k t wr N clock c M C D L m1)
    (hz : N'.B = N.B) (e1 : L5.fro = L.fro) (e2 : L5.sectors = L.sectors) (e3 : L5.last = L.last + 1) (e4 : L5.forced = L.forced) (hby : ∀ v xs, Byt wr N v xs → Byt w5 N' v xs) (hm : ∀ b m, MapIs intKeys wr b m → MapIs intKeys w5 b m) (hb5 : Below N.B wr w5) (hr5 : Run N' bp bd bl bm 4 10 B 14 w5 clock c M C D L5) (hb6 : Below w5.heap.size w5 w6)
    (hr : Run N' bp bd bl bm 4 10 B 14 w7 clock' c' M' (updC C n (k + 1) xs) D' L') (ht : clock' ≤ clock + 1) (hc : c' ≤ c + 1) (hp : ∀ k, pinsOf M' k = pinsOf M k) (hw : Wr 4 10 C L5 D L' D') (hu : Upd (FS N' bm w6) w6 w7) (hv : Byt w7 N' v xs)
    (hs1 : MapIs intKeys w8 wm (put m1 n v)) (hu8 : Upd (fun k => k = wm) w7 w8) :
    PA w0 bp bd bl bm B wm (k + 1) (t + 1) w8 N' clock' c' M' (updC C n (k + 1) xs) D' L' (put m1 n v) := by
  have u6 := Upd.of_below' hb6 (fun _ => False)
  have r6 := hr5.below hb6
  have m6 : MapIs intKeys w6 wm m1 := (hm _ _ h.map1).upd u6 (fun h => h)
  have m7 := m6.upd hu (fs_notMap m6 h.apart)
  have b8 : ∀ {u ys}, Byt w7 N' u ys → Byt w8 N' u ys := fun hb => hb.upd hu8 (fun k hk h8 => by subst hk; exact (m7.notTyped h8 rfl).elim)
  have hzB : N'.B = w0.heap.size := hz.trans h.zone
  obtain ⟨f1, f2, f3, -, -⟩ := hw.same
  have hok5 : ∀ n : Int, 0 ≤ n → n < 10 → (C n).1 ≤ L5.last ∧ (C n).2.length = 112 := fun n h0 h1 => by
    have := h.okC n h0 h1
    rw [e3]
    exact ⟨by omega, this.2⟩
  have b5 : Below w0.heap.size w0 w5 := h.below.trans (by rw [← h.zone]; exact hb5)
  have b7 : Below w0.heap.size w0 w7 := (b5.trans (hb6.mono b5.size)).trans (by have := FS.below hu r6.st.base; rwa [hzB] at this)
  refine ⟨hzB, hr.upd hu8 (fun k hk => by subst hk; rw [hzB]; exact h.low) (fun k hk => by subst hk; exact ⟨fs_notMap m7 h.apart, fun h8 => m7.notTyped h8 rfl⟩), fun j => by rw [hp]; exact h.pins j, by have := h.tick; omega, by have := h.cnt; omega, b7.trans (Upd.below hu8 b7.size (fun k hk => by subst hk; exact h.low)), hs1, h.apart, h.low, fun j => ?_, by rw [f1, f2, e1, e2]; exact h.at0, by rw [f3, e3, h.last], fun j h0 h1 => ?_, Ahead.wr (by rw [e4]; exact h.ahead) hw (by rw [e1, e2]; exact h.run.log) (by rw [e3, e4]; have := h.run.st.lok.forced; omega) hok5⟩
  · rw [look_put]
    by_cases e : j = n
    · subst e
      rw [if_pos rfl, updC_same]
      exact .inr ⟨v, rfl, b8 hv⟩
    · rw [if_neg e, updC_other _ _ _ e]
      rcases h.want j with e' | ⟨u, q1, q2⟩
      · exact .inl e'
      · exact .inr ⟨u, q1, b8 (((hby _ _ q2).upd u6 (fun k hk => hk.elim)).upd hu (fun k hk h8 => (fs_not8 r6.pool (.inl rfl) k hk h8).elim))⟩
  · by_cases e : j = n
    · subst e
      rw [updC_same]
      exact Nat.le_refl _
    · rw [updC_other _ _ _ e]
      exact Nat.le_succ_of_le (h.lsn j h0 h1)
end
theorem ahead0 : Ahead (fun _ => zeros 128) 0 := fun n _ => ⟨0, zeros 112, encV_zero.symm, by simp [zeros], Nat.le_refl _⟩
set_option maxRecDepth 20000 in
set_option maxHeartbeats 4000000 in
theorem poolAhead_walk (b : Int) (p : Option Addr) (n cp : Nat) (ds : List Do) (w : World) (hT : Halves w) (hn : ds.length = n) (hm : n ≤ 140737488351232) (h : Cells w p (ds.flatMap doCells)) (hdo : ∀ x ∈ ds, DoOk w x) :
    Calls Tryz.prog 6 #[.int .i64 b, .slice p n cp] w fun e w' => e = .returned (.bool true) ∧ Below w.heap.size w w' := by
  have HN := Lib.hid hn
  have HM := Lib.hid hm
  have HC := Lib.hid h
  have HT := Lib.hid hT
  have HDO := Lib.hid hdo
  have hgl := cell_lt (hT 0)
  have HG : Hid (0 < w.heap.size) := Lib.hid hgl
  have hmm := @run_makeMap Tryz.prog
  obtain ⟨R, hR, htm⟩ := umod b 4 (by omega)
  obtain ⟨B, hB⟩ : ∃ B, B = R + 1 := ⟨_, rfl⟩
  have hB1 : (1 : Int) + (R : Int) = (B : Int) := by omega
  have hB2 : wrap64 ((1 : Int) + (R : Int)) = (B : Int) := by rw [wrap64]; omega
  have htm' : (IntKind.u64.wrap b).tmod 4 = (R : Int) := htm
  have HBB : Hid (1 ≤ B ∧ B ≤ 4) := Lib.hid (by omega)
  clear hn hm h hT hgl hB htm hdo
  go_enter Tryz.func6, Tryz.ntmps6
  go_wp2_with fail
  refine (diskNew_any 14 _ (by omega) (by omega)).mono ?_
  rintro e w1 ⟨bd, rfl, hbd, hbl, hD, hb1⟩
  have HD := Lib.hid (hD (z0 w.heap.size) (Nat.le_refl _) (fun k h => h.elim))
  have HB1 := Lib.hid hb1
  clear hD hb1 hbd hbl
  go_wp2_with fail
  refine (logOpen_zero w.heap.size bd 0 4 14 _ HD.out (by omega) (by omega)).mono ?_
  rintro e w2 ⟨bl, rfl, hL, hbl, hb2⟩
  have HL := Lib.hid hL
  have HB2 := Lib.hid hb2
  clear hL hb2
  have HST : Hid (St w2 (z0 w.heap.size) bd bl 14 0 (fun _ => zeros 128) ⟨0, 4, 1, 0, 0, 0, .slice none 0 0, []⟩) := Lib.hid (start_run (HD.out.below HB2.out) ⟨HL.out.cells, World.ownsRow_nil _ _ _ _⟩ (Nat.le_trans HB1.out.size hbl) rfl (by have := HB1.out.size; have := HB2.out.size; omega) ((HT.out.below HB1.out).below HB2.out) HG.out)
  clear hbl
  go_wp2_with fail
  refine (poolNew_any bd bl 14 0 4 10 B _ _ _ HST.out (by omega) (by omega) HBB.out.1 (by have := HBB.out; omega)).mono ?_
  rintro e w3 ⟨bp, bm, rfl, hp3, hb3⟩
  have HR3 : Hid (Run (z0 w.heap.size) bp bd bl bm 4 10 B 14 w3 0 0 [] C0 (fun _ => zeros 128) ⟨0, 4, 1, 0, 0, 0, .slice none 0 0, []⟩) := Lib.hid ⟨HST.out.below hb3, hp3, start_inv, by omega, by simp, .inr (forceC_all _ _ _ _), by simp, HBB.out.1, by have := HBB.out; omega⟩
  have HB3 := Lib.hid (chainC (chainC HB1.out HB2.out) hb3)
  have hbml : bm < w3.heap.size := hp3.map.lt
  clear hp3 hb3
  go_upto_block 0 with fail
  have HI0 : Hid (PAI w bp bd bl bm B w3.heap.size 0 0 (w3.alloc (.map #[] 0))) := Lib.hid (by
    have b1 : Below w3.heap.size w3 (w3.alloc (.map #[] 0)) := (Below.refl _ w3).alloc (Nat.le_refl _) _
    exact ⟨_, 0, 0, [], C0, _, _, [], rfl, HR3.out.below b1, fun n => rfl, Nat.le_refl _, Nat.le_refl _, chainC HB3.out b1, MapIs.made w3, by omega, HB3.out.size, fun n => .inl rfl, ⟨rfl, rfl⟩, rfl, fun n _ _ => Nat.le_refl _, ahead0⟩)
  obtain ⟨wm, hwm⟩ : ∃ x, x = w3.heap.size := ⟨_, rfl⟩
  rw [← hwm] at HI0 ⊢
  clear hwm hbml
  generalize w3.alloc (.map #[] 0) = W0 at *
  clear HR3 HB3 HST HD HL HB1 HB2 hmm hB1 hB2 htm' HT HG
  go_cut [] (fun wx => Hid (∃ k, k ≤ 41 ∧ PAI w bp bd bl bm B wm k (2 * k) wx))
  case first =>
    go_wp2_with fail
    go_loopw [64] (fun i wr => ∃ (k : Nat), k ≤ n ∧ k ≤ 41 ∧ i = .int .i64 k ∧ Hid (PAI w bp bd bl bm B wm k (2 * k) wr)) (fun i _ => n - (intOf i).toNat)
    case atStart => exact ⟨0, Nat.zero_le _, by omega, rfl, HI0⟩
    case round =>
      obtain ⟨k, hk, hk41, rfl, HI⟩ := hrel
      by_cases hlt : k < n
      · obtain ⟨N, clock, c, M, C, D, L, m1, hI⟩ := HI.out
        have HP := Lib.hid hI
        have hB := hI.below
        obtain ⟨d, hd⟩ : ∃ d, ds[k]? = some d := ⟨_, List.getElem?_eq_getElem (by rw [HN.out]; exact hlt)⟩
        obtain ⟨g, o, rfl, c0, c1, c2, c3⟩ := do_cells HC.out hd
        have c0' := keepC hB c0
        have c1' := keepC hB c1
        have c2' := keepC hB c2
        have c3' := keepC hB c3
        have hgl := cell_lt c0'
        obtain ⟨N10, hN10, hm10⟩ := umod d.n 10 (by omega)
        have hm10' : (IntKind.u64.wrap d.n).tmod 10 = (N10 : Int) := hm10
        have hok := HDO.out d (List.mem_of_getElem? hd)
        have HRD := Lib.hid (hok.rd.below (show Below w.heap.size w wr from hB))
        have HLN := Lib.hid (And.intro hok.len hok.cap)
        have HN10 := Lib.hid hN10
        have HCK : Hid (clock < 1000 ∧ c < 1000 ∧ L.last = k ∧ L.sectors = 4) := Lib.hid (by have := hI.tick; have := hI.cnt; exact ⟨by omega, by omega, hI.last, hI.at0.2⟩)
        by_cases h40 : 40 < k
        · have hd40 : decide ((k : Int) > 40) = true := decide_eq_true (by omega)
          clear c0 c1 c2 c3 hd hm10 hI hB HI
          go_wp2_with fail
          go_meet
          exact Lib.hid ⟨k, hk41, _, _, _, _, _, _, _, _, HP.out.later ((Below.refl _ wr).alloc (Nat.le_refl _) _)⟩
        · have hd40 : decide ((k : Int) > 40) = false := decide_eq_false (by omega)
          clear c0 c1 c2 c3 hd hm10 hI hB HI
          have HPA := Lib.hid (HP.out.later ((Below.refl _ wr).alloc (Nat.le_refl _) (.cells #[.int .i64 d.op, .int .i64 d.n, .int .i64 d.lsn, .slice d.p d.m d.c] 39)))
          have HPB := Lib.hid (HPA.out.later ((Below.refl _ (wr.alloc (.cells #[.int .i64 d.op, .int .i64 d.n, .int .i64 d.lsn, .slice d.p d.m d.c] 39))).alloc (Nat.le_refl _) (.cells #[.int .u8 1] 5)))
          have HTD : Hid (Typed ((wr.alloc (.cells #[.int .i64 d.op, .int .i64 d.n, .int .i64 d.lsn, .slice d.p d.m d.c] 39)).alloc (.cells #[.int .u8 1] 5)) wr.heap.size 39 ∧ ((wr.alloc (.cells #[.int .i64 d.op, .int .i64 d.n, .int .i64 d.lsn, .slice d.p d.m d.c] 39)).alloc (.cells #[.int .u8 1] 5)).heap[wr.heap.size]? = some (.cells #[.int .i64 d.op, .int .i64 d.n, .int .i64 d.lsn, .slice d.p d.m d.c] 39 (0, 0))) := Lib.hid (by
            have h1 := heap_alloc_new wr (.cells #[.int .i64 d.op, .int .i64 d.n, .int .i64 d.lsn, .slice d.p d.m d.c] 39)
            have h2 := alloc_at (o' := .cells #[.int .i64 d.op, .int .i64 d.n, .int .i64 d.lsn, .slice d.p d.m d.c] 39 (0, 0)) (o := .cells #[.int .u8 1] 5) h1
            exact ⟨⟨_, h2⟩, h2⟩)
          go_wp2_with fail
          clear c0' c1' c2' c3' hgl HPA HP
          have HRN : Hid (Rd ((wr.alloc (.cells #[.int .i64 d.op, .int .i64 d.n, .int .i64 d.lsn, .slice d.p d.m d.c] 39)).alloc (.cells #[.int .u8 1] 5)) (some ⟨(wr.alloc (.cells #[.int .i64 d.op, .int .i64 d.n, .int .i64 d.lsn, .slice d.p d.m d.c] 39)).heap.size, 0, none⟩) [1]) := Lib.hid (rd_new (wr.alloc (.cells #[.int .i64 d.op, .int .i64 d.n, .int .i64 d.lsn, .slice d.p d.m d.c] 39)) [1])
          rw [World.size_alloc] at HRN
          generalize (wr.alloc (.cells #[.int .i64 d.op, .int .i64 d.n, .int .i64 d.lsn, .slice d.p d.m d.c] 39)).alloc (.cells #[.int .u8 1] 5) = W0' at *
          refine (appendR_any [1] _ 1 1 W0' HPB.out.run (by have := HCK.out; omega) (by have := HCK.out; omega) rfl (by omega) (by omega) HRN.out).mono ?_
          rintro e W (⟨rfl, hb⟩ | ⟨N', L5, rfl, hz, e1, e2, e3, e4, e5, e6, e7, e8, e9⟩)
          · have HB' := Lib.hid (HPB.out.below.trans (hb.mono HPB.out.below.size))
            clear hb
            go_wp2_with fail
            go_returns
            exact ⟨rfl, HB'.out⟩
          · have q8 := (e9 _ _ HTD.out.1 (by decide) (by decide)).trans HTD.out.2
            have q3 : W.cell? ⟨wr.heap.size, 3, none⟩ = some (.slice d.p d.m d.c) := by simp [World.cell?, q8]
            have HQ8 := Lib.hid q8
            have HZ := Lib.hid (And.intro hz (And.intro e2 (And.intro e3 (And.intro e4 e5))))
            have HR5 := Lib.hid e1
            have HF5 := Lib.hid (And.intro e6 (And.intro e7 e8))
            have HRA : Hid (Rd W d.p d.xs) := Lib.hid (hok.rd.below (HPB.out.below.trans (by have := HF5.out.2.2; rwa [HPB.out.zone] at this)))
            rw [HCK.out.2.2.1]
            clear q8 hz e1 e2 e3 e4 e5 e6 e7 e8 e9 HRD HTD HRN
            obtain ⟨l, hl⟩ : ∃ l, l = k + 1 := ⟨_, rfl⟩
            rw [← hl]
            have hl41 : 1 ≤ l ∧ l ≤ 41 := by omega
            have HLL := Lib.hid hl
            clear hl
            go_wp2_with fail
            go_cut [18] (fun v wx => ∃ q5 c5, v = .slice q5 112 c5 ∧ Hid (wx.ownsRow W.heap.size 5 1 (.slice q5 112 c5) 112 (B8s (loadV d.xs))) ∧ Hid (Below W.heap.size W wx))
            case first =>
              have q3' : W.drew.cell? ⟨wr.heap.size, 3, none⟩ = some (.slice d.p d.m d.c) := q3
              obtain ⟨mn, hmn⟩ : ∃ x, x = min d.m 112 := ⟨_, rfl⟩
              obtain ⟨r, hr⟩ : ∃ x, x = 112 - mn := ⟨_, rfl⟩
              have hmin1 : (if (112 : Int) < (d.m : Int) then (112 : Int) else (d.m : Int)) = (mn : Int) := by split <;> omega
              have hmin2 : (if 112 < d.m then (112 : Int) else (d.m : Int)) = (mn : Int) := by split <;> omega
              have hsub : IntKind.i64.wrap ((112 : Int) - (mn : Int)) = (r : Int) := by rw [IntKind.wrap_i64]; omega
              have hmin3 : min (d.m : Int) 112 = (mn : Int) := by omega
              have hmc : mn ≤ d.c := by have := HLN.out; omega
              have HXL : Hid ((d.xs.take 112).length = mn ∧ mn ≤ 112 ∧ r ≤ 112) := Lib.hid (by rw [List.length_take, HLN.out.1]; omega)
              have HRT : Hid (Rd W.drew d.p (d.xs.take 112)) := Lib.hid (show Rd W d.p (d.xs.take 112) from HRA.out.front 112)
              have HLV : Hid (d.xs.take 112 ++ List.replicate r 0 = loadV d.xs ∧ mn + r = 112) := Lib.hid (by rw [loadV, HLN.out.1, hr, hmn]; exact ⟨rfl, by omega⟩)
              clear hmn hr
              have S0 : Hid (Hid (Below W.heap.size W W.drew) ∧ W.drew.cell? ⟨wr.heap.size, 3, none⟩ = some (.slice d.p d.m d.c)) := Lib.hid ⟨Lib.hid (Below.refl _ W).drew, q3'⟩
              have hwl : wr.heap.size < W.heap.size := cell_lt q3
              go_region_held3 (fun w' => Hid (Below W.heap.size W w') ∧ w'.cell? ⟨wr.heap.size, 3, none⟩ = some (.slice d.p d.m d.c))
                (first | exact S0.out | exact S5.out | exact S6.out)
                (first
                  | (go_at_call 10; refine (clone_any d.p mn d.c (d.xs.take 112) _ HXL.out.1 (by have := HXL.out; omega) ((HRA.out.below (And.left (by assumption : Hid (Below W.heap.size W _) ∧ _)).out).front 112)).mono ?_; rintro e w5 ⟨v5, rfl, ho5, hb5⟩; obtain ⟨q5, d5, rfl, -⟩ := own_slice ho5; have S5 := Lib.hid (keepL1 (by assumption : Hid (Below W.heap.size W _) ∧ _) hb5); have HO5 := Lib.hid (own_mono ho5 (And.left (by assumption : Hid (Below W.heap.size W _) ∧ _)).out.size); clear ho5 hb5)
                  | (refine step_appz rfl (.tmp 93) (.tmp 98) rfl (.slice q5 mn d5) (d.xs.take 112) rfl rfl HO5.out (by have := HXL.out; omega) (by have := HXL.out; omega) S5.out.1.out.size ?_; intro v6 w6 ho6 hg6; have HO6 := Lib.hid ho6; have S6 := Lib.hid (keepL2 S5.out HO5.out hg6 hwl); clear ho6 hg6))
              all_goals
                have ho6 := HO6.out
                rw [HLV.out.1, HLV.out.2] at ho6
                obtain ⟨q6, d6, rfl, -⟩ := own_slice ho6
                have HO6' := Lib.hid ho6
                clear ho6 HO6
              all_goals go_wp2
              all_goals go_meet
              all_goals exact ⟨q6, d6, rfl, HO6', S6.out.1⟩
            case rest =>
              obtain ⟨q6, d6, rfl, HO6, HB6⟩ := hcut
              have HR6 := Lib.hid (HR5.out.below HB6.out)
              have HT6 : Hid (∀ b o s, q6 = some ⟨b, o, s⟩ → ¬ FS N' bm wc b) := Lib.hid (fun b o s e hf => by
                obtain ⟨g6, e6, -, ht6, -⟩ := own_at1 HO6.out (by omega)
                rw [e] at e6
                cases e6
                exact fs_not8 HR6.out.pool (.inl rfl) _ hf ht6)
              clear q3 hm10'
              go_wp2_with fail
              refine (putP_any wc (N10 : Int) l q6 112 d6 (loadV d.xs) HR6.out (by omega) (by have := HN10.out; omega) (by have := HCK.out; omega) (by have := HCK.out; omega) (by omega) rfl (loadV_length _) (own_rdv HO6.out) HT6.out).mono ?_
              rintro e w7 (⟨rfl, hp7, hne7, -⟩ | ⟨clock', c', M', D', L', rfl, hp7, hr7, ht7, hc7, hw7, hu7⟩)
              · exfalso
                obtain ⟨x, hx⟩ := List.exists_mem_of_ne_nil _ hne7
                have h0 := HPB.out.pins x.1
                unfold pinsOf at h0
                rw [look_of_mem HPB.out.run.pool.nodup (show (x.1, x.2) ∈ M from hx)] at h0
                exact hp7 x hx h0
              · rw [HLL.out] at hr7
                have HP7 := Lib.hid hp7
                have HR7 := Lib.hid hr7
                have HU7 := Lib.hid hu7
                have HW7 := Lib.hid hw7
                have HX7 := Lib.hid (And.intro ht7.2 hc7)
                have hm6 : MapIs intKeys wc wm m1 := (HF5.out.2.1 _ _ HPB.out.map1).upd (Upd.of_below' HB6.out (fun _ => False)) (fun h => h)
                have HM7 := Lib.hid (hm6.upd hu7 (fs_notMap hm6 HPB.out.apart))
                have HBY : Hid (Byt w7 N' (.slice q6 112 d6) (loadV d.xs)) := Lib.hid (Byt.own (own_upd HO6.out hu7 (fun k hk ht => fs_not8 HR6.out.pool (.inl rfl) k hk ht)) (fun k hk => HR5.out.st.no k hk))
                have hq6 := (HB6.out.block wr.heap.size (Array.getElem?_eq_some_iff.1 HQ8.out).1).trans HQ8.out
                have HQ7 : Hid (w7.heap[wr.heap.size]? = some (.cells #[.int .i64 d.op, .int .i64 d.n, .int .i64 d.lsn, .slice d.p d.m d.c] 39 (0, 0))) := Lib.hid ((hu7.block wr.heap.size (Array.getElem?_eq_some_iff.1 hq6).1 (fun hf => fs_not8 HR6.out.pool (.inr (.inr (.inr rfl))) _ hf ⟨_, hq6⟩)).trans hq6)
                clear hp7 hr7 hu7 hw7 ht7 hc7 hm6 hq6
                go_upto_region 19 with (at_mapUpdate; refine wpList_store (KK := intKeys) (b := wm) rfl _ _ _ 35 rfl 3 37 Tryz.underlying35 Tryz.underlying3 (N10 : Int) (.slice q6 112 d6) rfl rfl rfl HM7.out ?_; intro w8 hs8 hu8; have HS8 := Lib.hid hs8; have HU8 := Lib.hid hu8; clear hs8 hu8)
                have HPS := Lib.hid (HPB.out.step HZ.out.1 HZ.out.2.1 HZ.out.2.2.1 HZ.out.2.2.2.1 HZ.out.2.2.2.2 HF5.out.1 HF5.out.2.1 HF5.out.2.2 HR5.out HB6.out HR7.out HX7.out.1 HX7.out.2 HP7.out HW7.out HU7.out HBY.out HS8.out HU8.out)
                have hq8 : w8.heap[wr.heap.size]? = _ := (HU8.out.block wr.heap.size (Array.getElem?_eq_some_iff.1 HQ7.out).1 (fun e => HM7.out.notTyped ⟨_, HQ7.out⟩ e)).trans HQ7.out
                have q80 : w8.cell? ⟨wr.heap.size, 0, none⟩ = some (.int .i64 d.op) := by simp [World.cell?, hq8]
                clear hq8 HQ7 HBY HM7 HX7 HW7 HU7 HR7 HP7 HT6 HR6 HB6 HO6 HRA HF5 HR5 HZ HQ8 HS8 HU8
                go_simp
                go_cut [118] (fun v wx => v = .bool false ∧ Hid (PAI w bp bd bl bm B wm (k + 1) (2 * (k + 1)) wx))
                case first =>
                  by_cases hop : d.op.tmod 3 = 0
                  · have hd3 : (d.op.tmod 3 == 0) = true := by rw [beq_iff_eq]; exact hop
                    clear hop
                    go_wp2_with fail
                    refine (flushA_any (N10 : Int) w8 HPS.out.run (by omega) (by have := HN10.out; omega) (by have := HPS.out.cnt; omega)).mono ?_
                    rintro e w9 ⟨rfl, c9, M9, D9, L9, hc9, hr9, hp9, hw9, hu9⟩
                    have HPG := Lib.hid (HPS.out.goes (t' := 2 * (k + 1)) hr9 hp9 hw9 hu9 (by have := HPS.out.tick; omega) (by have := HPS.out.cnt; omega))
                    clear hc9 hr9 hp9 hw9 hu9
                    go_wp2_with fail
                    go_meet
                    exact ⟨rfl, Lib.hid ⟨_, _, _, _, _, _, _, _, HPG.out⟩⟩
                  · have hd3 : (d.op.tmod 3 == 0) = false := by rw [beq_eq_false_iff_ne]; exact hop
                    clear hop
                    go_wp2_with fail
                    go_meet
                    exact ⟨rfl, Lib.hid ⟨_, _, _, _, _, _, _, _, HPS.out.more (by omega)⟩⟩
                case rest =>
                  clear q80 HPS HPB
                  obtain ⟨rfl, hcut⟩ := hcut
                  obtain ⟨N2, clock2, c2, M2, C2, D2, L2, m2, hI2⟩ := hcut.out
                  have HP2 := Lib.hid hI2
                  clear hI2 hcut
                  go_wp2_with fail
                  go_loopw [119] (fun i wy => ∃ j : Nat, j ≤ 10 ∧ i = .int .i64 j ∧ Hid (Below wc.heap.size wc wy)) (fun i _ => 10 - (intOf i).toNat)
                  case atStart => exact ⟨0, by omega, rfl, Lib.hid (Below.refl _ _)⟩
                  case round =>
                    obtain ⟨j, hj, rfl, HBJ⟩ := hrel
                    have HPJ := Lib.hid (HP2.out.later HBJ.out)
                    by_cases hj10 : j < 10
                    · obtain ⟨v, xs, hde, hxl, hvf⟩ := HP2.out.ahead j hj10
                      obtain ⟨J, hJ⟩ : ∃ J, J = 4 + j := ⟨_, rfl⟩
                      have hjJ : (4 : Int) + (j : Int) = (J : Int) := by omega
                      rw [← hJ] at hde
                      have hv62 : v ≤ 4611686018427387904 := by have h1 := HP2.out.run.st.lok.forced; have h2 := HP2.out.run.st.lok.last; omega
                      have HDE : Hid (decL (D2 J) = v ∧ v ≤ L2.forced ∧ v ≤ 4611686018427387904) := Lib.hid ⟨by rw [hde]; exact decL_encV hxl hv62, hvf, hv62⟩
                      have HJ14 : Hid (J < 14) := Lib.hid (by omega)
                      clear hde hxl hvf hv62 hJ
                      go_wp2_with fail
                      refine (disIs_read bd 14 c2 J D2 _ HPJ.out.run.st.disk HPJ.out.run.st.no HJ14.out (by have := HPJ.out.cnt; omega)).mono ?_
                      rintro e w9 ⟨v9, rfl, ho9, hb9⟩
                      obtain ⟨g9, cap9, cur9, rfl, -, -, hx9, hcp9, -⟩ := own8 ho9 (by omega)
                      have HR9 : Hid (Rd w9 (some ⟨g9, 0, none⟩) (D2 J)) := Lib.hid (own_rdv ho9)
                      have HX9 : Hid ((D2 J).length = 128) := Lib.hid hx9
                      have HBJ9 := Lib.hid (chainC HBJ.out hb9)
                      have HPJ9 := Lib.hid (HPJ.out.later hb9)
                      clear ho9 hb9 hx9 hcp9
                      go_wp2_with fail
                      go_loop [22, 136] (fun u i => ∃ q : Nat, q ≤ 8 ∧ i = .int .i64 q ∧ u = .int .i64 ((leV (((D2 J).drop 4).take q) : Nat) : Int)) (fun _ i => 8 - (intOf i).toNat)
                      case atStart => exact ⟨0, by omega, rfl, rfl⟩
                      case round =>
                        obtain ⟨q, hq, rfl, rfl⟩ := hrel
                        by_cases hlq : q < 8
                        · have hkl : 4 + q < (D2 J).length := by rw [HX9.out]; omega
                          obtain ⟨b1, o1, hbo, k1⟩ := rd_cell HR9.out (k := 4 + q) hkl
                          cases hbo
                          unfold B8 at k1
                          rw [Nat.zero_add] at k1
                          have hu := ((D2 J)[4 + q]).toNat_lt
                          have hs := leV_take (ys := (D2 J).drop 4) (k := q) (by rw [List.length_drop, HX9.out]; omega)
                          rw [List.getElem_drop] at hs
                          have hLl := leV_take_lt ((D2 J).drop 4) q
                          have hmo := leV_mono ((D2 J).drop 4) (show q + 1 ≤ 8 by omega)
                          rw [show leV (((D2 J).drop 4).take 8) = decL (D2 J) from rfl, HDE.out.1, hs] at hmo
                          have hv62 := HDE.out.2.2
                          have HSt := Lib.hid hs
                          generalize ((D2 J)[4 + q]).toNat = u at *
                          generalize leV (((D2 J).drop 4).take q) = Lq at *
                          have HO := Lib.hid (or_stepI hLl hlq (show u * 256 ^ q < 9223372036854775808 by omega))
                          have e1 : ((4 : Int) + (q : Int)).toNat = 4 + q := by omega
                          have hq128 : 4 + q < 128 := by omega
                          clear hs hLl hmo hv62 hkl
                          go_wp2
                          go_round
                          case rel => exact ⟨q + 1, by omega, by go_num, by
                            have h := HO.out
                            rw [IntKind.wrap_i64] at h
                            unfold wrap64
                            rw [h, HSt.out]⟩
                          case measure => simp [intOf]; omega
                        · obtain rfl : q = 8 := by omega
                          have HL8 : Hid (leV (((D2 J).drop 4).take 8) = v) := Lib.hid HDE.out.1
                          rw [HL8.out]
                          obtain ⟨f, hf⟩ : ∃ f, f = L2.forced := ⟨_, rfl⟩
                          have hvf : v ≤ f := by rw [hf]; exact HDE.out.2.1
                          have hd1 : decide ((v : Int) > (f : Int)) = false := decide_eq_false (by omega)
                          have hd2 : decide (f < v) = false := decide_eq_false (by omega)
                          have HFF := Lib.hid hf
                          clear hf hvf
                          go_wp2_with fail
                          refine (forced_any HPJ9.out.run.st.log).mono ?_
                          rintro e w10 ⟨rfl, rfl⟩
                          rw [← HFF.out]
                          go_wp2_with fail
                          go_roundw
                          case rel => exact ⟨j + 1, by omega, by go_num, HBJ9⟩
                          case measure => simp [intOf]; omega
                    · obtain rfl : j = 10 := by omega
                      go_wp2_with fail
                      go_roundw
                      case rel => exact ⟨k + 1, by omega, by omega, by first | rfl | (rw [wrapK hlt (by have := HM.out; omega)]), Lib.hid ⟨_, _, _, _, _, _, _, _, HPJ.out⟩⟩
                      case measure => first | (simp [intOf]; omega) | (rw [wrapK hlt (by have := HM.out; omega)]; simp [intOf]; omega)
      · obtain rfl : k = n := by omega
        go_wp2_with fail
        go_meet
        exact Lib.hid ⟨k, hk41, HI.out⟩
  case rest =>
    obtain ⟨k, hk41, hI⟩ := hcut.out
    have HK := Lib.hid hk41
    have HI := Lib.hid hI
    clear hI hcut hk41 HI0
    go_wp2_with fail
    go_loopw [157] (fun i wr => ∃ j : Nat, j ≤ 10 ∧ i = .int .i64 j ∧ Hid (PAI w bp bd bl bm B wm k (2 * k + j) wr)) (fun i _ => 10 - (intOf i).toNat)
    case atStart => exact ⟨0, by omega, rfl, HI⟩
    case round =>
      obtain ⟨j, hj, rfl, hI⟩ := hrel
      obtain ⟨N, clock, c, M, C, D, L, m1, hI⟩ := hI.out
      have HP := Lib.hid hI
      clear hI
      by_cases hj10 : j < 10
      · have HJ := Lib.hid hj10
        rcases HP.out.want (j : Int) with hl | ⟨v, hl, hby⟩
        · have HL1 : Hid (look m1 (j : Int) = none) := Lib.hid hl
          clear hl
          go_wp2_with (at_lookup; refine wpList_look_ok (KK := intKeys) rfl _ _ 35 rfl 3 37 Tryz.underlying35 Tryz.underlying3 _ zslB (j : Int) rfl rfl HP.out.map1 ?_; rw [HL1.out, Option.getD_none, Option.isSome_none])
          go_roundw
          case rel => exact ⟨j + 1, by omega, by go_num, Lib.hid ⟨_, _, _, _, _, _, _, _, HP.out.more (by omega)⟩⟩
          case measure => simp [intOf]; omega
        · have HL1 := Lib.hid hl
          have hck := HP.out.run.inv.ok (j : Int) (by omega) (by omega)
          have HCK := Lib.hid hck
          obtain ⟨q0, d0, rfl⟩ := hby.slice
          rw [hck.2] at hl hby HL1
          have HBY := Lib.hid hby
          clear hl hby hck
          go_wp2_with (at_lookup; refine wpList_look_ok (KK := intKeys) rfl _ _ 35 rfl 3 37 Tryz.underlying35 Tryz.underlying3 _ zslB (j : Int) rfl rfl HP.out.map1 ?_; rw [HL1.out, Option.getD_some, Option.isSome_some])
          refine (get_any _ (j : Int) HP.out.run (by omega) (by have := HJ.out; omega) (by have := HP.out.tick; have := HK.out; omega) (by have := HP.out.cnt; have := HK.out; omega)).mono ?_
          rintro e w5 (⟨rfl, hp7, hne7, -⟩ | ⟨q, c5, clock', c', M', D', L', rfl, ho, hp, hg⟩)
          · exfalso
            obtain ⟨x, hx⟩ := List.exists_mem_of_ne_nil _ hne7
            have h0 := HP.out.pins x.1
            unfold pinsOf at h0
            rw [look_of_mem HP.out.run.pool.nodup (show (x.1, x.2) ∈ M from hx)] at h0
            exact hp7 x hx h0
          · have HPG := Lib.hid (HP.out.goes (t' := 2 * k + (j + 1)) hg.run hp hg.wr hg.upd (by have := HP.out.tick; have := hg.tick.2; omega) (by have := HP.out.cnt; have := hg.more; omega))
            have HRD := Lib.hid (own_rdv ho)
            have HRB := Lib.hid ((HBY.out.upd hg.upd (fun k hk ht => (fs_not8 HP.out.run.pool (.inl rfl) k hk ht).elim)).rd.1)
            have HBE : Hid (((C (j : Int)).2 == (C (j : Int)).2) = true) := Lib.hid (by simp)
            obtain ⟨l, hl⟩ : ∃ l, l = (C (j : Int)).1 := ⟨_, rfl⟩
            rw [← hl]
            clear hl ho hp hg
            go_wp2_with fail
            refine (equal_any q q0 112 c5 112 d0 (C (j : Int)).2 (C (j : Int)).2 _ HCK.out.2 HCK.out.2 HRD.out HRB.out).mono ?_
            rintro e w9 ⟨rfl, rfl⟩
            rw [HBE.out]
            go_wp2_with fail
            go_roundw
            case rel => exact ⟨j + 1, by omega, by go_num, Lib.hid ⟨_, _, _, _, _, _, _, _, HPG.out⟩⟩
            case measure => simp [intOf]; omega
      · obtain rfl : j = 10 := by omega
        go_wp2_with fail
        refine (allP_any _ HP.out.run (by have := HP.out.tick; have := HK.out; omega) (by have := HP.out.cnt; have := HK.out; omega)).mono ?_
        rintro e w5 ⟨rfl, M', D', L', hr5, hcl5, -, -, hu5⟩
        have HR5 := Lib.hid hr5
        have HCL := Lib.hid hcl5
        have HB5 := Lib.hid (HP.out.frame hu5)
        have HCK : Hid (clock < 4611686018427387904) := Lib.hid (by have := HP.out.tick; have := HK.out; omega)
        clear hr5 hcl5 hu5
        go_wp2_with fail
        refine (table_any _ HR5.out.pool HCK.out).mono ?_
        rintro e w9 ⟨v9, ts, rfl, -, ho9, hb9⟩
        have he : dirtyOf M' ts = [] := by
          unfold dirtyOf
          refine List.filter_eq_nil_iff.2 fun x _ => ?_
          have : firstOf M' x = 0 := by
            unfold firstOf
            rcases hl : look M' x with _ | b
            · rfl
            · exact HCL.out _ (look_mem hl)
          simp [this]
        rw [he] at ho9
        obtain ⟨q9, c9, rfl⟩ := own_zero ho9
        have HB9 := Lib.hid (HB5.out.trans (hb9.mono HB5.out.size))
        clear he ho9 hb9
        go_wp2_with fail
        go_returns
        exact ⟨rfl, HB9.out⟩
end Go.Proofs.YtefalhnllkkkhaaGreatDoor
