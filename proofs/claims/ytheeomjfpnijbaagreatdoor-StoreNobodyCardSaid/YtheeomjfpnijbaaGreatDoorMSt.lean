/- Texts of one claim, one behind the other: StQ, StWithin, Bt19, Bt20, StDo, StNone, StRoom, StNobody. -/
import Derived.Test.YtheeomjfpnijbaaGreatDoorMBa
import Derived.Test.YtheeomjfpnijbaaGreatDoorTake
import Derived.Test.YtheeomjfpnijbaaGreatDoorMBe
import Derived.Test.YtheeomjfpnijbaaGreatDoorMBc
import Derived.Test.YtheeomjfpnijbaaGreatDoorMAr
section
namespace Go.Proofs.YtheeomjfpnijbaaGreatDoor
open Go.RowKit Go.Shelf
set_option linter.unusedVariables false

/-- A manager with no transaction. -/
structure QM (p : Par) (cap : Nat) (w : World) (s : ASt) : Prop where
  mr : MR 0 p w s
  none : s.A = []
  len : ∀ n : Nat, n < p.pages → (s.C (n : Int)).2.length = 112
  pages : 1 ≤ p.pages ∧ p.pages ≤ 4096
  cap : s.L.sectors * 112 = cap
def gp (p : Par) (s : ASt) : Par := { p with G := fun n => (s.C n).2 }
section
variable {p : Par} {cap tx : Nat} {w w' : World} {s : ASt}
theorem QM.below (h : QM p cap w s) (hb : Below w.heap.size w w') : QM p cap w' s := ⟨h.mr.below hb, h.none, h.len, h.pages, h.cap⟩
theorem UpdOk.ghost {t : Int} {r : Rec} (h : UpdOk p t r) (G : Int → List UInt8) : UpdOk { p with G := G } t r := by
  cases h
  constructor <;> assumption
theorem MR.ghost {k : Int} (h : MR k p w s) (G : Int → List UInt8) : MR k { p with G := G } w s where
  cells := h.cells
  run := h.run
  map := h.map
  txs := h.txs
  apart := h.apart
  rows := h.rows
  low := h.low
  pins := h.pins
  few := h.few
  keys := h.keys
  last := h.last
  cnt := h.cnt
  ups := fun x hx r hr => (h.ups x hx r hr).ghost G
  ulen := h.ulen
  sect := h.sect
theorem MR.unghost {k : Int} {G : Int → List UInt8} (h : MR k { p with G := G } w s) : MR k p w s := h.ghost p.G
theorem Step.ghost {N N' : Zone} (h : Step p N w N' w') (G : Int → List UInt8) : Step { p with G := G } N w N' w' := ⟨h.B, h.far, h.upd, h.zone⟩
theorem Step.unghost {N N' : Zone} {G : Int → List UInt8} (h : Step { p with G := G } N w N' w') : Step p N w N' w' := ⟨h.B, h.far, h.upd, h.zone⟩
theorem TopA.none {m : Nat} (h : TopA s m) (hA : s.A = []) : m = s.last := by
  obtain ⟨-, -, h | h⟩ := h
  · omega
  · rw [hA] at h; cases h
theorem qbegin_any (w : World) (h : QM p cap w s) (hl : s.last < 1000000) (hr : s.L.xs.length + 16 ≤ cap) :
    Calls Tryz.prog 81 #[.pointer (some ⟨p.bg, 0, none⟩)] w fun e w' => ∃ s', e = .returned (.tuple #[.int .i64 (s.last + 1 : Nat), .int .i64 0]) ∧ TM (gp p s) (s.last + 1) cap w' s' ∧ pst s' = ⟨(pst s).F, (pst s).u + 16⟩ ∧ s'.t = s.t ∧ s'.N = s.N ∧ Step p s.N w s'.N w' := by
  refine (mbegin_any p s w h.mr).mono ?_
  rintro e w' (⟨-, hb | ⟨m, hm, hm2⟩, -⟩ | ⟨-, m, b, s', hm, -, rfl, hm', hb', hs'⟩)
  · rw [h.none] at hb; simp at hb
  · have := hm.none h.none; omega
  · have e := hm.none h.none
    subst e
    have hA : s'.A = [((s.last : Int) + 1, ⟨b, .slice .none 0 0, []⟩)] := by rw [hb'.A, h.none]; rfl
    refine ⟨s', rfl, ⟨hm'.ghost _, ⟨_, by rw [hA]; rfl⟩, fun n hn => by rw [hb'.C]; exact h.len n hn, h.pages, by rw [hb'.log.2.1]; exact h.cap, ?_, fun t ht n => ?_, by rw [hb'.last]; omega⟩, ?_, hb'.t, hb'.N, hs'⟩
    · rw [hA, hb'.log.2.1, hb'.log.2.2, h.cap]
      simp [needC]
      omega
    · rw [hA] at ht
      simp at ht
      rw [← ht, hb'.C]
      rfl
    · unfold pst
      rw [hA, hb'.C, hb'.log.2.2, h.none]
      simp [needC]
theorem TM.pins (h : TM p tx cap w s) : ∃ t, look s.A (tx : Int) = some t ∧ s.A = [((tx : Int), t)] ∧ s.L.xs.length + (160 * t.us.length + 16) ≤ cap := by
  obtain ⟨t, ht⟩ := h.one
  have hr := h.room
  rw [h.cap, ht] at hr
  refine ⟨t, by rw [ht]; simp [look], ht, ?_⟩
  simpa [needC] using hr
theorem qcommit_any (w : World) (h : TM p tx cap w s) (ht : s.t ≤ 700000) :
    Calls Tryz.prog 108 #[.pointer (some ⟨p.bg, 0, none⟩), .int .i64 tx] w fun e w' => ∃ s', e = .returned (.int .i64 0) ∧ QM p cap w' s' ∧ (∀ n, (s'.C n).2 = (s.C n).2) ∧ s'.L.xs.length ≤ (pst s).u ∧ s'.t ≤ s.t + 1 ∧ s'.last ≤ tx ∧ Step p s.N w s'.N w' := by
  obtain ⟨t, hk, hA, hr⟩ := h.pins
  refine (mcommit_any p s tx w h.mr (by omega) h.txs.2 (fun u hu h0 => ?_)).mono ?_
  · rw [h.cap]
    omega
  rintro e w' (⟨h1, -⟩ | ⟨t', s', h1, rfl, hm, hA', hC, hsec, hxs, hla, ht', hs⟩)
  · rw [h1] at hk; cases hk
  · refine ⟨s', rfl, ⟨hm, by rw [hA', hA]; simp [del], fun n hn => by rw [hC]; exact h.len n hn, h.pages, by rw [hsec]; exact h.cap⟩, fun n => by rw [hC], ?_, ht', ?_, hs⟩
    · have : (pst s).u = s.L.xs.length + (160 * t.us.length + 16) := by unfold pst; rw [hA]; simp [needC]
      rw [this]
      split at hxs <;> omega
    · have := h.top
      rcases hla with e | e <;> rw [e] <;> omega
theorem qabort_any (w : World) (h : TM p tx cap w s) (ht : s.t ≤ 700000) (hc : cap ≤ 458752) (hg : ∀ n : Nat, n < p.pages → (p.G (n : Int)).length = 112) :
    Calls Tryz.prog 109 #[.pointer (some ⟨p.bg, 0, none⟩), .int .i64 tx] w fun e w' => ∃ s', e = .returned (.int .i64 0) ∧ QM p cap w' s' ∧ (∀ n, (s'.C n).2 = p.G n) ∧ s'.L.xs.length ≤ (pst s).u ∧ s'.t ≤ s.t + 23000 ∧ s'.last ≤ tx ∧ Step p s.N w s'.N w' := by
  obtain ⟨t, hk, hA, hr⟩ := h.pins
  have hu : (pst s).u = s.L.xs.length + (160 * t.us.length + 16) := by unfold pst; rw [hA]; simp [needC]
  refine (mabort_any p s tx w h.mr (fun u hu' => ?_) (fun u hu' h0 => ?_) h.pages.2).mono ?_
  · rw [hk] at hu'; cases hu'; omega
  · rw [hk] at hu'; cases hu'; rw [h.cap]; omega
  rintro e w' (⟨h1, -⟩ | ⟨t', s', h1, rfl, hm, ⟨t2, hA'⟩, hC, hsec, hxs, hla, ht', hs⟩)
  · rw [h1] at hk; cases hk
  · rw [hk] at h1
    cases h1
    have hG : ∀ n, (s'.C n).2 = p.G n := fun n => by rw [hC]; exact h.undo t hA n
    refine ⟨s', rfl, ⟨hm, by rw [hA', hA]; simp [del, setA], fun n hn => by rw [hG]; exact hg n hn, h.pages, by rw [hsec]; exact h.cap⟩, hG, ?_, by omega, ?_, hs⟩
    · rw [hu]
      split at hxs <;> omega
    · have := h.top
      rcases hla with e | e <;> rw [e] <;> omega
end
end Go.Proofs.YtheeomjfpnijbaaGreatDoor
end

section
namespace Go.Proofs.YtheeomjfpnijbaaGreatDoor
open Go.RowKit Go.Shelf
set_option linter.unusedVariables false

/-- What within tells, and what it keeps. -/
def WithinQ (p : Par) (cap : Nat) (s : ASt) (st : Bool) (T : Nat → Prop) (R : Nat → ASt → World → Prop) (w : World) (e : Ending) (w' : World) : Prop :=
  ∃ (c : Nat) (s2 : ASt) (w2 : World) (s' : ASt), e = .returned (.int .i64 c) ∧ R c s2 w2 ∧ QM p cap w' s' ∧ (∀ n, (s'.C n).2 = if c = 0 ∧ st = true then (s2.C n).2 else (s.C n).2) ∧
    s'.L.xs.length ≤ (pst s2).u ∧ s'.t ≤ s.t + 24000 ∧ s'.last ≤ s.last + 1 ∧ s'.N.B = s.N.B ∧ Below s.N.B w w' ∧
    (∀ (j : Nat) (cs : Array Value) (t : TypeId), w.heap[j]? = some (.cells cs t (0, 0)) → FreeM t → ¬ T j → w'.heap[j]? = some (.cells cs t (0, 0))) ∧
    (∀ (j : Nat) (cs : Array Value) (t : TypeId), w2.heap[j]? = some (.cells cs t (0, 0)) → FreeM t → w'.heap[j]? = some (.cells cs t (0, 0)))
theorem MR.keep {k : Int} {p : Par} {w w' : World} {s : ASt} {N' : Zone} (h : MR k p w s) (hs : Step p s.N w N' w') {j : Nat} {t : TypeId} {cs : Array Value} (hk : w.heap[j]? = some (.cells cs t (0, 0))) (ht : FreeM t) : w'.heap[j]? = some (.cells cs t (0, 0)) :=
  (hs.upd.block j (Array.getElem?_eq_some_iff.1 hk).1 (h.free ht ⟨_, hk⟩)).trans hk
set_option maxRecDepth 20000 in
set_option maxHeartbeats 4000000 in
theorem within_any {p : Par} {cap sb fk : Nat} {caps : Array Value} {s : ASt} (st : Bool) (T : Nat → Prop) (R : Nat → ASt → World → Prop) (w : World) (h : QM p cap w s) (hl : s.last < 1000) (hr : s.L.xs.length + 16 ≤ cap) (ht : s.t ≤ 500000) (hcap : cap ≤ 458752)
    (hS : w.heap[sb]? = some (.cells #[.pointer (some ⟨p.bg, 0, none⟩)] 74 (0, 0))) (hfk : fk = 72 ∨ fk = 66 ∨ fk = 65) (hT : ¬ T sb) (hTB : ∀ j, T j → s.N.B ≤ j)
    (hf : ∀ w1 s1, TM (gp p s) (s.last + 1) cap w1 s1 → pst s1 = ⟨(pst s).F, (pst s).u + 16⟩ → s1.t = s.t → s1.N = s.N → Step p s.N w s1.N w1 → Calls Tryz.prog fk (#[.int .i64 (s.last + 1 : Nat)] ++ caps) w1 fun e w2 => ∃ (c : Nat) (s2 : ASt) (wm : World), e = .returned (.int .i64 c) ∧ R c s2 w2 ∧ TM (gp p s) (s.last + 1) cap w2 s2 ∧ s2.t ≤ s1.t + 1000 ∧ Step p s1.N w1 s2.N wm ∧ Upd T wm w2) :
    Calls Tryz.prog 62 #[.pointer (some ⟨sb, 0, none⟩), .bool st, .func (.func fk) #[] caps] w (WithinQ p cap s st T R w) := by
  have H := Lib.hid h
  have HL := Lib.hid (And.intro hl (And.intro hr (And.intro ht hcap)))
  have HS := Lib.hid hS
  have HNT := Lib.hid hT
  have HTB := Lib.hid hTB
  have HF := Lib.hid hf
  have HFK := Lib.hid hfk
  have k0 : w.cell? ⟨sb, 0, none⟩ = some (.pointer (some ⟨p.bg, 0, none⟩)) := by simp [World.cell?, hS]
  have hsl := cell_lt k0
  clear h hl hr ht hcap hS hT hTB hf hfk
  go_enter Tryz.func62, Tryz.ntmps62
  go_wp2_with fail
  refine (qbegin_any w H.out (by have := HL.out; omega) HL.out.2.1).mono ?_
  rintro e w1 ⟨s1, rfl, hm1, hp1, ht1, hn1, hs1⟩
  have S1 := Lib.hid (H.out.mr.keep hs1 HS.out (by decide))
  have HM1 := Lib.hid hm1
  have HP1 := Lib.hid hp1
  have HT1 := Lib.hid ht1
  have HN1 := Lib.hid hn1
  have HS1 := Lib.hid hs1
  clear hm1 hp1 ht1 hn1 hs1 k0 hsl
  have CL : Hid (∀ Q : Ending → World → Prop, (∀ e w2, (∃ (c : Nat) (s2 : ASt) (wm : World), e = .returned (.int .i64 c) ∧ R c s2 w2 ∧ TM (gp p s) (s.last + 1) cap w2 s2 ∧ s2.t ≤ s1.t + 1000 ∧ Step p s1.N w1 s2.N wm ∧ Upd T wm w2) → Q e w2) → Calls Tryz.prog fk (#[.int .i64 (s.last + 1 : Nat)] ++ caps) w1 Q) := Lib.hid (fun Q hQ => (HF.out w1 s1 HM1.out HP1.out HT1.out HN1.out HS1.out).mono hQ)
  rcases HFK.out with rfl | rfl | rfl
  all_goals clear HF
  all_goals clear HFK
  all_goals go_wp2_with fail
  all_goals refine CL.out _ ?_
  all_goals
    rintro e w2 ⟨c, s2, wm, rfl, hR, hm2, ht2, hs2, hu2⟩
    have HR2 := Lib.hid hR
    have HM2 := Lib.hid hm2
    have HT2 := Lib.hid ht2
    have HS2 := Lib.hid hs2
    have HK2 : Hid (∀ (j : Nat) (cs : Array Value) (t : TypeId), w.heap[j]? = some (.cells cs t (0, 0)) → FreeM t → ¬ T j → w2.heap[j]? = some (.cells cs t (0, 0))) := Lib.hid (fun j cs t h1 h2 h3 => by
      have h4 := H.out.mr.keep HS1.out h1 h2
      have h5 := HM1.out.mr.keep (hs2.ghost _) h4 h2
      exact (hu2.block j (Array.getElem?_eq_some_iff.1 h5).1 h3).trans h5)
    have S2 := Lib.hid (HK2.out _ _ _ HS.out (by decide) HNT.out)
    have hbel : Below s.N.B w w2 := by
      have h0 := H.out.mr.run.st.base
      have h1 := HS1.out.below h0
      have h2 := hs2.below (by rw [HN1.out]; exact Nat.le_trans h0 h1.size)
      rw [HN1.out] at h2
      have h3 := h1.trans h2
      exact h3.trans (Upd.below hu2 (Nat.le_trans h0 h3.size) HTB.out)
    have HBW := Lib.hid hbel
    clear hbel
    have HB2 : Hid (s2.N.B = s.N.B) := Lib.hid (hs2.B.trans HS1.out.B)
    have k0 : w2.cell? ⟨sb, 0, none⟩ = some (.pointer (some ⟨p.bg, 0, none⟩)) := by simp [World.cell?, S2.out]
    have hsl := cell_lt k0
    have AB : Hid (Calls Tryz.prog 109 #[.pointer (some ⟨p.bg, 0, none⟩), .int .i64 (s.last + 1 : Nat)] w2 fun e w' => ∃ s', e = .returned (.int .i64 0) ∧ QM p cap w' s' ∧ (∀ n, (s'.C n).2 = (s.C n).2) ∧ s'.L.xs.length ≤ (pst s2).u ∧ s'.t ≤ s2.t + 23000 ∧ s'.last ≤ s.last + 1 ∧ Step p s2.N w2 s'.N w') := Lib.hid (by
      refine (qabort_any w2 HM2.out (by have := HT2.out; have := HT1.out; have := HL.out; omega) HL.out.2.2.2 (fun n hn => H.out.len n hn)).mono ?_
      rintro e w' ⟨s', rfl, hq, hC, hx, ht', hla, hs⟩
      exact ⟨s', rfl, ⟨hq.mr.unghost, hq.none, hq.len, hq.pages, hq.cap⟩, hC, hx, ht', hla, hs.unghost⟩)
    have CO : Hid (Calls Tryz.prog 108 #[.pointer (some ⟨p.bg, 0, none⟩), .int .i64 (s.last + 1 : Nat)] w2 fun e w' => ∃ s', e = .returned (.int .i64 0) ∧ QM p cap w' s' ∧ (∀ n, (s'.C n).2 = (s2.C n).2) ∧ s'.L.xs.length ≤ (pst s2).u ∧ s'.t ≤ s2.t + 1 ∧ s'.last ≤ s.last + 1 ∧ Step p s2.N w2 s'.N w') := Lib.hid (by
      refine (qcommit_any w2 HM2.out (by have := HT2.out; have := HT1.out; have := HL.out; omega)).mono ?_
      rintro e w' ⟨s', rfl, hq, hC, hx, ht', hla, hs⟩
      exact ⟨s', rfl, ⟨hq.mr.unghost, hq.none, hq.len, hq.pages, hq.cap⟩, hC, hx, ht', hla, hs.unghost⟩)
    clear hR hm2 ht2 hs2 hu2
    by_cases hc : c = 0
    · subst hc
      cases st
      · go_wp2_with fail
        refine AB.out.mono ?_
        rintro e w3 ⟨s3, rfl, hq3, hC3, hx3, ht3, hla3, hs3⟩
        have HK3 : Hid (∀ (j : Nat) (cs : Array Value) (t : TypeId), w2.heap[j]? = some (.cells cs t (0, 0)) → FreeM t → w3.heap[j]? = some (.cells cs t (0, 0))) := Lib.hid (fun j cs t h1 h2 => HM2.out.mr.keep (hs3.ghost _) h1 h2)
        go_wp2
        go_ret
        exact ⟨0, s2, w2, s3, rfl, HR2.out, hq3, fun n => by rw [hC3 n, if_neg (by simp)], hx3, by have := HT2.out; have := HT1.out; omega, hla3, hs3.B.trans HB2.out, HBW.out.trans (by have := hs3.below (by rw [HB2.out]; exact Nat.le_trans H.out.mr.run.st.base HBW.out.size); rw [HB2.out] at this; exact this), fun j cs t h1 h2 h3 => HK3.out j cs t (HK2.out j cs t h1 h2 h3) h2, HK3.out⟩
      · go_wp2_with fail
        refine CO.out.mono ?_
        rintro e w3 ⟨s3, rfl, hq3, hC3, hx3, ht3, hla3, hs3⟩
        have HK3 : Hid (∀ (j : Nat) (cs : Array Value) (t : TypeId), w2.heap[j]? = some (.cells cs t (0, 0)) → FreeM t → w3.heap[j]? = some (.cells cs t (0, 0))) := Lib.hid (fun j cs t h1 h2 => HM2.out.mr.keep (hs3.ghost _) h1 h2)
        go_wp2
        go_ret
        exact ⟨0, s2, w2, s3, rfl, HR2.out, hq3, fun n => by rw [hC3 n, if_pos (by simp)], hx3, by have := HT2.out; have := HT1.out; omega, hla3, hs3.B.trans HB2.out, HBW.out.trans (by have := hs3.below (by rw [HB2.out]; exact Nat.le_trans H.out.mr.run.st.base HBW.out.size); rw [HB2.out] at this; exact this), fun j cs t h1 h2 h3 => HK3.out j cs t (HK2.out j cs t h1 h2 h3) h2, HK3.out⟩
    · have hcb : ((c : Int) == 0) = false := by simp; omega
      have HC0 := Lib.hid hc
      clear hc
      go_wp2_with fail
      refine AB.out.mono ?_
      rintro e w3 ⟨s3, rfl, hq3, hC3, hx3, ht3, hla3, hs3⟩
      have HK3 : Hid (∀ (j : Nat) (cs : Array Value) (t : TypeId), w2.heap[j]? = some (.cells cs t (0, 0)) → FreeM t → w3.heap[j]? = some (.cells cs t (0, 0))) := Lib.hid (fun j cs t h1 h2 => HM2.out.mr.keep (hs3.ghost _) h1 h2)
      go_wp2
      go_ret
      exact ⟨c, s2, w2, s3, rfl, HR2.out, hq3, fun n => by rw [hC3 n, if_neg (fun e => HC0.out e.1)], hx3, by have := HT2.out; have := HT1.out; omega, hla3, hs3.B.trans HB2.out, HBW.out.trans (by have := hs3.below (by rw [HB2.out]; exact Nat.le_trans H.out.mr.run.st.base HBW.out.size); rw [HB2.out] at this; exact this), fun j cs t h1 h2 h3 => HK3.out j cs t (HK2.out j cs t h1 h2 h3) h2, HK3.out⟩
end Go.Proofs.YtheeomjfpnijbaaGreatDoor
end

section
namespace Go.Proofs.YtheeomjfpnijbaaGreatDoor
open Go.RowKit Go.Shelf
set_option linter.unusedVariables false

theorem gather_all : ∀ n : Nat, n ≤ 20 → GatherAt n
  | 0, _ => gather_zero
  | n + 1, h => gather_inner (gather_all n (by omega)) (by omega)
def RangeQ (p : Par) (tx cap : Nat) (s : ASt) (w : World) (k : Nat) (l : List (Key × Key)) (e : Ending) (w' : World) : Prop :=
  ∃ q c s', e = .returned (.tuple #[.slice q l.length c, .int .i64 0]) ∧ w'.ownsRow w.heap.size 42 2 (.slice q l.length c) l.length (l.flatMap pairV) ∧ TM p tx cap w' s' ∧ pst s' = pst s ∧ s'.t ≤ s.t + 1 + k ∧ s'.N = s.N ∧ Step p s.N w s'.N w'
set_option maxRecDepth 20000 in
set_option maxHeartbeats 8000000 in
theorem trange_any {p : Par} {tx cap : Nat} {s : ASt} {n : Nat} (t : Tr n) (from_ : Key) (most : Int) (z : Met) (w : World) (h : TM p tx cap w s) (ht : s.t + 1 + t.nds.length ≤ 700000) (hz : (pst s).F 0 = pad z.load) (ho : MetOk p.pages z) (hr : z.root = t.pg) (hl : z.levels = n + 1) (hh : ∀ d ∈ t.nds, Holds p.pages (pst s).F d) (hord : t.Ord [] none) (hsz : t.flat.length ≤ 100000) :
    Calls Tryz.prog 11 #[.pointer (some ⟨p.bg, 0, none⟩), .int .i64 tx, .string (bstr from_), .int .i64 most] w (RangeQ p tx cap s w t.nds.length (upTo most [] (fromK from_ t.flat))) := by
  have H := Lib.hid h
  have HT := Lib.hid ht
  have HZ := Lib.hid hz
  have HO := Lib.hid ho
  have HR := Lib.hid hr
  have HL := Lib.hid hl
  have HH := Lib.hid hh
  have HOR := Lib.hid hord
  have HSZ := Lib.hid hsz
  clear h ht hz ho hr hl hh hord hsz
  go_enter Tryz.func11, Tryz.ntmps11
  go_wp2_with fail
  refine (made_any w H.out).mono ?_
  rintro e w1 ⟨rfl, hb1⟩
  unfold treeV
  have HB1 := Lib.hid hb1
  clear hb1
  go_upto_region 4 with fail
  obtain ⟨W2, hW2⟩ : ∃ W, W = w1.alloc (.cells #[.pointer (some ⟨p.bg, 0, none⟩), .int .i64 tx] 117) := ⟨_, rfl⟩
  obtain ⟨N, hN⟩ : ∃ N, N = w1.heap.size := ⟨_, rfl⟩
  have n2 : W2.heap[N]? = some (.cells #[.pointer (some ⟨p.bg, 0, none⟩), .int .i64 tx] 117 (0, 0)) := by rw [hW2, hN]; exact heap_alloc_new w1 _
  have HB2 : Hid (Below w.heap.size w W2) := Lib.hid (by rw [hW2]; exact HB1.out.alloc HB1.out.size _)
  rw [← hW2, ← hN]
  have N2 := Lib.hid n2
  have k0 : W2.cell? ⟨N, 0, none⟩ = some (.pointer (some ⟨p.bg, 0, none⟩)) := by simp [World.cell?, n2]
  have k1 : W2.cell? ⟨N, 1, none⟩ = some (.int .i64 tx) := by simp [World.cell?, n2]
  have hlt := cell_lt k0
  have HM2 := Lib.hid (H.out.below HB2.out)
  clear hW2 hN n2
  go_wp2_with fail
  refine (tmeta_any z W2 HM2.out (by have := HT.out; omega) HZ.out HO.out).mono ?_
  rintro e w3 ⟨s3, rfl, hm3, hp3, ht3, hn3, hs3⟩
  unfold metV
  rw [hn3] at hs3
  have HN3' := Lib.hid (HM2.out.keep hs3 N2.out (by decide))
  have HM3 := Lib.hid hm3
  have HP3 := Lib.hid hp3
  have HT3 := Lib.hid ht3
  have HN3 := Lib.hid hn3
  have HS3 := Lib.hid ((Step.of_below HB2.out).trans hs3)
  clear hm3 hp3 ht3 hn3 hs3 k0 k1 hlt
  go_upto_region 5 with fail
  obtain ⟨X, hX⟩ : ∃ X, X = w3.heap.size := ⟨_, rfl⟩
  obtain ⟨W4, hW4⟩ : ∃ W3, W3 = w3.alloc (.cells #[.int .i64 z.root, .int .i64 z.unused, .int .i64 z.free, .int .i64 z.levels] 133) := ⟨_, rfl⟩
  have x4 : W4.heap[X]? = some (.cells #[.int .i64 z.root, .int .i64 z.unused, .int .i64 z.free, .int .i64 z.levels] 133 (0, 0)) := by rw [hW4, hX]; exact heap_alloc_new w3 _
  have HB4 : Hid (Below w3.heap.size w3 W4) := Lib.hid (by rw [hW4]; exact (Below.refl _ w3).alloc (Nat.le_refl _) _)
  rw [← hW4, ← hX]
  obtain ⟨⟨a0, a1, a2, a3⟩, -, hXl⟩ := four_cells x4
  have n4 := met_old HN3'.out HB4.out
  have k0 : W4.cell? ⟨N, 0, none⟩ = some (.pointer (some ⟨p.bg, 0, none⟩)) := by simp [World.cell?, n4]
  have k1 : W4.cell? ⟨N, 1, none⟩ = some (.int .i64 tx) := by simp [World.cell?, n4]
  have hNl := cell_lt k0
  have HM4 := Lib.hid (HM3.out.below HB4.out)
  have HS4 := Lib.hid (HS3.out.trans (Step.of_below HB4.out))
  clear hW4 hX x4 n4
  by_cases hm : most ≤ 0
  · have hmd : decide (most ≤ 0) = true := decide_eq_true hm
    have he : upTo most [] (fromK from_ t.flat) = [] := by
      unfold upTo
      have : most.toNat = 0 := by omega
      rw [this]; simp
    have HE := Lib.hid he
    clear hm he
    go_wp2
    go_ret2
    rw [HE.out]
    refine ⟨none, 0, s3, rfl, ⟨rfl, .inl ⟨rfl, rfl⟩⟩, HM4.out, HP3.out, by have := HT3.out; omega, HN3.out, by rw [HN3.out]; exact HS4.out⟩
  · have hmd : decide (most ≤ 0) = false := decide_eq_false hm
    clear hm
    have hroot : (z.root : Int) = ((t.pg : Nat) : Int) := by rw [HR.out]
    have hlev : (z.levels : Int) = ((n + 1 : Nat) : Int) := by rw [HL.out]
    rw [hroot] at a0
    rw [hlev] at a3
    have GA : Hid (Calls Tryz.prog 43 #[.agg #[.pointer (some ⟨p.bg, 0, none⟩), .int .i64 tx], .int .i64 t.pg, .int .i64 ((n + 1 : Nat) : Int), .string (bstr from_), .slice none 0 0, .int .i64 most] W4 (GatherQ p tx cap s3 w W4.heap.size W4 t.nds.length (upTo most [] (fromK from_ t.flat)))) := Lib.hid (by
      refine gather_all n (by have := HO.out.levels; have := HL.out; omega) p tx cap s3 t [] none from_ most [] none 0 0 w W4.heap.size W4 HM4.out (by have := HT3.out; have := HT.out; omega) (by rw [HP3.out]; exact HH.out) HOR.out rfl (by have := HSZ.out; simp; omega) ⟨rfl, .inl ⟨rfl, rfl⟩⟩ (by rw [HN3.out]; exact HS4.out) HS4.out.upd.size (Nat.le_refl _) HM4.out.base)
    obtain ⟨LV, hLV⟩ : ∃ L, L = ((n + 1 : Nat) : Int) := ⟨_, rfl⟩
    rw [← hLV] at a3 GA
    clear hroot hlev hLV
    go_wp2_with fail
    refine GA.out.mono ?_
    rintro e w6 ⟨q6, c6, s6, rfl, hg6⟩
    have HG6 := Lib.hid hg6
    clear hg6 GA a0 a1 a2 a3 hXl k0 k1 hNl
    go_wp2
    go_ret2
    have hg := HG6.out
    refine ⟨q6, c6, s6, rfl, own_mono hg.row ?_, hg.tm, hg.pst.trans HP3.out, by have := hg.t; have := HT3.out; omega, hg.N.trans HN3.out, ?_⟩
    · have := HS4.out.upd.size; exact this
    · have h1 := hg.step
      rw [HN3.out] at h1
      rw [hg.N, HN3.out]
      exact h1
end Go.Proofs.YtheeomjfpnijbaaGreatDoor
end

section
namespace Go.Proofs.YtheeomjfpnijbaaGreatDoor
open Go.RowKit Go.Shelf
set_option linter.unusedVariables false

set_option maxRecDepth 20000 in
set_option maxHeartbeats 8000000 in
theorem tfree_any {p : Par} {tx cap : Nat} {s : ASt} (z : Met) (fl : List Nat) (w : World) (h : TM p tx cap w s) (ht : s.t + fl.length ≤ 600000) (hz : (pst s).F 0 = pad z.load) (ho : MetOk p.pages z) (hc : Chain (pst s).F z.free fl) (hf : ∀ k ∈ fl, 1 ≤ k ∧ k < z.unused) (hn : fl.length < z.unused) :
    Calls Tryz.prog 17 #[.pointer (some ⟨p.bg, 0, none⟩), .int .i64 tx] w fun e w' => ∃ s', e = .returned (.tuple #[.int .i64 (p.pages - z.unused + fl.length : Nat), .int .i64 0]) ∧ TM p tx cap w' s' ∧ pst s' = pst s ∧ s'.t = s.t + 1 + fl.length ∧ s'.N = s.N ∧ Step p s.N w s'.N w' := by
  have H := Lib.hid h
  have HT := Lib.hid ht
  have HZ := Lib.hid hz
  have HO := Lib.hid ho
  have HC := Lib.hid hc
  have HF := Lib.hid hf
  have HFN := Lib.hid hn
  have HPG : Hid (1 ≤ p.pages ∧ p.pages ≤ 4096) := Lib.hid h.pages
  obtain ⟨R, hR⟩ : ∃ R, R = p.pages - z.unused + fl.length := ⟨_, rfl⟩
  rw [← hR]
  have HR := Lib.hid hR
  clear h ht hz ho hc hf hn hR
  go_enter Tryz.func17, Tryz.ntmps17
  go_wp2_with fail
  refine (made_any w H.out).mono ?_
  rintro e w1 ⟨rfl, hb1⟩
  unfold treeV
  have HB1 := Lib.hid hb1
  clear hb1
  go_upto_region 4 with fail
  obtain ⟨W2, hW2⟩ : ∃ W, W = w1.alloc (.cells #[.pointer (some ⟨p.bg, 0, none⟩), .int .i64 tx] 117) := ⟨_, rfl⟩
  have k0 : W2.cell? ⟨w1.heap.size, 0, none⟩ = some (.pointer (some ⟨p.bg, 0, none⟩)) := by rw [hW2]; exact cellNew rfl
  have k1 : W2.cell? ⟨w1.heap.size, 1, none⟩ = some (.int .i64 tx) := by rw [hW2]; exact cellNew rfl
  have HB2 : Hid (Below w.heap.size w W2) := Lib.hid (by rw [hW2]; exact HB1.out.alloc HB1.out.size _)
  rw [← hW2]
  have hlt := cell_lt k0
  have HM2 := Lib.hid (H.out.below HB2.out)
  clear hW2
  go_wp2_with fail
  refine (tmeta_any z W2 HM2.out (by have := HT.out; omega) HZ.out HO.out).mono ?_
  rintro e w3 ⟨s3, rfl, hm3, hp3, ht3, hn3, hs3⟩
  unfold metV
  rw [hn3] at hs3
  have HM3 := Lib.hid hm3
  have HP3 := Lib.hid hp3
  have HT3 := Lib.hid ht3
  have HN3 := Lib.hid hn3
  have HS3 := Lib.hid ((Step.of_below HB2.out).trans hs3)
  clear hm3 hp3 ht3 hn3 hs3 k0 k1 hlt
  go_upto_region 5 with fail
  obtain ⟨X, hX⟩ : ∃ X, X = w3.heap.size := ⟨_, rfl⟩
  obtain ⟨W4, hW4⟩ : ∃ W3, W3 = w3.alloc (.cells #[.int .i64 z.root, .int .i64 z.unused, .int .i64 z.free, .int .i64 z.levels] 133) := ⟨_, rfl⟩
  have x4 : W4.heap[X]? = some (.cells #[.int .i64 z.root, .int .i64 z.unused, .int .i64 z.free, .int .i64 z.levels] 133 (0, 0)) := by rw [hW4, hX]; exact heap_alloc_new w3 _
  have HB4 : Hid (Below w3.heap.size w3 W4) := Lib.hid (by rw [hW4]; exact (Below.refl _ w3).alloc (Nat.le_refl _) _)
  rw [← hW4, ← hX]
  obtain ⟨⟨a0, a1, a2, a3⟩, -, hXl⟩ := four_cells x4
  have HM4 := Lib.hid (HM3.out.below HB4.out)
  have HS4 := Lib.hid (HS3.out.trans (Step.of_below HB4.out))
  have X4 := Lib.hid x4
  have HMN : Hid (∀ n, TM p tx cap (W4.drewN n) s3) := Lib.hid (fun n => HM4.out.below (below_drewN' W4 n))
  clear hW4 hX x4
  have hw9 : wrap64 ((p.pages : Int) - (z.unused : Int)) = ((p.pages - z.unused : Nat) : Int) := by have := HO.out.unused; have := HPG.out; unfold wrap64; omega
  have HW9 := Lib.hid hw9
  clear hw9
  go_wp2_with fail
  go_quiet ((go_at_call 50; exact Calls.quiet_of_same (pages_any (HMN.out _))))
  go_wp2
  have HA0 : Hid (W4.drewN nq = W4.drewN nq) := Lib.hid rfl
  clear a0 a1 a2 a3 hXl HA0
  obtain ⟨B, hB⟩ : ∃ B, B = p.pages - z.unused := ⟨_, rfl⟩
  have HBE := Lib.hid hB
  have HW9' : Hid (IntKind.i64.wrap ((p.pages : Int) - (z.unused : Int)) = (B : Int)) := Lib.hid (by rw [IntKind.wrap_i64, hB]; have := HO.out.unused; have := HPG.out; omega)
  have HW9'' : Hid (wrap64 ((p.pages : Int) - (z.unused : Int)) = (B : Int)) := Lib.hid (by rw [HW9.out, hB])
  (first | rw [HW9'.out] | rw [HW9''.out] | skip)
  clear hB
  go_loopw [9, 10, 11, 12] (fun v i b e wr => ∃ (j k : Nat) (s5 : ASt), v = .int .i64 (B + j : Nat) ∧ i = .int .i64 k ∧ Hid (j ≤ fl.length ∧ Chain (pst s).F k (fl.drop j)) ∧
      Hid (TM p tx cap wr s5 ∧ pst s5 = pst s ∧ s5.t = s.t + 1 + j ∧ s5.N = s.N ∧ Step p s.N w s.N wr) ∧ Hid (wr.heap[X]? = some (.cells #[.int .i64 z.root, .int .i64 z.unused, .int .i64 z.free, .int .i64 z.levels] 133 (0, 0)))) (fun v _ _ _ _ => B + fl.length - (intOf v).toNat)
  case atStart =>
    exact ⟨0, z.free, s3, rfl, rfl, Lib.hid ⟨Nat.zero_le _, HC.out⟩, Lib.hid ⟨HMN.out nq, HP3.out, HT3.out, HN3.out, HS4.out.trans (Step.of_below (below_drewN' W4 nq))⟩, Lib.hid X4.out⟩
  case round =>
    obtain ⟨j, k, s5, rfl, rfl, HI, HM5, HX5⟩ := hrel
    obtain ⟨⟨a0, a1, a2, a3⟩, -, hXl⟩ := four_cells HX5.out
    cases hfl : fl.drop j with
    | nil =>
      have hk0 : k = 0 := by have := HI.out.2; rw [hfl] at this; exact this
      have hjl : j = fl.length := by have := congrArg List.length hfl; rw [List.length_drop, List.length_nil] at this; have := HI.out.1; omega
      subst hk0
      have HJ := Lib.hid hjl
      have hBR : B + j = R := by rw [HR.out, hjl, HBE.out]
      rw [hBR]
      clear hfl hjl hBR
      go_wp2
      go_ret2
      obtain ⟨h1, h2, h3, h4, h5⟩ := HM5.out
      exact ⟨s5, rfl, h1, h2, by rw [← HJ.out]; exact h3, h4, by rw [h4]; exact h5⟩
    | cons k' l =>
      obtain ⟨rfl, hk0, f, tl, hFk, hf, hch⟩ : k = k' ∧ 0 < k' ∧ ∃ f tl, (pst s).F k' = le2 f ++ tl ∧ f < 65536 ∧ Chain (pst s).F f l := by have := HI.out.2; rw [hfl] at this; exact this
      have hmem : k ∈ fl := List.mem_of_mem_drop (by rw [hfl]; simp)
      have hjl : j < fl.length := by have := congrArg List.length hfl; rw [List.length_drop, List.length_cons] at this; omega
      obtain ⟨hk1, hk2⟩ := HF.out k hmem
      have hkn : ((k : Int) != 0) = true := by rw [bne_iff_ne]; omega
      have hkd : decide ((k : Int) ≥ (z.unused : Int)) = false := decide_eq_false (by omega)
      have hkd' : decide (z.unused ≤ k) = false := decide_eq_false (by omega)
      obtain ⟨Q, hQ⟩ : ∃ Q, Q = B + j := ⟨_, rfl⟩
      have hqd : decide ((Q : Int) ≥ (p.pages : Int)) = false := decide_eq_false (by have := HBE.out; have := HO.out.unused; have := HFN.out; omega)
      have hqd' : decide (p.pages ≤ Q) = false := decide_eq_false (by have := HBE.out; have := HO.out.unused; have := HFN.out; omega)
      rw [← hQ]
      have HQ := Lib.hid hQ
      have HK := Lib.hid (And.intro hk1 (And.intro hk2 hjl))
      have HFK := Lib.hid hFk
      have HF5 := Lib.hid hf
      have HCH := Lib.hid hch
      have HFL := Lib.hid hfl
      clear hQ hk1 hk2 hjl hFk hf hch hfl hmem hk0
      go_wp2_with fail
      refine (pages_any HM5.out.1).mono ?_
      rintro e w5 ⟨rfl, rfl⟩
      go_wp2_with fail
      obtain ⟨h1, h2, h3, h4, h5⟩ := HM5.out
      have hF : (s5.C (k : Int)).2 = le2 f ++ tl := by have := congrArg (fun P => P.F k) h2; exact this.trans HFK.out
      have hlen := h1.len k (by have := HO.out.unused; have := HK.out.2.1; omega)
      have htl : tl.length + 2 = 112 := by rw [hF, List.length_append] at hlen; simp [le2] at hlen; omega
      refine (tread_any k h1 (by have := HO.out.unused; have := HK.out.2.1; omega) (by have := HT.out; have := HK.out.2.2; omega)).mono ?_
      rintro e w6 ⟨q6, d6, s6, rfl, ho6, hm6, hp6, ht6, hn6, hs6⟩
      rw [hn6, h4] at hs6
      rw [hF] at ho6
      have X6 := Lib.hid (h1.keep (by rw [h4]; exact hs6) HX5.out (by decide))
      have HR6 : Hid (Rd w6 q6 (UInt8.ofNat f :: UInt8.ofNat (f / 256) :: tl)) := Lib.hid (own_rdv ho6)
      have HTL := Lib.hid htl
      have HM6 := Lib.hid hm6
      have HP6 := Lib.hid (hp6.trans h2)
      have HT6 : Hid (s6.t = s.t + 1 + (j + 1)) := Lib.hid (by omega)
      have HN6 := Lib.hid (hn6.trans h4)
      have HS6 := Lib.hid (h5.trans hs6)
      clear h1 h2 h3 h4 h5 hF hlen htl ho6 hm6 hp6 ht6 hn6 hs6 a0 a1 a2 a3 hXl
      dsimp only
      go_wp2_with fail
      refine (get16_any q6 112 d6 (UInt8.ofNat f) (UInt8.ofNat (f / 256)) tl w6 HTL.out HR6.out).mono ?_
      rintro e w7 ⟨rfl, hb7⟩
      rw [num2_le2 HF5.out]
      have HB7 := Lib.hid hb7
      have hw1 : wrap64 ((Q : Int) + 1) = ((Q + 1 : Nat) : Int) := by have := HQ.out; have := HBE.out; have := HPG.out; have := HK.out.2.2; have := HFN.out; have := HO.out.unused; unfold wrap64; omega
      have HW1 := Lib.hid hw1
      clear hb7 hw1
      go_wp2
      (first | rw [HW1.out] | skip)
      go_roundw
      case rel =>
        refine ⟨j + 1, f, s6, by rw [HQ.out]; rfl, rfl, Lib.hid ⟨HK.out.2.2, ?_⟩, Lib.hid ⟨HM6.out.below HB7.out, HP6.out, HT6.out, HN6.out, HS6.out.trans (Step.of_below HB7.out)⟩, Lib.hid (met_old X6.out HB7.out)⟩
        have : fl.drop (j + 1) = l := by
          have := congrArg (List.drop 1) HFL.out
          rw [List.drop_drop] at this
          exact this
        rw [this]
        exact HCH.out
      case measure => simp only [intOf, Int.toNat_natCast]; have := HQ.out; have := HK.out.2.2; omega
end Go.Proofs.YtheeomjfpnijbaaGreatDoor
end

section
namespace Go.Proofs.YtheeomjfpnijbaaGreatDoor
open Go.RowKit Go.Shelf
set_option linter.unusedVariables false

theorem isnt3_any (x : UInt8) (w : World) : Calls Tryz.prog 74 #[.int .u8 (x.toNat : Int)] w fun e w' => e = .returned (.bool ((x.toNat : Int) != 0)) ∧ w' = w := by
  go_enter Tryz.func74, Tryz.ntmps74
  go_wp2
  go_ret
  exact ⟨rfl, rfl⟩
set_option maxHeartbeats 1000000 in
set_option maxRecDepth 20000 in
/-- Noughts have no such byte. -/
theorem indexO_any (p : Option Addr) (n c : Nat) (w : World) (hr : Rd w p (List.replicate n 0)) (hm : n ≤ 112) :
    Calls Tryz.prog 118 #[.slice p n c, .func (.func 74) #[] #[]] w fun e w' => e = .returned (.int .i64 (-1)) ∧ Below w.heap.size w w' := by
  have HR := Lib.hid hr
  clear hr
  go_enter Tryz.func118, Tryz.ntmps118
  go_wp2_with fail
  go_loopw [8] (fun i wr => ∃ k : Nat, k ≤ n ∧ i = .int .i64 k ∧ Hid (Below w.heap.size w wr)) (fun i _ => n - (intOf i).toNat)
  case atStart => exact ⟨0, Nat.zero_le _, rfl, Lib.hid (Below.refl _ _)⟩
  case round =>
    obtain ⟨k, hk, rfl, HB⟩ := hrel
    by_cases hlt : k < n
    · obtain ⟨b, o, rfl, hc⟩ := HR.out.at (by simp; omega)
      have ck := keepC HB.out (hc k (by simpa using hlt))
      rw [List.getElem_replicate] at ck
      have ck : wr.cell? ⟨b, o + k, none⟩ = some (.int .u8 ((0 : UInt8).toNat : Int)) := ck
      clear hc
      go_wp2_with fail
      refine (isnt3_any 0 _).mono ?_
      rintro e w1 ⟨rfl, rfl⟩
      go_wp2_with fail
      go_roundw
      case rel => exact ⟨k + 1, hlt, by go_num, HB⟩
      case measure => simp [intOf]; omega
    · obtain rfl : k = n := by omega
      go_wp2_with fail
      go_ret
      exact ⟨rfl, HB.out⟩
set_option maxHeartbeats 400000 in
theorem containsO_any (p : Option Addr) (n c : Nat) (w : World) (hr : Rd w p (List.replicate n 0)) (hm : n ≤ 112) :
    Calls Tryz.prog 73 #[.slice p n c, .func (.func 74) #[] #[]] w fun e w' => e = .returned (.bool false) ∧ Below w.heap.size w w' := by
  have H := Lib.hid (indexO_any p n c w hr hm)
  clear hr
  go_enter Tryz.func73, Tryz.ntmps73
  go_wp2_with fail
  refine H.out.mono ?_
  rintro e w1 ⟨rfl, hb⟩
  have HB := Lib.hid hb
  clear hb
  go_wp2
  go_ret
  exact ⟨rfl, HB.out⟩

set_option maxRecDepth 20000 in
set_option maxHeartbeats 2000000 in
theorem open1_any {p : Par} {tx cap mb : Nat} {s : ASt} (w : World) (h : TM p tx cap w s) (ht : s.t ≤ 500000) (hp : 2 ≤ p.pages) (hz : (s.C ((0 : Nat) : Int)).2 = List.replicate 112 0) (hm : w.heap[mb]? = some (.cells #[.pointer (some ⟨p.bg, 0, none⟩)] 30 (0, 0))) :
    Calls Tryz.prog 72 #[.int .i64 tx, .pointer (some ⟨mb, 0, none⟩)] w fun e w' => ∃ (c : Nat) (s' : ASt), e = .returned (.int .i64 c) ∧ InitR cap (pst s) c (pst s') ∧ TM p tx cap w' s' ∧ s'.t ≤ s.t + 13 ∧ Step p s.N w s'.N w' := by
  have H := Lib.hid h
  have HT := Lib.hid ht
  have HP := Lib.hid hp
  have HZ := Lib.hid hz
  have HM := Lib.hid hm
  have k0 : w.cell? ⟨mb, 0, none⟩ = some (.pointer (some ⟨p.bg, 0, none⟩)) := by simp [World.cell?, hm]
  have hlt := cell_lt k0
  clear h ht hp hz hm
  go_enter Tryz.func72, Tryz.ntmps72
  go_wp2_with fail
  refine (tread_any 0 H.out (by have := HP.out; omega) (by have := HT.out; omega)).mono ?_
  rintro e w1 ⟨q, d, s1, rfl, ho1, hm1, hp1, ht1, hn1, hs1⟩
  rw [HZ.out] at ho1
  have HR1 := Lib.hid (own_rdv ho1)
  have HM1 := Lib.hid hm1
  have HP1 := Lib.hid hp1
  have HT1 := Lib.hid ht1
  have HS1 := Lib.hid hs1
  have M1 := Lib.hid (H.out.keep hs1 HM.out (by decide))
  clear ho1 hm1 hp1 ht1 hn1 hs1 k0 hlt
  go_wp2_with fail
  refine (containsO_any q 112 d w1 HR1.out (by omega)).mono ?_
  rintro e w2 ⟨rfl, hb2⟩
  have HM2 := Lib.hid (HM1.out.below hb2)
  have HS2 := Lib.hid (HS1.out.trans (Step.of_below hb2))
  have k0 : w2.cell? ⟨mb, 0, none⟩ = some (.pointer (some ⟨p.bg, 0, none⟩)) := by simp [World.cell?, met_old M1.out hb2]
  have hlt := cell_lt k0
  clear hb2
  go_wp2_with fail
  refine (tinit_any w2 HM2.out (by have := HT.out; have := HT1.out; omega) HP.out).mono ?_
  rintro e w3 ⟨c, s3, rfl, hi3, hm3, ht3, hs3⟩
  go_wp2
  go_ret
  exact ⟨c, s3, rfl, by rw [← HP1.out]; exact hi3, hm3, by have := HT1.out; omega, HS2.out.trans hs3⟩
set_option maxRecDepth 20000 in
set_option maxHeartbeats 2000000 in
theorem free1_any {p : Par} {tx cap sb sp fb : Nat} {s : ASt} (z : Met) (fl : List Nat) (w : World) (h : TM p tx cap w s) (ht : s.t + fl.length ≤ 500000) (hz : (pst s).F 0 = pad z.load) (ho : MetOk p.pages z) (hc : Chain (pst s).F z.free fl) (hf : ∀ k ∈ fl, 1 ≤ k ∧ k < z.unused) (hn : fl.length < z.unused)
    (hs : w.heap[sb]? = some (.cells #[.pointer (some ⟨p.bg, 0, none⟩)] 74 (0, 0))) (hsp : w.heap[sp]? = some (.cells #[.pointer (some ⟨sb, 0, none⟩)] 72 (0, 0))) (hfb : ∃ n0 : Nat, w.heap[fb]? = some (.cells #[.int .i64 n0] 3 (0, 0))) (hB : s.N.B ≤ fb) :
    Calls Tryz.prog 66 #[.int .i64 tx, .pointer (some ⟨sp, 0, none⟩), .pointer (some ⟨fb, 0, none⟩)] w fun e w' => ∃ (s' : ASt), e = .returned (.int .i64 0) ∧ w'.heap[fb]? = some (.cells #[.int .i64 (p.pages - z.unused + fl.length : Nat)] 3 (0, 0)) ∧ TM p tx cap w' s' ∧ pst s' = pst s ∧ s'.t ≤ s.t + 1 + fl.length ∧ ∃ w1, Step p s.N w s'.N w1 ∧ Upd (fun j => j = fb) w1 w' := by
  obtain ⟨n0, hfb⟩ := hfb
  have H := Lib.hid h
  have HT := Lib.hid ht
  have HF := Lib.hid hfb
  have HBB := Lib.hid hB
  have HC := Lib.hid (And.intro hz (And.intro ho (And.intro hc (And.intro hf hn))))
  have k0 : w.cell? ⟨sb, 0, none⟩ = some (.pointer (some ⟨p.bg, 0, none⟩)) := by simp [World.cell?, hs]
  have k1 : w.cell? ⟨sp, 0, none⟩ = some (.pointer (some ⟨sb, 0, none⟩)) := by simp [World.cell?, hsp]
  have hl0 := cell_lt k0
  have hl1 := cell_lt k1
  clear h ht hz ho hc hf hn hs hsp hfb hB
  go_enter Tryz.func66, Tryz.ntmps66
  go_wp2_with fail
  refine (tfree_any z fl w H.out (by have := HT.out; omega) HC.out.1 HC.out.2.1 HC.out.2.2.1 HC.out.2.2.2.1 HC.out.2.2.2.2).mono ?_
  rintro e w1 ⟨s1, rfl, hm1, hp1, ht1, hn1, hs1⟩
  have F1 := Lib.hid (H.out.keep hs1 HF.out (by decide))
  have kf : w1.cell? ⟨fb, 0, none⟩ = some (.int .i64 n0) := by simp [World.cell?, F1.out]
  have kff : w1.frozen? ⟨fb, 0, none⟩ = false := frozenC F1.out
  have hlf := cell_lt kf
  have HM1 := Lib.hid hm1
  have HP1 := Lib.hid hp1
  have HT1 := Lib.hid ht1
  have HS1 := Lib.hid hs1
  clear hm1 hp1 ht1 hn1 hs1
  go_wp2
  go_ret
  have hu := Upd.setC w1 fb 0 (.int .i64 (p.pages - z.unused + fl.length : Nat))
  refine ⟨s1, rfl, (heap_setCell_same w1 fb 0 _ _ _ F1.out).trans rfl, HM1.out.turn hu (B := fb) (by rw [HS1.out.B]; exact HBB.out) (fun j hj => by subst hj; exact ⟨Nat.le_refl _, 3, by decide, ⟨_, F1.out⟩⟩), HP1.out, by have := HT1.out; omega, w1, HS1.out, hu⟩
set_option maxRecDepth 20000 in
set_option maxHeartbeats 4000000 in
theorem keys1_any {p : Par} {tx cap sb sp kb : Nat} {s : ASt} {n : Nat} (t : Tr n) (z : Met) (w : World) (h : TM p tx cap w s) (ht : s.t + 1 + t.nds.length ≤ 500000) (hz : (pst s).F 0 = pad z.load) (ho : MetOk p.pages z) (hr : z.root = t.pg) (hl : z.levels = n + 1) (hh : ∀ d ∈ t.nds, Holds p.pages (pst s).F d) (hord : t.Ord [] none) (hnone : t.flat = [])
    (hs : w.heap[sb]? = some (.cells #[.pointer (some ⟨p.bg, 0, none⟩)] 74 (0, 0))) (hsp : w.heap[sp]? = some (.cells #[.pointer (some ⟨sb, 0, none⟩)] 72 (0, 0))) :
    Calls Tryz.prog 65 #[.int .i64 tx, .pointer (some ⟨sp, 0, none⟩), .pointer (some ⟨kb, 0, none⟩)] w fun e w' => ∃ (s' : ASt), e = .returned (.int .i64 0) ∧ TM p tx cap w' s' ∧ pst s' = pst s ∧ s'.t ≤ s.t + 1 + t.nds.length ∧ Step p s.N w s'.N w' := by
  have H := Lib.hid h
  have HT := Lib.hid ht
  have HC := Lib.hid (And.intro hz (And.intro ho (And.intro hr (And.intro hl (And.intro hh hord)))))
  have HN := Lib.hid hnone
  have k0 : w.cell? ⟨sb, 0, none⟩ = some (.pointer (some ⟨p.bg, 0, none⟩)) := by simp [World.cell?, hs]
  have k1 : w.cell? ⟨sp, 0, none⟩ = some (.pointer (some ⟨sb, 0, none⟩)) := by simp [World.cell?, hsp]
  have hl0 := cell_lt k0
  have hl1 := cell_lt k1
  have hup : upTo 1073741824 [] (fromK [] t.flat) = [] := by rw [hnone]; rfl
  have HU := Lib.hid hup
  clear h ht hz ho hr hl hh hord hnone hs hsp hup
  go_enter Tryz.func65, Tryz.ntmps65
  go_wp2_with fail
  refine (trange_any t [] 1073741824 z w H.out (by have := HT.out; omega) HC.out.1 HC.out.2.1 HC.out.2.2.1 HC.out.2.2.2.1 HC.out.2.2.2.2.1 HC.out.2.2.2.2.2 (by rw [HN.out]; simp)).mono ?_
  rintro e w1 ⟨q, c, s1, rfl, -, hm1, hp1, ht1, hn1, hs1⟩
  rw [HU.out]
  have HM1 := Lib.hid hm1
  have HP1 := Lib.hid hp1
  have HT1 := Lib.hid ht1
  have HS1 := Lib.hid hs1
  clear hm1 hp1 ht1 hn1 hs1
  go_wp2
  refine wp_loop_rounds 1 ?_
  rw [rounds_succ]
  go_wp2
  go_ret
  exact ⟨s1, rfl, HM1.out, HP1.out, HT1.out, HS1.out⟩
end Go.Proofs.YtheeomjfpnijbaaGreatDoor
end

section
namespace Go.Proofs.YtheeomjfpnijbaaGreatDoor
open Go.RowKit Go.Shelf
set_option linter.unusedVariables false
set_option maxRecDepth 20000
set_option maxHeartbeats 1000000

/-- A store of nobody: none, or one of no manager. -/
def NoStore (w : World) (p : Option Addr) : Prop := p = none ∨ ∃ b : Nat, p = some ⟨b, 0, none⟩ ∧ w.cell? ⟨b, 0, none⟩ = some (.pointer none)
theorem NoStore.below {w w' : World} {p : Option Addr} (h : NoStore w p) (hb : Below w.heap.size w w') : NoStore w' p := by
  rcases h with rfl | ⟨b, rfl, h⟩
  · exact .inl rfl
  · exact .inr ⟨b, rfl, keepC hb h⟩
theorem within_none (p : Option Addr) (st : Bool) (f : Value) (w : World) (h : NoStore w p) :
    Calls Tryz.prog 62 #[.pointer p, .bool st, f] w fun e w' => e = .returned (.int .i64 2) ∧ w' = w := by
  rcases h with rfl | ⟨b, rfl, h⟩
  · go_enter Tryz.func62, Tryz.ntmps62
    go_wp2
    go_ret
    exact ⟨rfl, rfl⟩
  · have hl := cell_lt h
    go_enter Tryz.func62, Tryz.ntmps62
    go_wp2
    go_ret
    exact ⟨rfl, rfl⟩
theorem stGet_none (p : Option Addr) (k : Value) (hk : ∃ s, k = .string s) (w : World) (h : NoStore w p) :
    Calls Tryz.prog 21 #[.pointer p, k] w fun e w' => e = .returned (.tuple #[.slice none 0 0, .int .i64 2]) ∧ Below w.heap.size w w' := by
  obtain ⟨s, rfl⟩ := hk
  have H := Lib.hid h
  clear h
  go_enter Tryz.func21, Tryz.ntmps21
  go_wp2_with fail
  have HB : Hid (Below w.heap.size w (((w.alloc (.cells #[.pointer p] 72)).alloc (.cells #[.string s] 9)).alloc (.cells #[.slice none 0 0] 76))) := Lib.hid ((((Below.refl _ w).alloc (Nat.le_refl _) _).alloc (by simp) _).alloc (by simp; omega) _)
  refine (within_none p _ _ _ (H.out.below HB.out)).mono ?_
  rintro e w1 ⟨rfl, rfl⟩
  go_wp2_with fail
  go_returns
  exact ⟨rfl, HB.out⟩
theorem stKeys_none (p : Option Addr) (w : World) (h : NoStore w p) :
    Calls Tryz.prog 22 #[.pointer p] w fun e w' => e = .returned (.tuple #[.slice none 0 0, .int .i64 2]) ∧ Below w.heap.size w w' := by
  have H := Lib.hid h
  clear h
  go_enter Tryz.func22, Tryz.ntmps22
  go_wp2_with fail
  have HB : Hid (Below w.heap.size w ((w.alloc (.cells #[.pointer p] 72)).alloc (.cells #[.slice none 0 0] 79))) := Lib.hid (((Below.refl _ w).alloc (Nat.le_refl _) _).alloc (by simp) _)
  refine (within_none p _ _ _ (H.out.below HB.out)).mono ?_
  rintro e w1 ⟨rfl, rfl⟩
  go_wp2_with fail
  go_returns
  exact ⟨rfl, HB.out⟩
theorem stFree_none (p : Option Addr) (w : World) (h : NoStore w p) :
    Calls Tryz.prog 23 #[.pointer p] w fun e w' => e = .returned (.tuple #[.int .i64 0, .int .i64 2]) ∧ Below w.heap.size w w' := by
  have H := Lib.hid h
  clear h
  go_enter Tryz.func23, Tryz.ntmps23
  go_wp2_with fail
  have HB : Hid (Below w.heap.size w ((w.alloc (.cells #[.pointer p] 72)).alloc (.cells #[.int .i64 0] 3))) := Lib.hid (((Below.refl _ w).alloc (Nat.le_refl _) _).alloc (by simp) _)
  refine (within_none p _ _ _ (H.out.below HB.out)).mono ?_
  rintro e w1 ⟨rfl, rfl⟩
  go_wp2_with fail
  go_returns
  exact ⟨rfl, HB.out⟩
theorem stBatch_none (p : Option Addr) (w : World) (h : NoStore w p) :
    Calls Tryz.prog 24 #[.pointer p, .slice none 0 0] w fun e w' => e = .returned (.int .i64 2) ∧ Below w.heap.size w w' := by
  have HB : Hid (Below w.heap.size w ((w.alloc (.cells #[.pointer p] 72)).alloc (.cells #[.slice none 0 0] 98))) := Lib.hid (((Below.refl _ w).alloc (Nat.le_refl _) _).alloc (by simp) _)
  rcases h with rfl | ⟨b, rfl, h⟩
  · go_enter Tryz.func24, Tryz.ntmps24
    go_wp2
    go_ret
    exact ⟨rfl, HB.out⟩
  · have hl := cell_lt h
    have h2 := keepC ((Below.refl _ w).alloc (Nat.le_refl _) (.cells #[.pointer (some ⟨b, 0, none⟩)] 72)) h
    have h1 := keepC HB.out h
    go_enter Tryz.func24, Tryz.ntmps24
    go_wp2
    go_ret
    exact ⟨rfl, HB.out⟩
theorem stCheck_none (p : Option Addr) (w : World) (h : NoStore w p) :
    Calls Tryz.prog 25 #[.pointer p] w fun e w' => e = .returned (.int .i64 2) ∧ w' = w := by
  rcases h with rfl | ⟨b, rfl, h⟩
  · go_enter Tryz.func25, Tryz.ntmps25
    go_wp2
    go_ret
    exact ⟨rfl, rfl⟩
  · have hl := cell_lt h
    go_enter Tryz.func25, Tryz.ntmps25
    go_wp2_with fail
    refine (checkpoint_none none w (.inl rfl)).mono ?_
    rintro e w1 ⟨rfl, rfl⟩
    go_wp2_with fail
    go_ret
    exact ⟨rfl, rfl⟩
theorem stOpen_none (p : Option Addr) (a b : Int) (w : World) (h : NoDisk w p) :
    Calls Tryz.prog 26 #[.pointer p, .int .i64 a, .int .i64 b] w fun e w' => e = .returned (.tuple #[.pointer none, .int .i64 2]) ∧ Below w.heap.size w w' := by
  go_enter Tryz.func26, Tryz.ntmps26
  go_wp2_with fail
  refine (ariesOpen_none p a b 64 w h).mono ?_
  rintro e w1 ⟨rfl, rfl⟩
  have HB : Hid (Below w1.heap.size w1 (w1.alloc (.cells #[.pointer none] 30))) := Lib.hid ((Below.refl _ w1).alloc (Nat.le_refl _) _)
  go_wp2_with fail
  go_returns
  exact ⟨rfl, HB.out⟩
end Go.Proofs.YtheeomjfpnijbaaGreatDoor
end

section
namespace Go.Proofs.YtheeomjfpnijbaaGreatDoor
open Go.RowKit Go.Shelf
set_option linter.unusedVariables false

def parS (bg bp bd bl bm ba logs pages n : Nat) : Par := ⟨bg, bp, bd, bl, bm, ba, logs, pages, 64, n, fun _ => []⟩
def stS (Z logs : Nat) : ASt := ⟨z0 Z, 0, 0, [], C0, fun _ => zeros 128, ⟨0, logs, 1, 0, 0, 0, .slice none 0 0, []⟩, 0, 0, [], 0⟩
theorem freshS_qm {Z : Nat} {w : World} {bg bp bl bm ba bd logs pages n : Nat} (h1 : w.heap[bg]? = some (MgrC bp bl pages ba)) (h2 : St w (z0 Z) bd bl n 0 (fun _ => zeros 128) ⟨0, logs, 1, 0, 0, 0, .slice none 0 0, []⟩) (h3 : PoolAt w (z0 Z) bp bd bl bm logs pages 64 0 []) (h4 : MapZ w ba []) (h5 : Z ≤ bg) (h6 : Z ≤ ba) (h7 : ba ≠ bm) (hl : logs ≤ 4096) (hp : 1 ≤ pages ∧ pages ≤ 4096) (hn : logs + pages ≤ n) :
    QM (parS bg bp bd bl bm ba logs pages n) (logs * 112) w (stS Z logs) := by
  refine ⟨{
    cells := h1
    run := ⟨h2, h3, startInv_any _ _, hn, by show 0 + logs ≤ logs; omega, .inl rfl, Nat.zero_le _, ⟨by show 1 ≤ 64; omega, by show 64 ≤ 64; omega⟩⟩
    map := h4
    txs := fun x hx => by cases hx
    apart := List.nodup_nil
    rows := List.Pairwise.nil
    low := ⟨h5, h6, h7, fun x hx => by cases hx⟩
    pins := fun n => rfl
    few := Nat.zero_le _
    keys := fun x hx => by cases hx
    last := Nat.zero_le _
    cnt := ⟨Nat.le_refl _, Nat.le_refl _, Nat.le_refl _, Nat.le_refl _⟩
    ups := fun x hx => by cases hx
    ulen := fun x hx => by cases hx
    sect := hl }, rfl, fun n hn => by show (zeros 112).length = 112; simp [zeros], hp, rfl⟩
/-- A store over a manager with an empty tree. -/
structure Empty (p : Par) (cap sb : Nat) (Z : Nat) (w : World) (s : ASt) (k : Nat) : Prop where
  qm : QM p cap w s
  box : w.heap[sb]? = some (.cells #[.pointer (some ⟨p.bg, 0, none⟩)] 74 (0, 0))
  f0 : (s.C ((0 : Nat) : Int)).2 = pad (Met.load ⟨1, 2, 0, 1⟩)
  f1 : (s.C ((1 : Nat) : Int)).2 = pad [1, 0]
  low : s.L.xs.length ≤ 900 + 16 * k ∧ s.t ≤ 24000 * k ∧ s.last ≤ k
  zone : s.N.B = Z
theorem QM.u {p : Par} {cap : Nat} {w : World} {s : ASt} (h : QM p cap w s) : (pst s).u = s.L.xs.length := by unfold pst; rw [h.none]; rfl
theorem QM.base {p : Par} {cap : Nat} {w : World} {s : ASt} (h : QM p cap w s) : s.N.B ≤ w.heap.size := h.mr.run.st.base
theorem init_ok {cap : Nat} {a b : PSt} {c : Nat} (h : InitR cap a c b) (hc : a.u + 796 ≤ cap) (h0 : (a.F 0).length ≤ 112) (h1 : (a.F 1).length ≤ 112) : c = 0 ∧ b.F 0 = pad (Met.load ⟨1, 2, 0, 1⟩) ∧ b.F 1 = pad [1, 0] ∧ b.u ≤ a.u + 796 := by
  have hm : (pad (Met.load ⟨1, 2, 0, 1⟩)).length ≤ 112 := by rw [pad_length (by decide)]; omega
  have hn : (pad [1, 0]).length ≤ 112 := by rw [pad_length (by decide)]; omega
  obtain ⟨e, b1, hw, hr⟩ := h
  have hw1 : e = 0 ∧ b1.F = updF a.F 0 (pad (Met.load ⟨1, 2, 0, 1⟩)) ∧ b1.u ≤ a.u + 398 := by
    rcases hw with ⟨h2, h3, -, k, h4, h5⟩ | ⟨h2, -, k, h4, h5⟩
    · have := cost_all h0 hm h4
      exact ⟨h2, h3, by omega⟩
    · have := cost_all h0 hm h4
      omega
  obtain ⟨he, hF, hu⟩ := hw1
  rcases hr with ⟨hne, -⟩ | ⟨-, hw2⟩
  · exact absurd he hne
  have e1 : b1.F 1 = a.F 1 := by rw [hF]; rfl
  rcases hw2 with ⟨h2, h3, -, k, h4, h5⟩ | ⟨h2, -, k, h4, h5⟩
  · have := cost_all (by rw [e1]; exact h1) hn h4
    exact ⟨h2, by rw [h3, hF]; rfl, by rw [h3]; rfl, by omega⟩
  · have := cost_all (by rw [e1]; exact h1) hn h4
    omega
def tr0 : Tr 0 := ((1 : Nat), ([] : List (Key × Key)))
theorem tr0_holds {P : Nat} {F : Nat → List UInt8} (hp : 2 ≤ P) (h : F 1 = pad [1, 0]) : ∀ d ∈ tr0.nds, Holds P F d := fun d hd => by
  rw [show tr0.nds = [⟨1, true, 0, []⟩] from rfl, List.mem_singleton] at hd
  subst hd
  exact ⟨⟨Nat.le_refl _, hp⟩, ⟨(fun c hc => by cases hc), List.Pairwise.nil, by show 0 < 65536; decide, fun _ => rfl⟩, by decide, h⟩
theorem met0_ok {P : Nat} (hp : 2 ≤ P) : MetOk P ⟨1, 2, 0, 1⟩ := ⟨⟨by show 1 ≤ 2; omega, hp⟩, ⟨Nat.le_refl _, by show 1 < 2; omega⟩, by show 0 < 2; omega, ⟨Nat.le_refl _, by show 1 ≤ 20; omega⟩⟩
set_option maxRecDepth 20000 in
set_option maxHeartbeats 2000000 in
theorem storeOpen_any {logs pages n Z bd : Nat} (w : World) (hD : DiskAt w (z0 Z) bd (zeroS n) []) (hZ : Z ≤ w.heap.size) (hT : Halves w) (hg : 0 < Z) (h1 : 30 ≤ logs ∧ logs ≤ 4096) (h2 : 2 ≤ pages ∧ pages ≤ 4096) (h3 : logs + pages ≤ n) :
    Calls Tryz.prog 26 #[.pointer (some ⟨bd, 0, none⟩), .int .i64 logs, .int .i64 pages] w fun e w' => ∃ (p : Par) (sb : Nat) (s : ASt), e = .returned (.tuple #[.pointer (some ⟨sb, 0, none⟩), .int .i64 0]) ∧ Empty p (logs * 112) sb Z w' s 1 ∧ p.pages = pages ∧ Below Z w w' := by
  have HD := Lib.hid hD
  have HZ := Lib.hid hZ
  have HT := Lib.hid hT
  have HG := Lib.hid hg
  have H1 := Lib.hid h1
  have H2 := Lib.hid h2
  have H3 := Lib.hid h3
  clear hD hZ hT hg h1 h2 h3
  go_enter Tryz.func26, Tryz.ntmps26
  go_wp2_with fail
  refine (ariesOpen_zero Z bd logs pages 64 n w HD.out HZ.out HT.out HG.out (by have := H1.out; omega) (by have := H2.out; omega) H3.out (by omega) (by omega)).mono ?_
  rintro e w1 ⟨bg, bp, bl, bm, ba, rfl, k1, k2, k3, k4, k5, k6, k7, hb1⟩
  have HQ1 := Lib.hid (freshS_qm k1 k2 k3 k4 k5 k6 k7 H1.out.2 ⟨by have := H2.out; omega, H2.out.2⟩ H3.out)
  obtain ⟨p, hp⟩ : ∃ p, p = parS bg bp bd bl bm ba logs pages n := ⟨_, rfl⟩
  rw [← hp] at HQ1
  have hbg : bg = p.bg := by rw [hp]; rfl
  have hpp : p.pages = pages := by rw [hp]; rfl
  subst hbg
  have HPP := Lib.hid hpp
  have HB1 := Lib.hid hb1
  clear hp k1 k2 k3 k4 k5 k6 k7 hb1 hpp
  go_wp2_with fail
  obtain ⟨mb, hmb⟩ : ∃ mb, mb = w1.heap.size := ⟨_, rfl⟩
  obtain ⟨W2, hW2⟩ : ∃ W, W = (w1.alloc (.cells #[.pointer (some ⟨p.bg, 0, none⟩)] 30)).alloc (.cells #[.pointer (some ⟨p.bg, 0, none⟩)] 74) := ⟨_, rfl⟩
  have hb2 : Below w1.heap.size w1 W2 := by rw [hW2]; exact ((Below.refl _ w1).alloc (Nat.le_refl _) _).alloc (by simp) _
  have hm2 : W2.heap[mb]? = some (.cells #[.pointer (some ⟨p.bg, 0, none⟩)] 30 (0, 0)) := by rw [hW2, hmb]; exact alloc_at (heap_alloc_new w1 _)
  have hs2 : W2.heap[mb + 1]? = some (.cells #[.pointer (some ⟨p.bg, 0, none⟩)] 74 (0, 0)) := by
    rw [hW2, hmb]
    have := heap_alloc_new (w1.alloc (.cells #[.pointer (some ⟨p.bg, 0, none⟩)] 30)) (.cells #[.pointer (some ⟨p.bg, 0, none⟩)] 74)
    rwa [World.size_alloc] at this
  rw [← hW2, ← hmb]
  have HB2 := Lib.hid hb2
  have M2 := Lib.hid hm2
  have S2 := Lib.hid hs2
  clear hW2 hb2 hmb hm2 hs2
  obtain ⟨s, hs⟩ : ∃ s, s = stS Z logs := ⟨_, rfl⟩
  rw [← hs] at HQ1
  have hsu : (pst s).u = 0 := by rw [hs]; rfl
  have hsF : ∀ n, (pst s).F n = List.replicate 112 0 := fun n => by rw [hs]; rfl
  have hs0 : s.t = 0 ∧ s.last = 0 ∧ s.L.xs.length = 0 ∧ s.N.B = Z := by rw [hs]; exact ⟨rfl, rfl, rfl, rfl⟩
  clear hs
  refine (within_any (p := p) (cap := logs * 112) (sb := mb + 1) (s := s) (fk := 72) (caps := #[.pointer (some ⟨mb, 0, none⟩)]) true (fun _ => False)
    (fun c s2 w2 => InitR (logs * 112) ⟨(pst s).F, (pst s).u + 16⟩ c (pst s2)) W2 (HQ1.out.below HB2.out) (by omega) (by have := H1.out; omega) (by omega) (by have := H1.out; omega) S2.out (by decide) (fun e => e) (fun j hj => hj.elim) (fun w3 s1 hm1 hp1 ht1 hn1 hs1 => ?_)).mono ?_
  · show Calls _ _ #[.int .i64 (s.last + 1 : Nat), .pointer (some ⟨mb, 0, none⟩)] _ _
    have hkp := fun (j : Nat) (cs : Array Value) (t : TypeId) (h1 : W2.heap[j]? = some (.cells cs t (0, 0))) (h2 : FreeM t) => (HQ1.out.below HB2.out).mr.keep hs1 h1 h2
    have hF : (pst s1).F = (pst s).F := by rw [hp1]
    refine (open1_any (p := gp p s) w3 hm1 (by omega) (by have := H2.out; show 2 ≤ p.pages; rw [HPP.out]; omega) (by have := congrFun hF 0; rw [hsF] at this; exact this) (hkp _ _ _ M2.out (by decide))).mono ?_
    rintro e w4 ⟨c, s4, rfl, hi4, hm4, ht4, hs4⟩
    exact ⟨c, s4, w4, rfl, by rw [← hp1]; exact hi4, hm4, by omega, hs4.unghost, Upd.refl _ _⟩
  · rintro e w3 ⟨c, s2, w2, s', rfl, hi, hq, hC, hx, ht, hl, hB, hbl, hk1, hk2⟩
    obtain ⟨rfl, f0, f1, hu⟩ := init_ok hi (by have := H1.out; show (pst s).u + 16 + 796 ≤ _; omega) (by show ((pst s).F 0).length ≤ 112; rw [hsF]; simp) (by show ((pst s).F 1).length ≤ 112; rw [hsF]; simp)
    have hu : (pst s2).u ≤ 812 := by have : (pst s2).u ≤ (pst s).u + 16 + 796 := hu; omega
    have HE : Hid (Empty p (logs * 112) (mb + 1) Z w3 s' 1) := Lib.hid ⟨hq, hk1 _ _ _ S2.out (by decide) (fun e => e), by rw [hC, if_pos ⟨rfl, rfl⟩]; exact f0, by rw [hC, if_pos ⟨rfl, rfl⟩]; exact f1, by omega, hB.trans hs0.2.2.2⟩
    rw [hs0.2.2.2] at hbl
    have HBL : Hid (Below Z w w3) := Lib.hid ((HB1.out.mono HZ.out).trans ((HB2.out.mono (Nat.le_trans HZ.out HB1.out.size)).trans hbl))
    clear hq hC hx ht hl hB hbl hk1 hk2 hi f0 f1 hu
    go_wp2
    go_returns
    exact ⟨p, mb + 1, s', rfl, HE.out, HPP.out, HBL.out⟩
set_option maxRecDepth 20000 in
set_option maxHeartbeats 2000000 in
theorem stFree_any {p : Par} {cap sb k Z : Nat} {s : ASt} (w : World) (h : Empty p cap sb Z w s k) (hk : k ≤ 5) (hcap : 2000 ≤ cap ∧ cap ≤ 458752) (hp : 2 ≤ p.pages) :
    Calls Tryz.prog 23 #[.pointer (some ⟨sb, 0, none⟩)] w fun e w' => ∃ s', e = .returned (.tuple #[.int .i64 (p.pages - 2 : Nat), .int .i64 0]) ∧ Empty p cap sb Z w' s' (k + 1) ∧ Below Z w w' := by
  have H := Lib.hid h
  have HK := Lib.hid (And.intro hk hcap)
  have HP := Lib.hid hp
  clear h hk hcap hp
  go_enter Tryz.func23, Tryz.ntmps23
  go_wp2_with fail
  obtain ⟨sp, hsp⟩ : ∃ sp, sp = w.heap.size := ⟨_, rfl⟩
  obtain ⟨W2, hW2⟩ : ∃ W, W = (w.alloc (.cells #[.pointer (some ⟨sb, 0, none⟩)] 72)).alloc (.cells #[.int .i64 0] 3) := ⟨_, rfl⟩
  have hb2 : Below w.heap.size w W2 := by rw [hW2]; exact ((Below.refl _ w).alloc (Nat.le_refl _) _).alloc (by simp) _
  have hsp2 : W2.heap[sp]? = some (.cells #[.pointer (some ⟨sb, 0, none⟩)] 72 (0, 0)) := by rw [hW2, hsp]; exact alloc_at (heap_alloc_new w _)
  have hfb2 : W2.heap[sp + 1]? = some (.cells #[.int .i64 0] 3 (0, 0)) := by
    rw [hW2, hsp]
    have := heap_alloc_new (w.alloc (.cells #[.pointer (some ⟨sb, 0, none⟩)] 72)) (.cells #[.int .i64 0] 3)
    rwa [World.size_alloc] at this
  rw [← hW2, ← hsp]
  have HB2 := Lib.hid hb2
  have HSP := Lib.hid hsp
  have SP2 := Lib.hid hsp2
  have FB2 := Lib.hid hfb2
  clear hW2 hb2 hsp hsp2 hfb2
  have hbox := met_old H.out.box HB2.out
  refine (within_any (p := p) (cap := cap) (sb := sb) (s := s) (fk := 66) (caps := #[.pointer (some ⟨sp, 0, none⟩), .pointer (some ⟨sp + 1, 0, none⟩)]) false (fun j => j = sp + 1)
    (fun c s2 w2 => c = 0 ∧ w2.heap[sp + 1]? = some (.cells #[.int .i64 (p.pages - 2 : Nat)] 3 (0, 0)) ∧ pst s2 = ⟨(pst s).F, (pst s).u + 16⟩) W2 (H.out.qm.below HB2.out) (by have := H.out.low; have := HK.out; omega) (by have := H.out.low; have := HK.out; omega) (by have := H.out.low; have := HK.out; omega) HK.out.2.2 hbox (by decide) (fun e => by have h1 := (Array.getElem?_eq_some_iff.1 H.out.box).1; have := HSP.out; omega) (fun j hj => by have := H.out.qm.base; have := HSP.out; omega) (fun w1 s1 hm1 hp1 ht1 hn1 hs1 => ?_)).mono ?_
  · show Calls _ _ #[.int .i64 (s.last + 1 : Nat), .pointer (some ⟨sp, 0, none⟩), .pointer (some ⟨sp + 1, 0, none⟩)] _ _
    have hkp := fun (j : Nat) (cs : Array Value) (t : TypeId) (h1 : W2.heap[j]? = some (.cells cs t (0, 0))) (h2 : FreeM t) => (H.out.qm.below HB2.out).mr.keep hs1 h1 h2
    have hF : (pst s1).F = (pst s).F := by rw [hp1]
    refine (free1_any (p := gp p s) (fb := sp + 1) ⟨1, 2, 0, 1⟩ [] w1 hm1 (by have := H.out.low; have := HK.out; show s1.t + 0 ≤ _; omega) (by rw [hF]; exact H.out.f0) (met0_ok HP.out) rfl (fun k hk => by cases hk) (by show 0 < 2; omega) (hkp _ _ _ hbox (by decide)) (hkp _ _ _ SP2.out (by decide)) ⟨0, hkp _ _ _ FB2.out (by decide)⟩ (by rw [hn1]; have := H.out.qm.base; have := HSP.out; omega)).mono ?_
    rintro e w2 ⟨s2, rfl, hfb, hm2, hp2, ht2, wm, hs2, hu2⟩
    exact ⟨0, s2, wm, rfl, ⟨rfl, hfb, hp2.trans hp1⟩, hm2, by have : ([] : List Nat).length = 0 := rfl; omega, hs2.unghost, hu2⟩
  · rintro e w3 ⟨c, s2, w2, s', rfl, ⟨rfl, hfb, hp2⟩, hq, hC, hx, ht, hl, hB, hbl, hk1, hk2⟩
    have F3 := Lib.hid (hk2 _ _ _ hfb (by decide))
    have HE : Hid (Empty p cap sb Z w3 s' (k + 1)) := Lib.hid ⟨hq, hk1 _ _ _ hbox (by decide) (fun e => by have h1 := (Array.getElem?_eq_some_iff.1 H.out.box).1; have := HSP.out; omega), by rw [hC, if_neg (by simp)]; exact H.out.f0, by rw [hC, if_neg (by simp)]; exact H.out.f1, by
      have hu : (pst s2).u = s.L.xs.length + 16 := by rw [hp2]; show (pst s).u + 16 = _; rw [H.out.qm.u]
      have := H.out.low
      omega, hB.trans H.out.zone⟩
    have HBL : Hid (Below Z w w3) := Lib.hid ((HB2.out.mono (by rw [← H.out.zone]; exact H.out.qm.base)).trans (by have := hbl; rw [H.out.zone] at this; exact this))
    have kf : w3.cell? ⟨sp + 1, 0, none⟩ = some (.int .i64 (p.pages - 2 : Nat)) := by simp [World.cell?, F3.out]
    have hlf := cell_lt kf
    clear hq hC hx ht hl hB hbl hk1 hk2 hfb hp2 hbox
    go_wp2
    go_returns
    exact ⟨s', rfl, HE.out, HBL.out⟩
set_option maxRecDepth 20000 in
set_option maxHeartbeats 2000000 in
theorem stKeys_any {p : Par} {cap sb k Z : Nat} {s : ASt} (w : World) (h : Empty p cap sb Z w s k) (hk : k ≤ 5) (hcap : 2000 ≤ cap ∧ cap ≤ 458752) (hp : 2 ≤ p.pages) :
    Calls Tryz.prog 22 #[.pointer (some ⟨sb, 0, none⟩)] w fun e w' => ∃ s', e = .returned (.tuple #[.slice none 0 0, .int .i64 0]) ∧ Empty p cap sb Z w' s' (k + 1) ∧ Below Z w w' := by
  have H := Lib.hid h
  have HK := Lib.hid (And.intro hk hcap)
  have HP := Lib.hid hp
  clear h hk hcap hp
  go_enter Tryz.func22, Tryz.ntmps22
  go_wp2_with fail
  obtain ⟨sp, hsp⟩ : ∃ sp, sp = w.heap.size := ⟨_, rfl⟩
  obtain ⟨W2, hW2⟩ : ∃ W, W = (w.alloc (.cells #[.pointer (some ⟨sb, 0, none⟩)] 72)).alloc (.cells #[.slice none 0 0] 79) := ⟨_, rfl⟩
  have hb2 : Below w.heap.size w W2 := by rw [hW2]; exact ((Below.refl _ w).alloc (Nat.le_refl _) _).alloc (by simp) _
  have hsp2 : W2.heap[sp]? = some (.cells #[.pointer (some ⟨sb, 0, none⟩)] 72 (0, 0)) := by rw [hW2, hsp]; exact alloc_at (heap_alloc_new w _)
  have hfb2 : W2.heap[sp + 1]? = some (.cells #[.slice none 0 0] 79 (0, 0)) := by
    rw [hW2, hsp]
    have := heap_alloc_new (w.alloc (.cells #[.pointer (some ⟨sb, 0, none⟩)] 72)) (.cells #[.slice none 0 0] 79)
    rwa [World.size_alloc] at this
  rw [← hW2, ← hsp]
  have HB2 := Lib.hid hb2
  have HSP := Lib.hid hsp
  have SP2 := Lib.hid hsp2
  have FB2 := Lib.hid hfb2
  clear hW2 hb2 hsp hsp2 hfb2
  have hbox := met_old H.out.box HB2.out
  refine (within_any (p := p) (cap := cap) (sb := sb) (s := s) (fk := 65) (caps := #[.pointer (some ⟨sp, 0, none⟩), .pointer (some ⟨sp + 1, 0, none⟩)]) false (fun _ => False)
    (fun c s2 w2 => c = 0 ∧ pst s2 = ⟨(pst s).F, (pst s).u + 16⟩) W2 (H.out.qm.below HB2.out) (by have := H.out.low; have := HK.out; omega) (by have := H.out.low; have := HK.out; omega) (by have := H.out.low; have := HK.out; omega) HK.out.2.2 hbox (by decide) (fun e => e) (fun j hj => hj.elim) (fun w1 s1 hm1 hp1 ht1 hn1 hs1 => ?_)).mono ?_
  · show Calls _ _ #[.int .i64 (s.last + 1 : Nat), .pointer (some ⟨sp, 0, none⟩), .pointer (some ⟨sp + 1, 0, none⟩)] _ _
    have hkp := fun (j : Nat) (cs : Array Value) (t : TypeId) (h1 : W2.heap[j]? = some (.cells cs t (0, 0))) (h2 : FreeM t) => (H.out.qm.below HB2.out).mr.keep hs1 h1 h2
    have hF : (pst s1).F = (pst s).F := by rw [hp1]
    refine (keys1_any (p := gp p s) tr0 ⟨1, 2, 0, 1⟩ w1 hm1 (by have := H.out.low; have := HK.out; show s1.t + 1 + 1 ≤ _; omega) (by rw [hF]; exact H.out.f0) (met0_ok HP.out) rfl rfl (by rw [hF]; exact tr0_holds HP.out H.out.f1) ⟨List.Pairwise.nil, fun x hx => by cases hx⟩ rfl (hkp _ _ _ hbox (by decide)) (hkp _ _ _ SP2.out (by decide))).mono ?_
    rintro e w2 ⟨s2, rfl, hm2, hp2, ht2, hs2⟩
    exact ⟨0, s2, w2, rfl, ⟨rfl, hp2.trans hp1⟩, hm2, by have : tr0.nds.length = 1 := rfl; omega, hs2.unghost, Upd.refl _ _⟩
  · rintro e w3 ⟨c, s2, w2, s', rfl, ⟨rfl, hp2⟩, hq, hC, hx, ht, hl, hB, hbl, hk1, hk2⟩
    have F3 := Lib.hid (hk1 _ _ _ FB2.out (by decide) (fun e => e))
    have HE : Hid (Empty p cap sb Z w3 s' (k + 1)) := Lib.hid ⟨hq, hk1 _ _ _ hbox (by decide) (fun e => e), by rw [hC, if_neg (by simp)]; exact H.out.f0, by rw [hC, if_neg (by simp)]; exact H.out.f1, by
      have hu : (pst s2).u = s.L.xs.length + 16 := by rw [hp2]; show (pst s).u + 16 = _; rw [H.out.qm.u]
      have := H.out.low
      omega, hB.trans H.out.zone⟩
    have HBL : Hid (Below Z w w3) := Lib.hid ((HB2.out.mono (by rw [← H.out.zone]; exact H.out.qm.base)).trans (by have := hbl; rw [H.out.zone] at this; exact this))
    have kf : w3.cell? ⟨sp + 1, 0, none⟩ = some (.slice none 0 0) := by simp [World.cell?, F3.out]
    have hlf := cell_lt kf
    clear hq hC hx ht hl hB hbl hk1 hk2 hp2 hbox
    go_wp2
    go_returns
    exact ⟨s', rfl, HE.out, HBL.out⟩
set_option maxRecDepth 20000 in
set_option maxHeartbeats 2000000 in
theorem storeRoom_none (w : World) (hT : Halves w) (hg : 0 < w.heap.size) :
    Calls Tryz.prog 7 #[.slice none 0 0] w fun e w' => e = .returned (.bool true) ∧ Below w.heap.size w w' := by
  have HT := Lib.hid hT
  have HG := Lib.hid hg
  clear hT hg
  go_enter Tryz.func7, Tryz.ntmps7
  go_wp2_with fail
  refine (diskNew_any 300 _ (by omega) (by omega)).mono ?_
  rintro e w1 ⟨bd, rfl, hbd, hbl, hD, hb1⟩
  have HD := Lib.hid (hD (z0 w.heap.size) (Nat.le_refl _) (fun k h => h.elim) (fun k h => h.elim))
  have HB1 := Lib.hid hb1
  clear hD hb1 hbd hbl
  go_wp2_with fail
  refine (storeOpen_any (logs := 200) (pages := 100) (n := 300) w1 HD.out HB1.out.size (HT.out.below HB1.out) HG.out (by omega) (by omega) (by omega)).mono ?_
  rintro e w2 ⟨p, sb, s, rfl, he, hp, hb2⟩
  have HB2 := Lib.hid (HB1.out.trans hb2)
  have HE := Lib.hid he
  have HP := Lib.hid hp
  clear he hp hb2
  go_wp2_with fail
  refine (stFree_any w2 HE.out (by omega) (by omega) (by rw [HP.out]; omega)).mono ?_
  rintro e w3 ⟨s3, rfl, he3, hb3⟩
  have HB3 := Lib.hid (HB2.out.trans hb3)
  rw [HP.out]
  have HE3 := Lib.hid he3
  clear he3 hb3
  go_wp2
  refine wp_loop_rounds 1 ?_
  rw [rounds_succ]
  go_wp2_with fail
  refine (stKeys_any w3 HE3.out (by omega) (by omega) (by rw [HP.out]; omega)).mono ?_
  rintro e w4 ⟨s4, rfl, he4, hb4⟩
  have HB4 := Lib.hid (HB3.out.trans hb4)
  have HE4 := Lib.hid he4
  clear he4 hb4
  go_wp2
  refine wp_loop_rounds 1 ?_
  rw [rounds_succ]
  go_wp2_with fail
  refine (stFree_any w4 HE4.out (by omega) (by omega) (by rw [HP.out]; omega)).mono ?_
  rintro e w5 ⟨s5, rfl, he5, hb5⟩
  have HB5 := Lib.hid (HB4.out.trans hb5)
  clear he5 hb5
  rw [HP.out]
  go_wp2
  go_ret
  exact ⟨rfl, HB5.out⟩
end Go.Proofs.YtheeomjfpnijbaaGreatDoor
end

section
namespace Go.Proofs.YtheeomjfpnijbaaGreatDoor
open Go.RowKit Go.Shelf
set_option linter.unusedVariables false

theorem sto_cells (w : World) (k : Nat) (hk : k < 2) : ∃ p : Option Addr, ((w.alloc (.cells #[.pointer none] 74)).alloc (.cells #[.pointer none, .pointer (some ⟨w.heap.size, 0, none⟩)] 72)).cell? ⟨w.heap.size + 1, k, none⟩ = some (.pointer p) ∧
    NoStore ((w.alloc (.cells #[.pointer none] 74)).alloc (.cells #[.pointer none, .pointer (some ⟨w.heap.size, 0, none⟩)] 72)) p := by
  obtain ⟨W, hW⟩ : ∃ W, W = w.alloc (.cells #[.pointer none] 74) := ⟨_, rfl⟩
  have hs : W.heap.size = w.heap.size + 1 := by rw [hW]; simp
  have hc : W.cell? ⟨w.heap.size, 0, none⟩ = some (.pointer none) := by rw [hW]; exact cellNew rfl
  rw [← hW]
  have e : ∀ j v, (#[Value.pointer none, .pointer (some ⟨w.heap.size, 0, none⟩)] : Array Value)[j]? = some v → (W.alloc (.cells #[.pointer none, .pointer (some ⟨w.heap.size, 0, none⟩)] 72)).cell? ⟨w.heap.size + 1, j, none⟩ = some v := fun j v h => by
    have := cellNew (w := W) (t := 72) h
    rw [hs] at this
    exact this
  rcases (show k = 0 ∨ k = 1 by omega) with rfl | rfl
  · exact ⟨none, e 0 _ rfl, .inl rfl⟩
  · have hb : Below W.heap.size W (W.alloc (.cells #[.pointer none, .pointer (some ⟨w.heap.size, 0, none⟩)] 72)) := (Below.refl _ _).alloc (Nat.le_refl _) _
    exact ⟨some ⟨w.heap.size, 0, none⟩, e 1 _ rfl, .inr ⟨w.heap.size, rfl, keepC hb hc⟩⟩
set_option maxHeartbeats 4000000 in
set_option maxRecDepth 20000 in
theorem storeNobody_walk (key : ByteArray) (w : World) (hT : Halves w) (hg : 0 < w.heap.size) :
    Calls Tryz.prog 6 #[.string key] w fun e w' => e = .returned (.bool true) ∧ Below w.heap.size w w' := by
  have HT := Lib.hid hT
  have HG := Lib.hid hg
  have HC := Lib.hid (sto_cells w)
  have HB1 : Hid (Below w.heap.size w ((w.alloc (.cells #[.pointer none] 74)).alloc (.cells #[.pointer none, .pointer (some ⟨w.heap.size, 0, none⟩)] 72))) := Lib.hid (((Below.refl _ w).alloc (Nat.le_refl _) _).alloc (by simp) _)
  clear hT hg
  go_enter Tryz.func6, Tryz.ntmps6
  go_wp2_with fail
  generalize (w.alloc (.cells #[.pointer none] 74)).alloc (.cells #[.pointer none, .pointer (some ⟨w.heap.size, 0, none⟩)] 72) = W1 at HC HB1 ⊢
  go_loopw [19] (fun i wr => ∃ k : Nat, k ≤ 2 ∧ i = .int .i64 k ∧ Hid (Below W1.heap.size W1 wr)) (fun i _ => 2 - (intOf i).toNat)
  case atStart => exact ⟨0, by omega, rfl, Lib.hid (Below.refl _ _)⟩
  case round =>
    obtain ⟨k, hk, rfl, HB⟩ := hrel
    by_cases hlt : k < 2
    · obtain ⟨p, kp, np⟩ := HC.out k hlt
      have kp' := keepC HB.out kp
      have NP := Lib.hid (np.below HB.out)
      clear kp np
      have hki : (k : Int) < 2 := by omega
      go_wp2_with fail
      refine (stGet_none p _ ⟨key, rfl⟩ _ NP.out).mono ?_
      rintro e w1 ⟨rfl, hb1⟩
      have HB2 := Lib.hid hb1
      have NP1 := Lib.hid (NP.out.below hb1)
      clear hb1
      go_wp2_with fail
      refine (stKeys_none p _ NP1.out).mono ?_
      rintro e w2 ⟨rfl, hb2⟩
      have HB3 := Lib.hid (chainC HB2.out hb2)
      have NP2 := Lib.hid (NP1.out.below hb2)
      clear hb2
      go_wp2_with fail
      refine (stFree_none p _ NP2.out).mono ?_
      rintro e w3 ⟨rfl, hb3⟩
      have HB4 := Lib.hid (chainC HB3.out hb3)
      have NP3 := Lib.hid (NP2.out.below hb3)
      clear hb3
      go_wp2_with fail
      refine (stBatch_none p _ NP3.out).mono ?_
      rintro e w4 ⟨rfl, hb4⟩
      have HB5 := Lib.hid (chainC HB4.out hb4)
      have NP4 := Lib.hid (NP3.out.below hb4)
      clear hb4
      go_wp2_with fail
      refine (stCheck_none p _ NP4.out).mono ?_
      rintro e w5 ⟨rfl, rfl⟩
      go_wp2_with fail
      go_roundw
      case rel => exact ⟨k + 1, by omega, by congr 1, Lib.hid (chainC HB.out HB5.out)⟩
      case measure => simp [intOf]; omega
    · obtain rfl : k = 2 := by omega
      go_wp2_with fail
      have HC2 := Lib.hid (dsk_cells wr)
      have HB2 : Hid (Below wr.heap.size wr ((wr.alloc (.cells #[.slice none 0 0, .slice none 0 0] 90)).alloc (.cells #[.pointer none, .pointer (some ⟨wr.heap.size, 0, none⟩)] 34))) := Lib.hid (((Below.refl _ wr).alloc (Nat.le_refl _) _).alloc (by simp) _)
      generalize (wr.alloc (.cells #[.slice none 0 0, .slice none 0 0] 90)).alloc (.cells #[.pointer none, .pointer (some ⟨wr.heap.size, 0, none⟩)] 34) = W2 at HC2 HB2 ⊢
      have HW2 : Hid (Below w.heap.size w W2) := Lib.hid (HB1.out.trans ((HB.out.mono HB1.out.size).trans (HB2.out.mono (Nat.le_trans HB1.out.size HB.out.size))))
      go_loopw [74] (fun i wr => ∃ k : Nat, k ≤ 2 ∧ i = .int .i64 k ∧ Hid (Below W2.heap.size W2 wr)) (fun i _ => 2 - (intOf i).toNat)
      case atStart => exact ⟨0, by omega, rfl, Lib.hid (Below.refl _ _)⟩
      case round =>
        obtain ⟨k, hk, rfl, HBr⟩ := hrel
        by_cases hlt : k < 2
        · obtain ⟨p, kp0, np⟩ := HC2.out k hlt
          have kp := keepC HBr.out kp0
          have NP := Lib.hid (noDisk_below np HBr.out)
          clear np kp0
          have hki : (k : Int) < 2 := by omega
          go_wp2_with fail
          refine (stOpen_none p _ _ _ NP.out).mono ?_
          rintro e w3 ⟨rfl, hb3⟩
          have HB3 := Lib.hid (chainC HBr.out hb3)
          clear hb3
          go_wp2_with fail
          go_roundw
          case rel =>
            first
              | exact ⟨k + 1, by omega, by congr 1, HB3⟩
              | (refine ⟨_, _, _, _, _, _, _, _, _, _, _, _, _, _, _, _, _, _, _, _, ⟨k + 1, by omega, ?_, HB3⟩, rfl⟩; first | rfl | congr 1)
          case measure => simp [intOf]; omega
        · obtain rfl : k = 2 := by omega
          go_wp2_with fail
          have HW3 : Hid (Below w.heap.size w _) := Lib.hid (HW2.out.trans (HBr.out.mono HW2.out.size))
          refine (storeRoom_none _ (HT.out.below HW3.out) (by have := HG.out; have := HW3.out.size; omega)).mono ?_
          rintro e w3 ⟨rfl, hb⟩
          have HB3 := Lib.hid (HW3.out.trans (hb.mono HW3.out.size))
          clear hb
          go_wp2
          go_ret
          exact ⟨rfl, HB3.out⟩
end Go.Proofs.YtheeomjfpnijbaaGreatDoor
end
