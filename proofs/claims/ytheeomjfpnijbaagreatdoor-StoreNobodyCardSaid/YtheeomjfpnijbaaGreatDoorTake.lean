/- A transaction is taken back: Manager.takeBack. -/
import Derived.Test.YtheeomjfpnijbaaGreatDoorWriteM
namespace Go.Proofs.YtheeomjfpnijbaaGreatDoor
open Go.RowKit Go.Shelf
set_option linter.unusedVariables false

theorem back_le {r : Rec} (h : RecOk r) (hk : r.kind = 2) : (textV (encR r)).length ≤ 160 := by
  have h1 := varN_length 6 r.tx (by have := h.tx; omega) (by omega)
  have h2 := varN_length 2 r.page (by have := h.page; omega) (by omega)
  have h3 := varN_length 1 r.off (by have := h.off; omega) (by omega)
  have h5 := varN_length 1 r.behind.size (by have := h.behind; omega) (by omega)
  have h6 := varN_length 9 r.undone (by have := h.undone; omega) (by omega)
  have h8 := strB_length r.behind
  have h10 := h.behind
  have h0 : (encR r).length ≤ 132 := by
    unfold encR
    rw [if_neg (by omega), if_pos hk]
    simp only [List.length_append, List.length_cons, List.length_nil]
    omega
  have := textV_le (xs := encR r) (by omega)
  omega
theorem short_le {r : Rec} (h : RecOk r) (hk : r.kind = 3 ∨ r.kind = 4) : (textV (encR r)).length ≤ 16 := by
  have h1 := varN_length 6 r.tx (by have := h.tx; omega) (by omega)
  have h0 : (encR r).length ≤ 7 := by
    unfold encR
    rw [if_neg (by omega), if_neg (by omega)]
    simp only [List.length_append, List.length_cons, List.length_nil]
    omega
  have := textV_le (xs := encR r) (by omega)
  omega
theorem undoAll_drop {us : List Rec} {k : Nat} {r : Rec} (h : us[k]? = some r) (P : Int → List UInt8) : undoAll (us.drop k) P = undo1 r (undoAll (us.drop (k + 1)) P) := by
  have hk := (List.getElem?_eq_some_iff.1 h).1
  have he := (List.getElem?_eq_some_iff.1 h).2
  rw [List.drop_eq_getElem_cons hk, he]
  rfl
section
variable {k : Int} {p : Par} {w w' : World} {s : ASt}
theorem getM_any (k : Int) (p : Par) (s : ASt) (n : Nat) (w : World) (h : MR k p w s) (ht : s.t ≤ 900000) (hn : n < p.pages) :
    Calls Tryz.prog 144 #[.pointer (some ⟨p.bp, 0, none⟩), .int .i64 n] w fun e w' => ∃ (q : Option Addr) (d l : Nat) (s' : ASt), e = .returned (.tuple #[.slice q 112 d, .int .i64 l, .int .i64 0]) ∧ MR k p w' s' ∧ Like s s' 1 ∧ Upd (FS s.N p.bm w) w w' ∧ Step p s.N w s'.N w' := by
  refine (get_any _ (n : Int) h.run (by omega) (by omega) (by have := h.cnt; omega) (by have := h.cnt; omega)).mono ?_
  rintro e w3 (⟨rfl, q1, q2, -⟩ | ⟨q, d, clock', c', M', D', L', rfl, ho, hp, hg⟩)
  · exact absurd (no_pins h.run.pool.nodup h.pins q1) q2
  · obtain ⟨s3, hm3, hl3, hs3⟩ := h.got hp hg
    exact ⟨q, d, _, s3, rfl, hm3, hl3, hg.upd, hs3⟩
end
def sliceN (w : World) (b : Nat) : Nat := match w.cell? ⟨b, 0, none⟩ with | some (.slice _ n _) => n | _ => 0
/-- What taking back has left of a manager. -/
structure Taken (s s' : ASt) (tx : Nat) (t : Tx) (j : Nat) (t' : Tx) : Prop where
  C : ∀ n, (s'.C n).2 = undoAll (t.us.drop j) (fun n => (s.C n).2) n
  A : s'.A = setA s.A tx t'
  same : t'.blk = t.blk ∧ t'.us = t.us.take j
  sect : s'.L.sectors = s.L.sectors
  xs : s'.L.xs.length ≤ s.L.xs.length + 160 * (t.us.length - j)
  last : s'.last = s.last ∨ s'.last = max s.last tx
  t : s'.t ≤ s.t + 8 * (t.us.length - j)
theorem setA_self {A : List (Int × Tx)} (hn : (A.map (·.1)).Nodup) {tx : Int} {t : Tx} (hm : (tx, t) ∈ A) : setA A tx t = A := by
  unfold setA
  have : A.map (fun x => if x.1 = tx then (tx, t) else x) = A.map id := List.map_congr_left fun x hx => by
    simp only [id]
    split
    · rename_i h
      obtain ⟨x1, x2⟩ := x
      simp only at h
      subst h
      rw [one_tx hn hm hx]
    · rfl
  rw [this, List.map_id]
theorem setA_twice (A : List (Int × Tx)) (tx : Int) (t1 t2 : Tx) : setA (setA A tx t1) tx t2 = setA A tx t2 := by
  unfold setA
  rw [List.map_map]
  refine List.map_congr_left fun x _ => ?_
  simp only [Function.comp_apply]
  by_cases h : x.1 = tx <;> simp [h]
theorem mem_setA_self {A : List (Int × Tx)} {tx : Int} {t t' : Tx} (hm : (tx, t) ∈ A) : (tx, t') ∈ setA A tx t' := by
  unfold setA
  exact List.mem_map.2 ⟨(tx, t), hm, by simp⟩
theorem sliceN_of {w : World} {b n c : Nat} {q : Option Addr} {t : TypeId} (h : w.heap[b]? = some (.cells #[.slice q n c] t (0, 0))) : sliceN w b = n := by
  have : w.cell? ⟨b, 0, none⟩ = some (.slice q n c) := by simp [World.cell?, h]
  unfold sliceN
  rw [this]
theorem flat_take (l : List Rec) (k : Nat) : (l.flatMap recCells).take (k * 8) = (l.take k).flatMap recCells := by
  induction l generalizing k with
  | nil => simp
  | cons x l ih =>
    cases k with
    | zero => simp
    | succ k =>
      rw [List.flatMap_cons, List.take_succ_cons, List.flatMap_cons, show (k + 1) * 8 = (recCells x).length + k * 8 by rw [recCells_length]; omega, List.take_length_add_append, ih]
def TakeQ (p : Par) (s : ASt) (tx : Nat) (t : Tx) (w : World) (e : Ending) (w' : World) : Prop :=
  e = .returned (.int .i64 0) ∧ ∃ s' t', MR 1 p w' s' ∧ (∀ n, (s'.C n).2 = undoAll t.us (fun n => (s.C n).2) n) ∧ s'.A = setA s.A tx t' ∧ t'.us = [] ∧ t'.blk = t.blk ∧ s'.L.sectors = s.L.sectors ∧ s'.L.xs.length ≤ s.L.xs.length + 160 * t.us.length + 16 ∧ s'.last = max s.last tx ∧ s'.t ≤ s.t + 8 * t.us.length + 1 ∧ Step p s.N w s'.N w'
set_option maxRecDepth 20000 in
set_option maxHeartbeats 4000000 in
theorem takeBack_any (p : Par) (s : ASt) (tx : Nat) (t : Tx) (w : World) (h : MR 1 p w s) (hm : ((tx : Int), t) ∈ s.A) (ht : s.t + 8 * t.us.length ≤ 800000) (hroom : 160 * t.us.length + 16 + s.L.xs.length ≤ s.L.sectors * 112) (hpg : p.pages ≤ 4096) :
    Calls Tryz.prog 153 #[.pointer (some ⟨p.bg, 0, none⟩), .int .i64 tx, .pointer (some ⟨t.blk, 0, none⟩)] w (TakeQ p s tx t w) := by
  obtain ⟨blk, row, us⟩ := t
  have hx := h.txs _ hm
  obtain ⟨L, hL⟩ : ∃ L, L = us.length := ⟨_, rfl⟩
  have hrow := hx.row
  simp only at hrow hroom ht
  rw [← hL] at hrow hroom ht
  obtain ⟨q, c, rfl⟩ := own_zero hrow
  have H := Lib.hid h
  have HM := Lib.hid hm
  have HT := Lib.hid ht
  have HRM := Lib.hid hroom
  have HPG := Lib.hid hpg
  have HL := Lib.hid hL
  have HKE : Hid (1 ≤ (tx : Int) ∧ (tx : Int) ≤ 1099511627776) := Lib.hid (h.keys _ hm)
  clear h hm ht hroom hpg hx hrow hL
  go_enter Tryz.func153, Tryz.ntmps153
  go_wp2_with fail
  go_loopw [7] (fun _ wr => ∃ (j : Nat) (sj : ASt), j ≤ L ∧ Hid (MR 1 p wr sj ∧ Taken s sj tx ⟨blk, .slice q L c, us⟩ j ⟨blk, .slice q j c, us.take j⟩ ∧ Step p s.N w sj.N wr)) (fun _ wr => sliceN wr blk)
  case atStart => exact ⟨L, s, Nat.le_refl _, Lib.hid ⟨H.out, ⟨fun n => by show _ = undoAll (us.drop L) _ n; rw [HL.out, List.drop_length]; rfl, by rw [HL.out, List.take_length, ← HL.out]; exact (setA_self H.out.nodup HM.out).symm, ⟨rfl, rfl⟩, rfl, Nat.le_add_right _ _, .inl rfl, Nat.le_add_right _ _⟩, Step.refl _ _ _⟩⟩
  case round =>
    obtain ⟨j, sj, hj, HJ⟩ := hrel
    have HMJ : Hid (((tx : Int), (⟨blk, .slice q j c, us.take j⟩ : Tx)) ∈ sj.A) := Lib.hid (by rw [HJ.out.2.1.A]; exact mem_setA_self HM.out)
    obtain ⟨ht1, ht2⟩ := HJ.out.1.txs _ HMJ.out
    simp only at ht1 ht2
    have htl : (us.take j).length = j := by rw [List.length_take, ← HL.out]; omega
    rw [htl] at ht2
    have k0 : wr.cell? ⟨blk, 0, none⟩ = some (.slice q j c) := by simp [World.cell?, ht1]
    have hbl := cell_lt k0
    obtain ⟨-, k2, -, -, -, -, -, hlt⟩ := HJ.out.1.load
    have HT1 := Lib.hid ht1
    have HTL := Lib.hid htl
    rcases Nat.eq_zero_or_pos j with rfl | hpos
    · have HROK : Hid (RecOk ⟨4, tx, 0, 0, ⟨#[]⟩, ⟨#[]⟩, 0, 0⟩) := Lib.hid ⟨by have h1 := HKE.out; show tx ≤ _; omega, by simp, by simp, by simp [ByteArray.size], by simp [ByteArray.size], by simp⟩
      go_wp2_with fail
      refine (add_any 1 p sj ⟨4, tx, 0, 0, ⟨#[]⟩, ⟨#[]⟩, 0, 0⟩ _ HJ.out.1 (by have h1 : sj.t ≤ s.t + 8 * (us.length - 0) := HJ.out.2.1.t; have h2 := HT.out; rw [← HL.out] at h1; omega) ⟨by show 1 ≤ 4; omega, Nat.le_refl 4⟩ HROK.out).mono ?_
      rintro e w4 (⟨hf, -, -, -⟩ | ⟨hf, s4, rfl, hm4, ha4, hs4, hu4⟩)
      · exfalso
        have h1 := short_le HROK.out (.inr rfl)
        have h2 : sj.L.xs.length ≤ s.L.xs.length + 160 * (us.length - 0) := HJ.out.2.1.xs
        have h3 := HRM.out
        have h4 := HJ.out.2.1.sect
        rw [← HL.out] at h2
        rw [h4] at hf
        omega
      · have HM4 := Lib.hid hm4
        have HA4 := Lib.hid ha4
        have HS4 := Lib.hid hs4
        clear hf hm4 ha4 hs4 hu4 k0 k2
        go_wp2_with fail
        go_ret
        have tj := HJ.out.2.1
        have a4 := HA4.out
        refine ⟨rfl, s4, ⟨blk, .slice q 0 c, us.take 0⟩, HM4.out, fun n => ?_, by rw [a4.A, tj.A], by simp, rfl, by rw [a4.log.2.1, tj.sect], ?_, ?_, ?_, HJ.out.2.2.trans HS4.out⟩
        · rw [a4.C, tj.C n]
          rfl
        · show s4.L.xs.length ≤ s.L.xs.length + 160 * us.length + 16
          have h1 := short_le HROK.out (.inr rfl)
          have h2 : sj.L.xs.length ≤ s.L.xs.length + 160 * (us.length - 0) := tj.xs
          rw [a4.log.2.2, List.length_append]
          omega
        · rw [a4.last]
          show max sj.last tx = _
          rcases tj.last with e | e <;> rw [e]
          omega
        · show s4.t ≤ s.t + 8 * us.length + 1
          have h1 : sj.t ≤ s.t + 8 * (us.length - 0) := tj.t
          rw [a4.t]
          omega
    · obtain ⟨i, rfl⟩ : ∃ i, j = i + 1 := ⟨j - 1, by omega⟩
      obtain ⟨g, u, rfl, hu, hgt, hgc⟩ := rec_cells htl ht2 (show i < i + 1 by omega)
      have hu' : us[i]? = some u := by rw [List.getElem?_take_of_lt (by omega)] at hu; exact hu
      have c0 : wr.cell? ⟨g, i * 8, none⟩ = some (.int .i64 u.kind) := hgc 0 _ rfl
      have c1 : wr.cell? ⟨g, i * 8 + 1, none⟩ = some (.int .i64 u.tx) := hgc 1 _ rfl
      have c2 : wr.cell? ⟨g, i * 8 + 2, none⟩ = some (.int .i64 u.page) := hgc 2 _ rfl
      have c3 : wr.cell? ⟨g, i * 8 + 3, none⟩ = some (.int .i64 u.off) := hgc 3 _ rfl
      have c4 : wr.cell? ⟨g, i * 8 + 4, none⟩ = some (.string u.ahead) := hgc 4 _ rfl
      have c5 : wr.cell? ⟨g, i * 8 + 5, none⟩ = some (.string u.behind) := hgc 5 _ rfl
      have c6 : wr.cell? ⟨g, i * 8 + 6, none⟩ = some (.int .i64 u.undone) := hgc 6 _ rfl
      have c7 : wr.cell? ⟨g, i * 8 + 7, none⟩ = some (.int .i64 u.lsn) := hgc 7 _ rfl
      have HU := Lib.hid hu'
      have HUO := Lib.hid (HJ.out.1.ups _ HMJ.out u (List.mem_of_getElem? hu))
      have hjL : i + 1 ≤ 100000 := by have := HT.out; omega
      have hil : (i : Int) < ((i + 1 : Nat) : Int) := by omega
      clear ht1 ht2 htl hgc hu hu'
      go_upto_region 4 with fail
      clear c0 c1 c2 c3 c4 c5 c6 c7
      obtain ⟨W, hW⟩ : ∃ W, W = wr.alloc (.cells #[.int .i64 u.kind, .int .i64 u.tx, .int .i64 u.page, .int .i64 u.off, .string u.ahead, .string u.behind, .int .i64 u.undone, .int .i64 u.lsn] 218) := ⟨_, rfl⟩
      obtain ⟨b, hb⟩ : ∃ b, b = wr.heap.size := ⟨_, rfl⟩
      have HBW : Hid (Below wr.heap.size wr W) := Lib.hid (by rw [hW]; exact (Below.refl _ wr).alloc (Nat.le_refl _) _)
      have HHB : Hid (W.heap[b]? = some (.cells #[.int .i64 u.kind, .int .i64 u.tx, .int .i64 u.page, .int .i64 u.off, .string u.ahead, .string u.behind, .int .i64 u.undone, .int .i64 u.lsn] 218 (0, 0))) := Lib.hid (by rw [hW, hb]; exact heap_alloc_new _ _)
      rw [← hW, ← hb]
      have HB := Lib.hid hb
      have HMW := Lib.hid (HJ.out.1.below HBW.out)
      have kw : ∀ (j : Nat) (v : Value), (#[.int .i64 u.kind, .int .i64 u.tx, .int .i64 u.page, .int .i64 u.off, .string u.ahead, .string u.behind, .int .i64 u.undone, .int .i64 u.lsn] : Array Value)[j]? = some v → W.cell? ⟨b, j, none⟩ = some v := fun j v hv => by simp only [World.cell?, HHB.out]; simpa using hv
      have e2 := kw 2 _ rfl
      have kb2 := keepC HBW.out k2
      have hb2l := cell_lt kb2
      have hb3l := cell_lt e2
      have HMD := Lib.hid (HMW.out.below (Below.refl _ W).drew)
      clear hW hb kw k0 k2 hlt hbl
      have S0 : Hid (W.drew.cell? ⟨p.bg, 2, none⟩ = some (.pointer (some ⟨p.bp, 0, none⟩)) ∧ W.drew.cell? ⟨b, 2, none⟩ = some (.int .i64 u.page)) := Lib.hid ⟨kb2, e2⟩
      go_region_held3 (fun w' => w'.cell? ⟨p.bg, 2, none⟩ = some (.pointer (some ⟨p.bp, 0, none⟩)) ∧ w'.cell? ⟨b, 2, none⟩ = some (.int .i64 u.page))
        (first | exact S0.out | exact S3.out)
        (first
          | (go_at_call 144; refine (getM_any 1 p sj u.page _ HMD.out (by have h1 : sj.t ≤ s.t + 8 * (us.length - (i + 1)) := HJ.out.2.1.t; have h2 := HT.out; rw [← HL.out] at h1; omega) HUO.out.page).mono ?_; rintro e w3 ⟨q3, d3, l3, s3, rfl, hm3, hl3, hu3, hs3⟩; have HM3 := Lib.hid hm3; have HL3 := Lib.hid hl3; have HS3 := Lib.hid hs3; have hh3 := (hu3.block b hb3l (fun hf => HMD.out.not8 (.inr (.inr (.inr (by decide)))) _ hf ⟨_, HHB.out⟩)).trans HHB.out; have HH3 := Lib.hid hh3; have S3 : Hid (w3.cell? ⟨p.bg, 2, none⟩ = some (.pointer (some ⟨p.bp, 0, none⟩)) ∧ w3.cell? ⟨b, 2, none⟩ = some (.int .i64 u.page)) := Lib.hid ⟨hm3.load.2.1, (by simp [World.cell?, hh3])⟩; clear hm3 hl3 hs3 hu3 hh3))
      clear e2 kb2 hb2l hb3l S0 S3
      have k3 : ∀ (j : Nat) (v : Value), (#[.int .i64 u.kind, .int .i64 u.tx, .int .i64 u.page, .int .i64 u.off, .string u.ahead, .string u.behind, .int .i64 u.undone, .int .i64 u.lsn] : Array Value)[j]? = some v → w3.cell? ⟨b, j, none⟩ = some v := fun j v hv => by simp only [World.cell?, HH3.out]; simpa using hv
      have d2 := k3 2 _ rfl
      have d3' := k3 3 _ rfl
      have d4 := k3 4 _ rfl
      have d7 := k3 7 _ rfl
      have hb3 := cell_lt d2
      have HROK : Hid (RecOk ⟨2, tx, u.page, u.off, ⟨#[]⟩, u.ahead, u.lsn, 0⟩) := Lib.hid ⟨by have h1 := HKE.out; show tx ≤ _; omega, by show u.page ≤ _; have h1 := HUO.out.page; have h2 := HPG.out; omega, by show u.off ≤ _; have h1 := HUO.out.off; omega, by show (⟨#[]⟩ : ByteArray).size ≤ 112; simp [ByteArray.size], by show u.ahead.size ≤ _; have h1 := HUO.out.off; have h2 := HUO.out.len; omega, HUO.out.lsn.2⟩
      clear k3
      go_wp2_with fail
      refine (add_any 1 p s3 ⟨2, tx, u.page, u.off, ⟨#[]⟩, u.ahead, u.lsn, 0⟩ _ HM3.out (by have h1 : sj.t ≤ s.t + 8 * (us.length - (i + 1)) := HJ.out.2.1.t; have h2 := HT.out; have h3 := HL3.out.t; rw [← HL.out] at h1; omega) ⟨by show 1 ≤ 2; omega, by show 2 ≤ 4; omega⟩ HROK.out).mono ?_
      rintro e w4 (⟨hf, -, -, -⟩ | ⟨hf, s4, rfl, hm4, ha4, hs4, hu4⟩)
      · exfalso
        have h1 := back_le HROK.out rfl
        have h2 : sj.L.xs.length ≤ s.L.xs.length + 160 * (us.length - (i + 1)) := HJ.out.2.1.xs
        have h3 := HRM.out
        have h4 := HJ.out.2.1.sect
        rw [← HL.out] at h2
        rw [HL3.out.log.2.1, HL3.out.log.2.2, h4] at hf
        omega
      · have hgt : Typed w3 b 218 := ⟨_, HH3.out⟩
        have hng : ¬ (b = p.bg ∨ AT p.bl s3.L.sv b) := fun hj => by
          rcases hj with hj | hj
          · exact absurd (hgt.one (by rw [hj]; exact HM3.out.typed)) (by decide)
          · obtain ⟨-, ht | ⟨ht, -⟩⟩ := HM3.out.run.st.at_typed hj
            · exact absurd (hgt.one ht) (by decide)
            · exact absurd (hgt.one ht) (by decide)
        have h4 := (hu4.block b (Array.getElem?_eq_some_iff.1 HH3.out).1 hng).trans HH3.out
        obtain ⟨l, hl⟩ : ∃ l, l = s3.L.last + 1 := ⟨_, rfl⟩
        rw [← hl]
        have HLN := Lib.hid hl
        have HM4 := Lib.hid hm4
        have HA4 := Lib.hid ha4
        have HS4 := Lib.hid hs4
        have HH4 := Lib.hid h4
        have HMJ4 : Hid (((tx : Int), (⟨blk, .slice (some ⟨g, 0, none⟩) (i + 1) c, us.take (i + 1)⟩ : Tx)) ∈ s4.A) := Lib.hid (by rw [ha4.A, HL3.out.A]; exact HMJ.out)
        obtain ⟨t1, t2⟩ := hm4.txs _ HMJ4.out
        simp only at t1 t2
        rw [HTL.out] at t2
        have HT14 := Lib.hid t1
        have HT24 := Lib.hid (own_take t2 (Nat.le_succ i))
        have hcap : i + 1 ≤ c := by
          rcases t2.2 with ⟨e0, -⟩ | ⟨g', cap, cur, e0, -, -, h3, -⟩
          · cases e0
          · cases e0; exact h3
        have kb0 : w4.cell? ⟨blk, 0, none⟩ = some (.slice (some ⟨g, 0, none⟩) (i + 1) c) := by simp [World.cell?, t1]
        have fb0 : w4.frozen? ⟨blk, 0, none⟩ = false := frozenC t1
        have hbl4 := cell_lt kb0
        have hcn : ¬ c = 0 := by omega
        clear hf hm4 ha4 hs4 hu4 hgt hng h4 hl t1 t2 d2 d3' d4 d7
        go_upto_region 11 with fail
        have hbb : b ≠ blk := fun e => absurd (Typed.one ⟨_, HH4.out⟩ (by rw [e]; exact ⟨_, HT14.out⟩)) (by decide)
        have h5 := (heap_setCell_other w4 ⟨blk, 0, none⟩ b (.slice (some ⟨g, 0, none⟩) i c) hbb).trans HH4.out
        obtain ⟨m5, hs5⟩ := HM4.out.updated (row' := .slice (some ⟨g, 0, none⟩) i c) (us' := us.take i) (m := s4.t) HMJ4.out ((Upd.setC w4 blk 0 (.slice (some ⟨g, 0, none⟩) i c)).mono fun j _ hj => .inl hj) ((heap_setCell_same w4 blk 0 _ _ (.slice (some ⟨g, 0, none⟩) i c) HT14.out).trans rfl)
          (by
            have h1 : (us.take i).length = i := by rw [List.length_take, ← HL.out]; omega
            have h2 := own_upd HT24.out (Upd.setC w4 blk 0 (.slice (some ⟨g, 0, none⟩) i c)) (fun j hj hr => by subst hj; exact absurd (hr.one ⟨_, HT14.out⟩) (by decide))
            rw [flat_take, List.take_take, Nat.min_eq_left (Nat.le_succ i)] at h2
            rw [h1]
            exact h2) (.inl rfl) (fun r hr => HM4.out.ups _ HMJ4.out r (List.take_subset_take_left us (Nat.le_succ i) hr)) (by have h1 := HM4.out.ulen _ HMJ4.out; simp only [List.length_take] at h1 ⊢; omega) (Nat.le_refl _)
        obtain ⟨W5, hW5⟩ : ∃ W5, W5 = w4.setCell ⟨blk, 0, none⟩ (.slice (some ⟨g, 0, none⟩) i c) := ⟨_, rfl⟩
        rw [← hW5] at h5 m5 hs5 ⊢
        have HM5 := Lib.hid m5
        have HS5 := Lib.hid hs5
        have k5 : ∀ (j : Nat) (v : Value), (#[.int .i64 u.kind, .int .i64 u.tx, .int .i64 u.page, .int .i64 u.off, .string u.ahead, .string u.behind, .int .i64 u.undone, .int .i64 u.lsn] : Array Value)[j]? = some v → W5.cell? ⟨b, j, none⟩ = some v := fun j v hv => by simp only [World.cell?, h5]; simpa using hv
        have d2 := k5 2 _ rfl
        have d3' := k5 3 _ rfl
        have d4 := k5 4 _ rfl
        have hb5 := cell_lt d2
        clear h5 hW5 m5 hs5 k5 kb0 fb0 hbl4 hcn hcap hbb
        go_wp2_with fail
        refine (apply_any 1 p _ u.page u.off l u.ahead _ HM5.out (by have h1 : sj.t ≤ s.t + 8 * (us.length - (i + 1)) := HJ.out.2.1.t; have h2 := HT.out; have h3 := HL3.out.t; have h4 := HA4.out.t; rw [← HL.out] at h1; show s4.t ≤ _; omega) HUO.out.page (by have h1 := HUO.out.off; have h2 := HUO.out.len; omega) (by have h1 := HM3.out.cnt; have h2 := HLN.out; have h5 : sj.t ≤ s.t + 8 * (us.length - (i + 1)) := HJ.out.2.1.t; have h6 := HT.out; have h3 := HL3.out.t; rw [← HL.out] at h5; omega)).mono ?_
        rintro e w6 ⟨rfl, s6, hm6, hp6, hs6⟩
        have HM6 := Lib.hid hm6
        have HP6 := Lib.hid hp6
        have HS6 := Lib.hid hs6
        clear hm6 hp6 hs6 d2 d3' d4 hb5
        have HT6 : Hid (Taken s s6 tx ⟨blk, .slice (some ⟨g, 0, none⟩) L c, us⟩ i ⟨blk, .slice (some ⟨g, 0, none⟩) i c, us.take i⟩) := Lib.hid (by
          have tj := HJ.out.2.1
          have l3 := HL3.out
          have a4 := HA4.out
          have p6 := HP6.out
          have hC : s4.C = sj.C := a4.C.trans l3.C
          refine ⟨fun n => ?_, ?_, ⟨rfl, rfl⟩, ?_, ?_, ?_, ?_⟩
          · show _ = undoAll (us.drop i) _ n
            rw [p6.C, undoAll_drop HU.out]
            show (updC s4.C _ _ (wth (s4.C _).2 _ _) n).2 = _
            rw [hC]
            have h1 : ∀ n, (sj.C n).2 = undoAll (us.drop (i + 1)) (fun n => (s.C n).2) n := tj.C
            unfold undo1
            by_cases hn : n = (u.page : Int)
            · subst hn
              rw [updC_same, if_pos rfl, h1]
            · rw [updC_other _ _ _ hn, if_neg hn, h1]
          · rw [p6.A]
            show setA s4.A _ _ = _
            rw [a4.A, l3.A, tj.A, setA_twice]
          · rw [p6.log.2.1]
            show s4.L.sectors = _
            rw [a4.log.2.1, l3.log.2.1, tj.sect]
          · rw [p6.log.2.2]
            show s4.L.xs.length ≤ s.L.xs.length + 160 * (us.length - i)
            rw [a4.log.2.2, List.length_append, l3.log.2.2]
            have h1 := back_le HROK.out rfl
            have h2 : sj.L.xs.length ≤ s.L.xs.length + 160 * (us.length - (i + 1)) := tj.xs
            rw [← HL.out] at h2 ⊢
            omega
          · rw [p6.last]
            show s4.last = _ ∨ s4.last = _
            rw [a4.last, l3.last]
            show max sj.last tx = _ ∨ max sj.last tx = _
            rcases tj.last with e | e
            · rw [e]; exact .inr rfl
            · rw [e]; right; omega
          · rw [p6.t]
            show s4.t + 2 ≤ s.t + 8 * (us.length - i)
            have h1 : sj.t ≤ s.t + 8 * (us.length - (i + 1)) := tj.t
            rw [a4.t, l3.t]
            rw [← HL.out] at h1 ⊢
            omega)
        have HMI6 : Hid (((tx : Int), (⟨blk, .slice (some ⟨g, 0, none⟩) i c, us.take i⟩ : Tx)) ∈ s6.A) := Lib.hid (by rw [HT6.out.A]; exact mem_setA_self HM.out)
        go_wp2_with fail
        go_roundw
        case rel => exact ⟨i, s6, by omega, Lib.hid ⟨HM6.out, HT6.out, (((HJ.out.2.2.trans (Step.of_below HBW.out)).trans ((Step.of_below (Below.refl _ W).drew).trans HS3.out)).trans (HS4.out.trans HS5.out)).trans HS6.out⟩⟩
        case measure =>
          have e1 := sliceN_of (HM6.out.txs _ HMI6.out).cells
          have e2 := sliceN_of HT1.out
          simp only at e1
          rw [e1, e2]
          omega
end Go.Proofs.YtheeomjfpnijbaaGreatDoor

/- Manager.Commit. -/
namespace Go.Proofs.YtheeomjfpnijbaaGreatDoor
open Go.RowKit Go.Shelf
open Go.MuLone
set_option linter.unusedVariables false

section
variable {k : Int} {p : Par} {w w' : World} {s : ASt}
/-- A transaction is over. -/
theorem MR.ended (h : MR k p w s) {tx : Int} (hu : Upd (fun i => i = p.ba) w w') (hm : MapZ w' p.ba (del (mapA s.A) tx)) : MR k p w' { s with A := del s.A tx } ∧ Step p s.N w s.N w' := by
  have hnt : ∀ {t : TypeId} (j : Nat), Typed w j t → ¬ j = p.ba := fun j ht e => h.map.notTyped ht e
  have hsub : (del s.A tx).Sublist s.A := List.eraseIdx_sublist _ _
  refine ⟨{
    cells := (hu.block _ (Array.getElem?_eq_some_iff.1 h.cells).1 (hnt _ h.typed)).trans h.cells
    run := h.run.upd hu (fun j hj => by subst hj; exact h.low.2.1) (fun j hj => by
      subst hj
      refine ⟨fun hf => ?_, fun h8 => hnt _ h8 rfl⟩
      obtain ⟨-, hf⟩ := hf
      rcases hf with hf | ⟨hf, -⟩ | hf | hf | hf | hf | hf
      · exact hnt _ hf rfl
      · exact hnt _ hf rfl
      · exact hnt _ hf rfl
      · exact hnt _ hf rfl
      · exact hnt _ hf rfl
      · exact hnt _ hf rfl
      · exact h.low.2.2.1 hf)
    map := by
      show MapZ w' p.ba (mapA (del s.A tx))
      have : mapA (del s.A tx) = del (mapA s.A) tx := (del_mapV (fun t : Tx => (Value.pointer (some ⟨t.blk, 0, none⟩))) s.A tx).symm
      rw [this]
      exact hm
    txs := fun x hx => by
      have hx' := h.txs x (hsub.subset hx)
      exact ⟨(hu.block _ (Array.getElem?_eq_some_iff.1 hx'.cells).1 (hnt _ ⟨_, hx'.cells⟩)).trans hx'.cells, own_upd hx'.row hu (fun j hj ht => hnt j ht hj)⟩
    apart := h.apart.sublist (hsub.map _)
    rows := h.rows.sublist hsub
    low := ⟨h.low.1, h.low.2.1, h.low.2.2.1, fun x hx => h.low.2.2.2 x (hsub.subset hx)⟩
    pins := h.pins
    few := Nat.le_trans hsub.length_le h.few
    keys := fun x hx => h.keys x (hsub.subset hx)
    last := h.last
    cnt := h.cnt
    ups := fun x hx => h.ups x (hsub.subset hx)
    ulen := fun x hx => h.ulen x (hsub.subset hx)
    sect := h.sect }, ⟨rfl, rfl, hu.mono fun j _ hj => .inr ⟨by subst hj; exact h.low.2.1, .inl hj⟩, fun _ _ h => h⟩⟩
theorem forceM_any (k : Int) (p : Par) (s : ASt) (w : World) (h : MR k p w s) (ht : s.t ≤ 900000) :
    Calls Tryz.prog 152 #[.pointer (some ⟨p.bl, 0, none⟩)] w fun e w' => e = .returned (.int .i64 0) ∧ ∃ s', MR k p w' s' ∧ Like s s' 0 ∧ Step p s.N w s'.N w' := by
  refine (forceC_all s.N p.bd p.bl p.sz w s.c s.D s.L h.run.st (by have := h.cnt; omega)).mono ?_
  rintro e w' ⟨rfl, L', D', hf, hst, hu⟩
  have hu' : Upd (FS s.N p.bm w) w w' := FS.of_fl hu
  have hr : Run s.N p.bp p.bd p.bl p.bm p.fro p.pages p.buffers p.sz w' s.clock s.c s.M s.C D' L' := by
    have hr0 := h.run
    refine ⟨hst, hr0.pool.upd hu (fun j hj hb => ?_) (fun j hj ht => ?_), ⟨fun x hx => ?_, fun n h0 h1 h2 => ?_, hr0.inv.ok⟩, hr0.small, by rw [hf.fro, hf.sectors]; exact hr0.log, .inr (forceC_all _ _ _ _), hr0.len, hr0.buf⟩
    · obtain ⟨-, hj⟩ := hj
      rcases hj with hj | ⟨hj, -⟩ | hj | hj
      · exact ⟨fun h2 => absurd (h2.one hj) (by decide), fun h2 => absurd (h2.one hj) (by decide), hr0.pool.map.notTyped hj⟩
      · exact ⟨fun h2 => absurd (h2.one hj) (by decide), fun h2 => absurd (h2.one hj) (by decide), hr0.pool.map.notTyped hj⟩
      · exact ⟨fun h2 => absurd (h2.one hj) (by decide), fun h2 => absurd (h2.one hj) (by decide), hr0.pool.map.notTyped hj⟩
      · exact ⟨fun h2 => absurd (h2.one hj) (by decide), fun h2 => absurd (h2.one hj) (by decide), hr0.pool.map.notTyped hj⟩
    · obtain ⟨-, hj⟩ := hj
      rcases hj with hj | ⟨hj, -⟩ | hj | hj <;> exact absurd (ht.one hj) (by decide)
    · obtain ⟨e1, e2, e3⟩ := hr0.inv.held x hx
      refine ⟨e1, e2, fun hf0 => ?_⟩
      rw [hf.disk _ (by have := hr0.log; have := hr0.pool.keys x hx; omega)]
      exact e3 hf0
    · rw [hf.disk _ (by have := hr0.log; omega)]
      exact hr0.inv.not n h0 h1 h2
  exact ⟨rfl, _, h.goes hu' hr (fun _ => rfl) (t := s.t) ⟨h.cnt.1, h.cnt.2.1⟩ (Nat.le_refl _) ⟨hf.last, hf.sectors, hf.xs⟩, ⟨rfl, rfl, rfl, rfl, rfl, ⟨hf.last, hf.sectors, hf.xs⟩, rfl⟩, Step.of_fs hu'⟩
end
def CommitQ (p : Par) (s : ASt) (tx : Nat) (w : World) (e : Ending) (w' : World) : Prop :=
  (look s.A (tx : Int) = none ∧ e = .returned (.int .i64 60) ∧ MR 0 p w' s ∧ Step p s.N w s.N w') ∨
  (∃ t s', look s.A (tx : Int) = some t ∧ e = .returned (.int .i64 0) ∧ MR 0 p w' s' ∧ s'.A = del s.A tx ∧ s'.C = s.C ∧ s'.L.sectors = s.L.sectors ∧ s'.L.xs.length ≤ s.L.xs.length + (if t.us.length = 0 then 0 else 16) ∧ (s'.last = s.last ∨ s'.last = max s.last tx) ∧ s'.t ≤ s.t + 1 ∧ Step p s.N w s'.N w')
set_option maxRecDepth 20000 in
set_option maxHeartbeats 2000000 in
theorem mcommit_any (p : Par) (s : ASt) (tx : Nat) (w : World) (h : MR 0 p w s) (ht : s.t ≤ 800000) (htx : tx ≤ 1099511627776) (hroom : ∀ t, look s.A (tx : Int) = some t → t.us.length ≠ 0 → 16 + s.L.xs.length ≤ s.L.sectors * 112) :
    Calls Tryz.prog 108 #[.pointer (some ⟨p.bg, 0, none⟩), .int .i64 tx] w (CommitQ p s tx w) := by
  have H := Lib.hid h
  have HT := Lib.hid ht
  have HTX := Lib.hid htx
  have HRM := Lib.hid hroom
  clear h ht htx hroom
  go_enter_defers Tryz.func108, Tryz.ntmps108
  go_wp2_with fail
  refine (mheld_mr H.out).mono ?_
  rintro e w1 ⟨rfl, hm1, hs1⟩
  have HM1 := Lib.hid hm1
  have HS1 := Lib.hid hs1
  obtain ⟨-, -, k3, -, -, -, k7, hlt⟩ := hm1.load
  clear hm1 hs1
  cases hl : look s.A (tx : Int) with
  | none =>
    have HL : Hid (look (mapA s.A) (tx : Int) = none) := Lib.hid (by rw [look_mapA, hl]; rfl)
    have HLL := Lib.hid hl
    clear hl
    go_wp2_with (at_lookup; refine wpList_look (KK := intKeys) rfl _ _ 61 rfl 3 234 Tryz.underlying61 Tryz.underlying3 _ zopn (tx : Int) rfl rfl HM1.out.map.is ?_; rw [HL.out, Option.getD_none])
    refine leaves_cons (f := 98) (args := #[.pointer (some ⟨p.bg, 0, none⟩)]) (by simp) (by simp [go_sem]) ?_
    refine (unlock_mr .returning HM1.out).mono ?_
    rintro e u' w4 ⟨rfl, rfl, hm4, hs4, -⟩
    refine ⟨_, results_tmp rfl _ _ _, ?_⟩
    change CommitQ p s tx w (.returned (.int .i64 60)) _
    exact .inl ⟨HLL.out, rfl, hm4, HS1.out.trans hs4⟩
  | some t =>
    have HL : Hid (look (mapA s.A) (tx : Int) = some (.pointer (some ⟨t.blk, 0, none⟩))) := Lib.hid (by rw [look_mapA, hl]; rfl)
    have HLL := Lib.hid hl
    obtain ⟨h1, h2⟩ := HM1.out.txs _ (look_mem hl)
    obtain ⟨blk, row, us⟩ := t
    simp only at h1 h2
    obtain ⟨L, hL⟩ : ∃ L, L = us.length := ⟨_, rfl⟩
    rw [← hL] at h2
    obtain ⟨q, c, rfl⟩ := own_zero h2
    have k0 : w1.cell? ⟨blk, 0, none⟩ = some (.slice q L c) := by simp [World.cell?, h1]
    have HL0 := Lib.hid hL
    clear hl h1 h2 hL
    by_cases hz : L = 0
    · have hz1 : decide ((L : Int) > 0) = false := decide_eq_false (by omega)
      have hz2 : decide (0 < L) = false := decide_eq_false (by omega)
      have HZ := Lib.hid hz
      clear hz
      go_wp2_with (first
        | (at_lookup; refine wpList_look (KK := intKeys) rfl _ _ 61 rfl 3 234 Tryz.underlying61 Tryz.underlying3 _ zopn (tx : Int) rfl rfl HM1.out.map.is ?_; rw [HL.out, Option.getD_some])
        | (at_delete; refine wpList_deleteZ rfl _ _ 61 3 rfl 234 Tryz.underlying61 Tryz.underlying3 (tx : Int) rfl rfl HM1.out.map HL.out ?_; intro w2 hmz2 hu2; have HE := Lib.hid (HM1.out.ended hu2 hmz2); clear hmz2 hu2))
      refine leaves_cons (f := 98) (args := #[.pointer (some ⟨p.bg, 0, none⟩)]) (by simp) (by simp [go_sem]) ?_
      refine (unlock_mr .returning HE.out.1).mono ?_
      rintro e u' w4 ⟨rfl, rfl, hm4, hs4, -⟩
      refine ⟨_, results_tmp rfl _ _ _, ?_⟩
      change CommitQ p s tx w (.returned (.int .i64 0)) _
      exact .inr ⟨_, _, HLL.out, rfl, hm4, rfl, rfl, rfl, Nat.le_add_right _ _, .inl rfl, Nat.le_succ _, (HS1.out.trans HE.out.2).trans hs4⟩
    · have hz1 : decide ((L : Int) > 0) = true := decide_eq_true (by omega)
      have hz2 : decide (0 < L) = true := decide_eq_true (by omega)
      have HZ := Lib.hid hz
      have HOK : Hid (RecOk ⟨3, tx, 0, 0, ⟨#[]⟩, ⟨#[]⟩, 0, 0⟩) := Lib.hid ⟨HTX.out, by simp, by simp, by simp [ByteArray.size], by simp [ByteArray.size], by simp⟩
      clear hz
      go_wp2_with (at_lookup; refine wpList_look (KK := intKeys) rfl _ _ 61 rfl 3 234 Tryz.underlying61 Tryz.underlying3 _ zopn (tx : Int) rfl rfl HM1.out.map.is ?_; rw [HL.out, Option.getD_some])
      refine (add_any 1 p s ⟨3, tx, 0, 0, ⟨#[]⟩, ⟨#[]⟩, 0, 0⟩ _ HM1.out (by have := HT.out; omega) (by simp) HOK.out).mono ?_
      rintro e w2 (⟨hf, -, -, -⟩ | ⟨hf, s2, rfl, hm2, ha2, hs2, -⟩)
      · have h1 := HRM.out _ HLL.out (by rw [← HL0.out]; exact HZ.out)
        have h2 := short_le HOK.out (.inl rfl)
        omega
      · have HM2 := Lib.hid hm2
        have HA2 := Lib.hid ha2
        have HS2 := Lib.hid (HS1.out.trans hs2)
        have HF2 := Lib.hid hf
        obtain ⟨-, -, r3, -, -, -, -, hlt2⟩ := hm2.load
        clear hm2 ha2 hs2 hf k3 k7 k0
        go_wp2_with fail
        refine (forceM_any 1 p s2 _ HM2.out (by have := HA2.out.t; have := HT.out; omega)).mono ?_
        rintro e w3 ⟨rfl, s3, hm3, hl3, hs3⟩
        have HM3 := Lib.hid hm3
        have HL3 := Lib.hid hl3
        have HS3 := Lib.hid (HS2.out.trans hs3)
        obtain ⟨-, -, -, -, -, -, t7, hlt3⟩ := hm3.load
        have HLK : Hid (look (mapA s3.A) (tx : Int) = some (.pointer (some ⟨blk, 0, none⟩))) := Lib.hid (by rw [hl3.A, HA2.out.A]; exact HL.out)
        clear hm3 hl3 hs3 r3
        go_wp2_with (at_delete; refine wpList_deleteZ rfl _ _ 61 3 rfl 234 Tryz.underlying61 Tryz.underlying3 (tx : Int) rfl rfl HM3.out.map HLK.out ?_; intro w5 hmz5 hu5; have HE := Lib.hid (HM3.out.ended hu5 hmz5); clear hmz5 hu5)
        refine leaves_cons (f := 98) (args := #[.pointer (some ⟨p.bg, 0, none⟩)]) (by simp) (by simp [go_sem]) ?_
        refine (unlock_mr .returning HE.out.1).mono ?_
        rintro e u' w4 ⟨rfl, rfl, hm4, hs4, -⟩
        refine ⟨_, results_tmp rfl _ _ _, ?_⟩
        change CommitQ p s tx w (.returned (.int .i64 0)) _
        have a2 := HA2.out
        have l3 := HL3.out
        refine .inr ⟨_, _, HLL.out, rfl, hm4, by show del s3.A _ = _; rw [l3.A, a2.A], by show s3.C = _; rw [l3.C, a2.C], by show s3.L.sectors = _; rw [l3.log.2.1, a2.log.2.1], ?_, by show s3.last = _ ∨ s3.last = _; rw [l3.last, a2.last]; exact .inr rfl, by show s3.t ≤ _; rw [l3.t, a2.t]; omega, (HS3.out.trans HE.out.2).trans hs4⟩
        show s3.L.xs.length ≤ _
        rw [l3.log.2.2, a2.log.2.2, List.length_append, if_neg (by rw [← HL0.out]; exact HZ.out)]
        have h2 := short_le HOK.out (.inl rfl)
        omega
def AbortQ (p : Par) (s : ASt) (tx : Nat) (w : World) (e : Ending) (w' : World) : Prop :=
  (look s.A (tx : Int) = none ∧ e = .returned (.int .i64 60) ∧ MR 0 p w' s ∧ Step p s.N w s.N w') ∨
  (∃ t s', look s.A (tx : Int) = some t ∧ e = .returned (.int .i64 0) ∧ MR 0 p w' s' ∧ (∃ t', s'.A = del (setA s.A tx t') tx) ∧ (∀ n, (s'.C n).2 = undoAll t.us (fun n => (s.C n).2) n) ∧ s'.L.sectors = s.L.sectors ∧ s'.L.xs.length ≤ s.L.xs.length + (if t.us.length = 0 then 0 else 160 * t.us.length + 16) ∧ (s'.last = s.last ∨ s'.last = max s.last tx) ∧ s'.t ≤ s.t + 8 * t.us.length + 1 ∧ Step p s.N w s'.N w')
set_option maxRecDepth 20000 in
set_option maxHeartbeats 2000000 in
theorem mabort_any (p : Par) (s : ASt) (tx : Nat) (w : World) (h : MR 0 p w s) (ht : ∀ t, look s.A (tx : Int) = some t → s.t + 8 * t.us.length ≤ 800000) (hroom : ∀ t, look s.A (tx : Int) = some t → t.us.length ≠ 0 → 160 * t.us.length + 16 + s.L.xs.length ≤ s.L.sectors * 112) (hpg : p.pages ≤ 4096) :
    Calls Tryz.prog 109 #[.pointer (some ⟨p.bg, 0, none⟩), .int .i64 tx] w (AbortQ p s tx w) := by
  have H := Lib.hid h
  have HT := Lib.hid ht
  have HRM := Lib.hid hroom
  have HPG := Lib.hid hpg
  clear h ht hroom hpg
  go_enter_defers Tryz.func109, Tryz.ntmps109
  go_wp2_with fail
  refine (mheld_mr H.out).mono ?_
  rintro e w1 ⟨rfl, hm1, hs1⟩
  have HM1 := Lib.hid hm1
  have HS1 := Lib.hid hs1
  obtain ⟨-, -, k3, -, -, -, k7, hlt⟩ := hm1.load
  clear hm1 hs1
  cases hl : look s.A (tx : Int) with
  | none =>
    have HL : Hid (look (mapA s.A) (tx : Int) = none) := Lib.hid (by rw [look_mapA, hl]; rfl)
    have HLL := Lib.hid hl
    clear hl
    go_wp2_with (at_lookup; refine wpList_look (KK := intKeys) rfl _ _ 61 rfl 3 234 Tryz.underlying61 Tryz.underlying3 _ zopn (tx : Int) rfl rfl HM1.out.map.is ?_; rw [HL.out, Option.getD_none])
    refine leaves_cons (f := 98) (args := #[.pointer (some ⟨p.bg, 0, none⟩)]) (by simp) (by simp [go_sem]) ?_
    refine (unlock_mr .returning HM1.out).mono ?_
    rintro e u' w4 ⟨rfl, rfl, hm4, hs4, -⟩
    refine ⟨_, results_tmp rfl _ _ _, ?_⟩
    change AbortQ p s tx w (.returned (.int .i64 60)) _
    exact .inl ⟨HLL.out, rfl, hm4, HS1.out.trans hs4⟩
  | some t =>
    have HL : Hid (look (mapA s.A) (tx : Int) = some (.pointer (some ⟨t.blk, 0, none⟩))) := Lib.hid (by rw [look_mapA, hl]; rfl)
    have HLL := Lib.hid hl
    have HMEM := Lib.hid (look_mem hl)
    obtain ⟨h1, h2⟩ := HM1.out.txs _ (look_mem hl)
    obtain ⟨blk, row, us⟩ := t
    simp only at h1 h2
    obtain ⟨L, hL⟩ : ∃ L, L = us.length := ⟨_, rfl⟩
    rw [← hL] at h2
    obtain ⟨q, c, rfl⟩ := own_zero h2
    have k0 : w1.cell? ⟨blk, 0, none⟩ = some (.slice q L c) := by simp [World.cell?, h1]
    have HL0 := Lib.hid hL
    clear hl h1 h2 hL
    by_cases hz : L = 0
    · have hz1 : decide ((L : Int) > 0) = false := decide_eq_false (by omega)
      have hz2 : decide (0 < L) = false := decide_eq_false (by omega)
      have HZ := Lib.hid hz
      clear hz
      go_wp2_with (first
        | (at_lookup; refine wpList_look (KK := intKeys) rfl _ _ 61 rfl 3 234 Tryz.underlying61 Tryz.underlying3 _ zopn (tx : Int) rfl rfl HM1.out.map.is ?_; rw [HL.out, Option.getD_some])
        | (at_delete; refine wpList_deleteZ rfl _ _ 61 3 rfl 234 Tryz.underlying61 Tryz.underlying3 (tx : Int) rfl rfl HM1.out.map HL.out ?_; intro w2 hmz2 hu2; have HE := Lib.hid (HM1.out.ended hu2 hmz2); clear hmz2 hu2))
      refine leaves_cons (f := 98) (args := #[.pointer (some ⟨p.bg, 0, none⟩)]) (by simp) (by simp [go_sem]) ?_
      refine (unlock_mr .returning HE.out.1).mono ?_
      rintro e u' w4 ⟨rfl, rfl, hm4, hs4, -⟩
      refine ⟨_, results_tmp rfl _ _ _, ?_⟩
      change AbortQ p s tx w (.returned (.int .i64 0)) _
      have hus : us = [] := List.eq_nil_of_length_eq_zero (by rw [← HL0.out]; exact HZ.out)
      exact .inr ⟨_, _, HLL.out, rfl, hm4, ⟨_, by show del s.A _ = _; rw [setA_self H.out.nodup HMEM.out]⟩, fun n => by rw [hus]; rfl, rfl, Nat.le_add_right _ _, .inl rfl, by show s.t ≤ _; omega, (HS1.out.trans HE.out.2).trans hs4⟩
    · have hz1 : decide ((L : Int) > 0) = true := decide_eq_true (by omega)
      have hz2 : decide (0 < L) = true := decide_eq_true (by omega)
      have HZ := Lib.hid hz
      clear hz
      go_wp2_with (at_lookup; refine wpList_look (KK := intKeys) rfl _ _ 61 rfl 3 234 Tryz.underlying61 Tryz.underlying3 _ zopn (tx : Int) rfl rfl HM1.out.map.is ?_; rw [HL.out, Option.getD_some])
      refine (takeBack_any p s tx ⟨blk, .slice q L c, us⟩ _ HM1.out HMEM.out (HT.out _ HLL.out) (HRM.out _ HLL.out (by rw [← HL0.out]; exact HZ.out)) HPG.out).mono ?_
      rintro e w2 ⟨rfl, s2, t2, hm2, hc2, ha2, hu2, hb2, hse2, hx2, hla2, htt2, hs2⟩
      have HM2 := Lib.hid hm2
      have HR2 := Lib.hid (And.intro hc2 (And.intro ha2 (And.intro hse2 (And.intro hx2 (And.intro hla2 htt2)))))
      have HS2 := Lib.hid (HS1.out.trans hs2)
      have HLK : Hid (look (mapA s2.A) (tx : Int) = some (.pointer (some ⟨blk, 0, none⟩))) := Lib.hid (by rw [look_mapA, ha2, look_setA, HLL.out]; simp [hb2])
      obtain ⟨-, -, -, -, -, -, t7, hlt3⟩ := hm2.load
      clear hm2 hc2 ha2 hu2 hb2 hse2 hx2 hla2 htt2 hs2 k3 k7 k0
      go_wp2_with (at_delete; refine wpList_deleteZ rfl _ _ 61 3 rfl 234 Tryz.underlying61 Tryz.underlying3 (tx : Int) rfl rfl HM2.out.map HLK.out ?_; intro w5 hmz5 hu5; have HE := Lib.hid (HM2.out.ended hu5 hmz5); clear hmz5 hu5)
      refine leaves_cons (f := 98) (args := #[.pointer (some ⟨p.bg, 0, none⟩)]) (by simp) (by simp [go_sem]) ?_
      refine (unlock_mr .returning HE.out.1).mono ?_
      rintro e u' w4 ⟨rfl, rfl, hm4, hs4, -⟩
      refine ⟨_, results_tmp rfl _ _ _, ?_⟩
      change AbortQ p s tx w (.returned (.int .i64 0)) _
      obtain ⟨r1, r2, r3, r4, r5, r6⟩ := HR2.out
      refine .inr ⟨_, _, HLL.out, rfl, hm4, ⟨t2, by show del s2.A _ = _; rw [r2]⟩, r1, r3, ?_, .inr r5, r6, (HS2.out.trans HE.out.2).trans hs4⟩
      show s2.L.xs.length ≤ _
      rw [if_neg (by rw [← HL0.out]; exact HZ.out)]
      exact r4
end Go.Proofs.YtheeomjfpnijbaaGreatDoor
