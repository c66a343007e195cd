/- The log's Room, Append. -/
import Derived.Test.YtheeomjfpnijbaaGreatDoorLogSector
import Derived.Test.YtheeomjfpnijbaaGreatDoorWireP
namespace Go.Proofs.YtheeomjfpnijbaaGreatDoor
open Go.RowKit Go.Deep
set_option linter.unusedVariables false

theorem own_sl {w : World} {base n : Nat} {e : TypeId} {v : Value} {xs : List Value} {k : Nat} (h : w.ownsRow base e k v n xs) : ∃ q c, v = .slice q n c := by
  rcases h.2 with ⟨rfl, h0⟩ | ⟨g, cap, cur, rfl, -⟩
  · exact ⟨none, 0, by rw [h0]⟩
  · exact ⟨_, _, rfl⟩
theorem lnone_any {w : World} {B bl bd fro sectors first last forced durable : Nat} {sv : Value} {xs : List UInt8} (h : LogAt w B bl bd fro sectors first last forced durable sv xs) :
    Calls Tryz.prog 158 #[.pointer (some ⟨bl, 0, none⟩)] w fun e w' => e = .returned (.bool false) ∧ w' = w := by
  obtain ⟨k0, -⟩ := h.load
  clear h
  go_enter Tryz.func158, Tryz.ntmps158
  go_wp2
  go_ret
  exact ⟨rfl, rfl⟩
set_option maxRecDepth 20000 in
theorem room_any {w : World} {B bl bd fro sectors first last forced durable : Nat} {sv : Value} {xs : List UInt8} (h : LogAt w B bl bd fro sectors first last forced durable sv xs) (hs : sectors ≤ 4096) (hx : xs.length ≤ sectors * 112) :
    Calls Tryz.prog 134 #[.pointer (some ⟨bl, 0, none⟩)] w fun e w' => e = .returned (.int .i64 (sectors * 112 - xs.length : Nat)) ∧ ∃ j, w' = w.drewN j := by
  obtain ⟨-, -, k2, -, -, -, k6, -⟩ := h.load
  obtain ⟨q, c, rfl⟩ := own_sl h.own
  have H := Lib.hid h
  clear h
  obtain ⟨n, hn⟩ : ∃ n, n = xs.length := ⟨_, rfl⟩
  rw [← hn] at k6 hx ⊢
  obtain ⟨R, hR⟩ : ∃ R, R = sectors * 112 - n := ⟨_, rfl⟩
  have hw : IntKind.i64.wrap ((sectors : Int) * 112) = ((sectors * 112 : Nat) : Int) := by rw [IntKind.wrap_i64]; omega
  have HRR : Hid (((sectors : Int) * 112 - (n : Int)) = (R : Int)) := Lib.hid (by omega)
  have hw2 : IntKind.i64.wrap ((sectors : Int) * 112 - (n : Int)) = (R : Int) := by rw [IntKind.wrap_i64]; omega
  rw [← hR]
  have HN := Lib.hid hn
  have HX := Lib.hid hx
  have HS := Lib.hid hs
  clear hn hR hx hs
  go_enter Tryz.func134, Tryz.ntmps134
  go_wp2_with fail
  refine (lnone_any H.out).mono ?_
  rintro e w1 ⟨rfl, rfl⟩
  go_wp2_with fail
  go_quiet (fail)
  go_wp2
  go_returns
  exact ⟨rfl, _, rfl⟩

/-- A record's text. -/
def textV (rec : List UInt8) : List UInt8 := varN rec.length ++ rec
theorem textV_length (rec : List UInt8) : (textV rec).length = (varN rec.length).length + rec.length := by simp [textV]
theorem varN_pos (n : Nat) : 0 < (varN n).length := by rw [varN]; split <;> simp
def AppendQ (w : World) (B bl bd fro sectors first last forced durable : Nat) (sv : Value) (xs rec : List UInt8) (e : Ending) (w' : World) : Prop :=
  (sectors * 112 < xs.length + (textV rec).length ∧ e = .returned (.tuple #[.int .i64 0, .int .i64 4]) ∧ Below w.heap.size w w') ∨
  (xs.length + (textV rec).length ≤ sectors * 112 ∧ ∃ sv', e = .returned (.tuple #[.int .i64 (last + 1 : Nat), .int .i64 0]) ∧ LogAt w' B bl bd fro sectors first (last + 1) forced durable sv' (xs ++ textV rec) ∧
    (sv'.ownBlock = sv.ownBlock ∨ ∃ g, sv'.ownBlock = some g ∧ w.heap.size ≤ g ∧ g < w'.heap.size) ∧ Upd (fun k => k = bl ∨ some k = sv.ownBlock) w w')
theorem append_end {w w3 w4 : World} {B bl bd fro sectors first last forced durable : Nat} {sv sv' : Value} {xs T : List UInt8} (h : LogAt w B bl bd fro sectors first last forced durable sv xs) (hb : Below w.heap.size w w3) (ho : w4.ownsRow B 5 1 sv' (xs.length + T.length) (B8s (xs ++ T))) (hg : w3.grownBy w4 sv.ownBlock) (hv : sv'.ownBlock = sv.ownBlock ∨ sv'.ownBlock = some w3.heap.size) (hbl : bl < w.heap.size) :
    LogAt ((w4.setCell ⟨bl, 6, none⟩ sv').setCell ⟨bl, 4, none⟩ (.int .i64 (last + 1 : Nat))) B bl bd fro sectors first (last + 1) forced durable sv' (xs ++ T) ∧
    (sv'.ownBlock = sv.ownBlock ∨ ∃ g, sv'.ownBlock = some g ∧ w.heap.size ≤ g ∧ g < ((w4.setCell ⟨bl, 6, none⟩ sv').setCell ⟨bl, 4, none⟩ (.int .i64 (last + 1 : Nat))).heap.size) ∧ Upd (fun k => k = bl ∨ some k = sv.ownBlock) w ((w4.setCell ⟨bl, 6, none⟩ sv').setCell ⟨bl, 4, none⟩ (.int .i64 (last + 1 : Nat))) := by
  have hne : some bl ≠ sv.ownBlock := own_ne h.own h.cells (by decide)
  have h3 := (hb.block bl hbl).trans h.cells
  have h4 : w4.heap[bl]? = _ := (hg.block bl (Array.getElem?_eq_some_iff.1 h3).1 (fun e => hne e)).trans h3
  have ht4 : Typed w4 bl 267 := ⟨_, h4⟩
  have hb' : Below w.heap.size w w3 := hb
  have hu : Upd (fun k => k = bl ∨ some k = sv.ownBlock) w w4 := ⟨hg.os.trans hb.os, hg.tape.trans hb.tape, hg.output.trans hb.output, Nat.le_trans hb.size hg.size, fun k hk hn => (hg.block k (Nat.lt_of_lt_of_le hk hb.size) (fun e => hn (.inr e))).trans (hb.block k hk)⟩
  have ho5 : (w4.setCell ⟨bl, 6, none⟩ sv').ownsRow B 5 1 sv' (xs.length + T.length) (B8s (xs ++ T)) := own_updB ho (Upd.setC w4 bl 6 _) (fun k hk _ ht => by subst hk; exact absurd (ht.one ht4) (by decide))
  have h5 := heap_setCell_same w4 bl 6 _ _ sv' h4
  have ht5 : Typed (w4.setCell ⟨bl, 6, none⟩ sv') bl 267 := ⟨_, h5⟩
  have h6 := heap_setCell_same (w4.setCell ⟨bl, 6, none⟩ sv') bl 4 _ _ (.int .i64 (last + 1 : Nat)) h5
  refine ⟨⟨h6.trans rfl, by rw [List.length_append]; exact own_updB ho5 (Upd.setC _ bl 4 _) (fun k hk _ ht => by subst hk; exact absurd (ht.one ht5) (by decide))⟩, ?_, (hu.trans' (Upd.setC w4 bl 6 sv') (fun j _ hj => .inl hj)).trans' (Upd.setC _ bl 4 _) (fun j _ hj => .inl hj)⟩
  rcases hv with e | e
  · exact .inl e
  · refine .inr ⟨_, e, hb.size, ?_⟩
    rcases ho.2 with ⟨rfl, -⟩ | ⟨g, cap, cur, rfl, -, hgg, -⟩
    · cases e
    · have : g = w3.heap.size := by cases e; rfl
      subst this
      simpa using (Array.getElem?_eq_some_iff.1 hgg).1
set_option maxRecDepth 20000 in
set_option maxHeartbeats 1000000 in
theorem append_any (w : World) (B bl bd fro sectors first last forced durable : Nat) (sv : Value) (xs rec : List UInt8) (p : Option Addr) (n c : Nat) (h : LogAt w B bl bd fro sectors first last forced durable sv xs) (hs : sectors ≤ 4096) (hx : xs.length ≤ sectors * 112) (hB : B ≤ w.heap.size) (hl : last < 4611686018427387904) (hrec : rec.length = n) (h0 : 0 < n) (h1 : n ≤ 2000) (hr : Rd w p rec) :
    Calls Tryz.prog 197 #[.pointer (some ⟨bl, 0, none⟩), .slice p n c] w (AppendQ w B bl bd fro sectors first last forced durable sv xs rec) := by
  have H := Lib.hid h
  have HS := Lib.hid hs
  have HX := Lib.hid hx
  have HB := Lib.hid hB
  have HL := Lib.hid hl
  have HREC := Lib.hid hrec
  have HR := Lib.hid hr
  have hcv := fun W (hr : Rd W p rec) => hr.convert hrec c _ _ _ Tryz.underlying76 Tryz.underlying5 Tryz.underlying9
  have hc0 := hcv w hr
  have hd0 : ((n : Int) == 0) = false := by rw [beq_eq_false_iff_ne]; omega
  have hd1 : decide ((n : Int) > 2000) = false := decide_eq_false (by omega)
  obtain ⟨t, ht⟩ : ∃ t : ByteArray, t = ⟨rec.toArray⟩ := ⟨_, rfl⟩
  rw [← ht] at hc0
  have hts : t.size = n := by rw [ht]; exact (by simpa using hrec : rec.toArray.size = n)
  have htb : strB t = rec := by rw [ht]; simp [strB]
  have HTS := Lib.hid hts
  have HTB := Lib.hid htb
  have H1 := Lib.hid h1
  clear h hs hx hB hl hrec hr hcv ht hts htb h1 h0
  go_enter Tryz.func197, Tryz.ntmps197
  go_wp2_with fail
  refine (lnone_any H.out).mono ?_
  rintro e w1 ⟨rfl, rfl⟩
  go_wp2_with fail
  refine (text_any none 0 0 [] t w1 rfl (by have := HTS.out; have := H1.out; omega) (Rd.nil _ _)).mono ?_
  rintro e w2 ⟨v2, rfl, ho2, hb2⟩
  obtain ⟨T, hT⟩ : ∃ T, T = textV rec := ⟨_, rfl⟩
  have hTe : [] ++ varN t.size ++ strB t = T := by rw [hT, HTS.out, HTB.out, textV, HREC.out, List.nil_append]
  rw [hTe] at ho2
  obtain ⟨m, hm⟩ : ∃ m, m = T.length := ⟨_, rfl⟩
  rw [← hm] at ho2
  obtain ⟨q2, c2, rfl, hr2, hx2, -, -⟩ := own_rd ho2
  have HT := Lib.hid hT
  have HM := Lib.hid hm
  have HR2 := Lib.hid hr2
  have HB2 := Lib.hid hb2
  have HM0 : Hid (0 < m ∧ m ≤ 3000) := Lib.hid (by
    have := varN_pos rec.length
    have h9 := varN_le9 (n := rec.length) (by rw [HREC.out]; have := H1.out; omega)
    have := H1.out
    rw [hm, hT, textV_length, HREC.out] at *
    omega)
  have HL2 := Lib.hid (H.out.below hb2)
  clear hTe hT hm ho2 hr2 hx2 hb2 hc0
  go_wp2_with fail
  refine (room_any HL2.out HS.out HX.out).mono ?_
  rintro e w3 ⟨rfl, j, rfl⟩
  obtain ⟨R, hR⟩ : ∃ R, R = sectors * 112 - xs.length := ⟨_, rfl⟩
  rw [← hR]
  have HRR := Lib.hid hR
  clear hR
  have HB3 : Hid (Below w1.heap.size w1 (w2.drewN j)) := Lib.hid (drewN_below HB2.out j)
  have HL3 := Lib.hid (H.out.below HB3.out)
  have HR3 := Lib.hid (HR2.out.drewN j)
  by_cases hfit : m ≤ R
  · have hd : decide ((m : Int) > (R : Int)) = false := decide_eq_false (by omega)
    have hd' : decide (R < m) = false := decide_eq_false (by omega)
    have k4 := HL3.out.load.2.2.2.2.1
    have hdl : decide ((last : Int) ≥ 4611686018427387904) = false := decide_eq_false (by have := HL.out; omega)
    have hdl' : decide (4611686018427387904 ≤ last) = false := decide_eq_false (by have := HL.out; omega)
    have HFIT := Lib.hid hfit
    clear hfit
    have k6 := HL3.out.load.2.2.2.2.2.2.1
    obtain ⟨q, c6, hsv⟩ := own_sl HL3.out.own
    have HSV := Lib.hid hsv
    have hlw : bl < w1.heap.size := cell_lt (H.out.load.1)
    have hlw' : bl < w2.heap.size := Nat.lt_of_lt_of_le hlw HB2.out.size
    rw [hsv] at k6
    go_wp2_with (at_builtin; refine wp_appg (W := w2.drewN j) (base := B) (n := xs.length) (m := m) rfl (.tmp 37) (.tmp 38) rfl (.slice q xs.length c6) xs T q2 rfl rfl HM.out.symm HR3.out HM0.out.1 (by rw [← HSV.out]; exact HL3.out.own) (by have := HB.out; have := HB2.out.size; simp; omega) (by have := HM0.out; have := HX.out; have := HS.out; omega) ?_)
    intro v4 w4 ho4 hg4 hv4
    rw [← HSV.out] at hg4 hv4
    rw [HM.out] at ho4
    obtain ⟨q4, c4, rfl⟩ := own_sl ho4
    obtain ⟨l4, hl4⟩ : ∃ l4, l4 = xs.length + T.length := ⟨_, rfl⟩
    obtain ⟨C, hC⟩ : ∃ C, C = last + 1 := ⟨_, rfl⟩
    have hend := append_end H.out HB3.out ho4 hg4 hv4 hlw
    rw [← hC, ← hl4] at hend
    rw [← hl4] at hv4
    have h4 : w4.heap[bl]? = _ := (hg4.block bl hlw' (fun e => own_ne HL3.out.own HL3.out.cells (by decide) e)).trans HL3.out.cells
    have k44 : (w4.setCell ⟨bl, 6, none⟩ (.slice q4 l4 c4)).cell? ⟨bl, 4, none⟩ = some (.int .i64 last) := by
      simp [World.cell?, heap_setCell_same w4 bl 6 _ _ (.slice q4 l4 c4) h4]
    have f46 : w4.frozen? ⟨bl, 6, none⟩ = false := frozenC h4
    have f44 : (w4.setCell ⟨bl, 6, none⟩ (.slice q4 l4 c4)).frozen? ⟨bl, 4, none⟩ = false := frozenC (heap_setCell_same w4 bl 6 _ _ (.slice q4 l4 c4) h4)
    have k45 : ((w4.setCell ⟨bl, 6, none⟩ (.slice q4 l4 c4)).setCell ⟨bl, 4, none⟩ (.int .i64 C)).cell? ⟨bl, 4, none⟩ = some (.int .i64 C) := World.cell?_setCell_same _ _ _ k44
    have k40 : w4.cell? ⟨bl, 6, none⟩ = some sv := by simp [World.cell?, h4]
    have hw : wrap64 ((last : Int) + 1) = (C : Int) := by have := HL.out; rw [wrap64]; omega
    have hw' : IntKind.i64.wrap ((last : Int) + 1) = (C : Int) := by have := HL.out; rw [IntKind.wrap_i64]; omega
    have HEND := Lib.hid hend
    have hm4 : l4 = xs.length + m := by rw [hl4, HM.out]
    have HC := Lib.hid hC
    clear hend h4 ho4 hg4 hv4 hsv k6 k4 hC hd hd' hdl hdl' hd0 hd1

    rw [← hl4]
    clear hl4 hm4
    go_wp2
    go_returns
    unfold AppendQ
    have he := HEND.out
    rw [HT.out] at he
    refine .inr ⟨?_, _, by rw [HC.out]; rfl, by rw [← HC.out]; exact he.1, he.2.1, he.2.2⟩
    have := HFIT.out
    have := HRR.out
    have := HX.out
    have h9 := HM.out
    rw [HT.out] at h9
    omega
  · have hd : decide ((m : Int) > (R : Int)) = true := decide_eq_true (by omega)
    have hd' : decide (R < m) = true := decide_eq_true (by omega)
    have HFIT := Lib.hid hfit
    clear hfit
    go_wp2_with fail
    go_returns
    unfold AppendQ
    refine .inl ⟨?_, rfl, HB3.out⟩
    have := HFIT.out
    have := HRR.out
    have := HX.out
    have h9 := HM.out
    rw [HT.out] at h9
    omega
end Go.Proofs.YtheeomjfpnijbaaGreatDoor
