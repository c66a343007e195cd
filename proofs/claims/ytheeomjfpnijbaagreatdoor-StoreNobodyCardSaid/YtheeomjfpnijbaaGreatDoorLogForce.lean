/- The log's Force. -/
import Derived.Test.YtheeomjfpnijbaaGreatDoorStateD
import Derived.Test.YtheeomjfpnijbaaGreatDoorLogAppend
namespace Go.Proofs.YtheeomjfpnijbaaGreatDoor
open Go.RowKit Go.Shelf
set_option linter.unusedVariables false

/-- What a call of a log may turn. -/
def FL (N : Zone) (w : World) (k : Nat) : Prop := N.B ≤ k ∧ (Typed w k 90 ∨ RowT N w k ∨ Typed w k 159 ∨ Typed w k 267)
theorem fl_same {N : Zone} (w w' : World) (k : Nat) (h : w'.heap[k]? = w.heap[k]?) (ht : FL N w' k) : FL N w k := by
  obtain ⟨hb, ht⟩ := ht
  refine ⟨hb, ?_⟩
  rcases ht with ht | ht | ht | ht
  · exact .inl (typed_same w w' k h ht)
  · exact .inr (.inl (rowt_same w w' k h ht))
  · exact .inr (.inr (.inl (typed_same w w' k h ht)))
  · exact .inr (.inr (.inr (typed_same w w' k h ht)))
theorem FL.trans {N : Zone} {a b c : World} (h : Upd (FL N a) a b) (k : Upd (FL N b) b c) : Upd (FL N a) a c := Upd.same (R := FL N) fl_same h k
theorem FL.of_ds {N : Zone} {w w' : World} (hu : Upd (DS N w) w w') : Upd (FL N w) w w' := hu.mono fun k _ hk => by
  obtain ⟨hb, h | h | h⟩ := hk
  · exact ⟨hb, .inl h⟩
  · exact ⟨hb, .inr (.inl h)⟩
  · exact ⟨hb, .inr (.inr (.inl h))⟩
theorem FL.of_below {N : Zone} {w w' : World} (h : Below w.heap.size w w') : Upd (FL N w) w w' := Upd.of_below' h _
theorem St.more {w : World} {N : Zone} {bd bl n c c' : Nat} {D : Nat → List UInt8} {L : LogV} (h : St w N bd bl n c D L) (hc : c ≤ c') : St w N bd bl n c' D L := by
  obtain ⟨⟨S, P, a, b, c, d⟩, r⟩ := h
  exact { disk := ⟨S, P, a, b, by omega, d⟩, log := by assumption, lown := by assumption, llow := by assumption, lok := by assumption, no := by assumption, halves := by assumption, hlow := by assumption, base := by assumption }
/-- A piece of a stream. -/
def chunk (xs : List UInt8) (i : Nat) : List UInt8 := (xs.drop (i * 112)).take 112
theorem chunk_length (xs : List UInt8) (i : Nat) : (chunk xs i).length = min 112 (xs.length - i * 112) := by simp [chunk]
/-- What Force has written up to a sector. -/
def forceD (L : LogV) (D : Nat → List UInt8) (j : Nat) : Nat → List UInt8 := fun i => if L.fro + L.durable / 112 ≤ i ∧ i < L.fro + j ∧ (i - L.fro) * 112 < L.xs.length then lsec (i - L.fro) L.first (chunk L.xs (i - L.fro)) else D i
def forceF (L : LogV) (D : Nat → List UInt8) : Nat → List UInt8 := fun i => if L.fro + L.durable / 112 ≤ i ∧ (i - L.fro) * 112 < L.xs.length then lsec (i - L.fro) L.first (chunk L.xs (i - L.fro)) else D i
theorem forceD_start (L : LogV) (D : Nat → List UInt8) : forceD L D (L.durable / 112) = D := by
  funext i
  unfold forceD
  rw [if_neg (by omega)]
theorem forceD_next {L : LogV} {D : Nat → List UInt8} {j : Nat} (h0 : L.durable / 112 ≤ j) (h1 : j * 112 < L.xs.length) : updD (forceD L D j) (L.fro + j) (lsec j L.first (chunk L.xs j)) = forceD L D (j + 1) := by
  funext i
  unfold updD forceD
  by_cases h : i = L.fro + j
  · subst h
    have e : L.fro + j - L.fro = j := by omega
    rw [if_pos rfl, if_pos ⟨by omega, by omega, by rw [e]; exact h1⟩, e]
  · rw [if_neg h]
    by_cases h2 : L.fro + L.durable / 112 ≤ i ∧ i < L.fro + j ∧ (i - L.fro) * 112 < L.xs.length
    · rw [if_pos h2, if_pos ⟨h2.1, by omega, h2.2.2⟩]
    · rw [if_neg h2, if_neg (fun h3 => h2 ⟨h3.1, by omega, h3.2.2⟩)]
theorem forceD_end {L : LogV} {D : Nat → List UInt8} {j : Nat} (h1 : ¬ j * 112 < L.xs.length) : forceD L D j = forceF L D := by
  funext i
  unfold forceD forceF
  by_cases h2 : L.fro + L.durable / 112 ≤ i ∧ (i - L.fro) * 112 < L.xs.length
  · rw [if_pos h2, if_pos ⟨h2.1, by omega, h2.2⟩]
  · rw [if_neg h2, if_neg (fun h3 => h2 ⟨h3.1, h3.2.2⟩)]
theorem Upd.drewBelow' {w w' : World} {T : Nat → Prop} (h : Upd T w w') : Upd T w w'.drew := ⟨h.os, h.tape, h.output, h.size, h.block⟩
theorem FL.of_log {N : Zone} {w w' : World} {bl : Nat} (hb : N.B ≤ bl) (ht : Typed w bl 267) (hu : Upd (fun k => k = bl) w w') : Upd (FL N w) w w' := hu.mono fun k _ hk => by subst hk; exact ⟨hb, .inr (.inr (.inr ht))⟩
theorem St.relog {w w' : World} {N : Zone} {bd bl n c : Nat} {D : Nat → List UInt8} {L L' : LogV} (h : St w N bd bl n c D L) (hu : Upd (fun k => k = bl) w w') (hl : LogAt w' N.B bl bd L'.fro L'.sectors L'.first L'.last L'.forced L'.durable L'.sv L'.xs) (ho : ∀ g, L'.sv.ownBlock = some g → N g) (hk : LogOk L' n) : St w' N bd bl n c D L' where
  disk := h.disk.upd hu (fun k hk => by subst hk; intro hd; rcases hd with ⟨-, hd | hd | hd⟩ <;> exact absurd (hd.one h.log.typed) (by decide)) (fun k hk ht => by subst hk; exact absurd (ht.one h.log.typed) (by decide))
  log := hl
  lown := ho
  llow := h.llow
  lok := hk
  no := fun k hk => Nat.lt_of_lt_of_le (h.no k hk) hu.size
  halves := h.halves.upd hu (fun ht => by have := h.hlow; have := h.llow; omega)
  hlow := h.hlow
  base := Nat.le_trans h.base hu.size
theorem force_end {w w' : World} {N : Zone} {bd bl n c : Nat} {D D' D'' : Nat → List UInt8} {L : LogV} (h : St w N bd bl n c D' L) (hD : D' = D) (hl : LogAt w' N.B bl bd L.fro L.sectors L.first L.last L.last L.xs.length L.sv L.xs) (hu : Upd (fun k => k = bl) w w') (e : D'' = D) : St w' N bd bl n c D'' { L with forced := L.last, durable := L.xs.length } := by
  subst hD
  subst e
  exact h.relog hu hl h.lown ⟨h.lok.inn, h.lok.long, Nat.le_refl _, h.lok.last, h.lok.first, Nat.le_refl _⟩
theorem own_rdv {w : World} {base n c : Nat} {q : Option Addr} {xs : List UInt8} (h : w.ownsRow base 5 1 (.slice q n c) n (B8s xs)) : Rd w q xs := by
  obtain ⟨p', c', e', hr', -⟩ := own_rd h
  cases e'
  exact hr'
set_option maxRecDepth 20000 in
set_option maxHeartbeats 2000000 in
theorem force_any {N : Zone} (bd bl n c : Nat) (D : Nat → List UInt8) (L : LogV) (w : World) (h : St w N bd bl n c D L) (hc : c < 100000000) (hne : L.forced ≠ L.last) :
    Calls Tryz.prog 152 #[.pointer (some ⟨bl, 0, none⟩)] w fun e w' => e = .returned (.int .i64 0) ∧ St w' N bd bl n 0 (forceF L D) { L with forced := L.last, durable := L.xs.length } ∧ Upd (FL N w) w w' := by
  obtain ⟨S, P, hd, hn, -, -⟩ := h.disk
  have hsm := hd.small
  rw [hn] at hsm
  have hlong := h.lok.long
  have hdur := h.lok.dur
  have hinn := h.lok.inn
  have hlast := h.lok.last
  have hfir := h.lok.first.2
  obtain ⟨q, cq, hsv⟩ := own_sl h.log.own
  obtain ⟨fro, hfro⟩ : ∃ x, x = L.fro := ⟨_, rfl⟩
  obtain ⟨sectors, hsec⟩ : ∃ x, x = L.sectors := ⟨_, rfl⟩
  obtain ⟨first, hfirst⟩ : ∃ x, x = L.first := ⟨_, rfl⟩
  obtain ⟨last, hla⟩ : ∃ x, x = L.last := ⟨_, rfl⟩
  obtain ⟨forced, hfo⟩ : ∃ x, x = L.forced := ⟨_, rfl⟩
  obtain ⟨durable, hdu⟩ : ∃ x, x = L.durable := ⟨_, rfl⟩
  obtain ⟨len, hlen⟩ : ∃ x, x = L.xs.length := ⟨_, rfl⟩
  rw [← hsec, ← hlen] at hlong
  rw [← hdu, ← hlen] at hdur
  rw [← hfro, ← hsec] at hinn
  rw [← hla] at hlast
  rw [← hfirst] at hfir
  rw [← hfo, ← hla] at hne
  rw [← hlen] at hsv
  have K := fun (W : World) (c' : Nat) (D' : Nat → List UInt8) (hW : St W N bd bl n c' D' L) => (show LogAt W N.B bl bd fro sectors first last forced durable (.slice q len cq) L.xs from by rw [hfro, hsec, hfirst, hla, hfo, hdu, ← hsv]; exact hW.log).load
  have HK := Lib.hid K
  have hne' : ((forced : Int) == (last : Int)) = false := by rw [beq_eq_false_iff_ne]; omega
  obtain ⟨d0, hd0⟩ : ∃ d0, d0 = durable / 112 := ⟨_, rfl⟩
  have hq : (durable : Int) / 112 = (d0 : Int) := by omega
  have hq' : (durable : Int).tdiv 112 = (d0 : Int) := by rw [Int.tdiv_eq_ediv_of_nonneg (by omega)]; exact hq
  have hd0l : d0 * 112 ≤ len := by omega
  have H := Lib.hid h
  have HF := Lib.hid (And.intro hfro (And.intro hsec (And.intro hfirst (And.intro hla (And.intro hfo (And.intro hdu hlen))))))
  have HSV := Lib.hid hsv
  have HC := Lib.hid hc
  have HD0 := Lib.hid hd0
  have HN := Lib.hid hn
  obtain ⟨k0, k1, k2, k3, k4, k5, k6, k7⟩ := K w c D h
  have hls := h.log
  rw [← hfro, ← hsec, ← hfirst, ← hla, ← hfo, ← hdu, hsv] at hls
  have HLS := Lib.hid hls
  clear h hd hn hsv hfro hsec hfirst hla hfo hdu hlen hc hd0 K hls hne
  go_enter Tryz.func152, Tryz.ntmps152
  go_wp2_with fail
  refine (lnone_any HLS.out).mono ?_
  rintro e w1 ⟨rfl, rfl⟩
  go_wp2_with fail
  go_quiet (fail)
  have HW := Lib.hid (below_drewN' (B := w1.heap.size) w1 nq)
  go_wp2_with fail
  have HLEN := Lib.hid (And.intro hlong (And.intro hinn hsm))
  have hlb : len ≤ 458752 := by omega
  have hjb : ∀ j : Nat, j = d0 ∨ (j - 1) * 112 < len → j ≤ 5000 := fun j h => by omega
  have HJB := Lib.hid hjb
  clear hlong hinn hjb hdur hd0l hq hq' hne' k0 k1 k2 k3 k4 k5 k6 k7
  go_loopw [3] (fun i wr => ∃ j : Nat, i = .int .i64 j ∧ Hid (d0 ≤ j ∧ (j = d0 ∨ (j - 1) * 112 < len)) ∧ Hid (St wr N bd bl n (c + (j - d0)) (forceD L D j) L) ∧ Hid (Upd (FL N w1) w1 wr)) (fun i _ => len - (intOf i).toNat * 112)
  case atStart => exact ⟨d0, rfl, Lib.hid ⟨Nat.le_refl _, .inl rfl⟩, Lib.hid (by rw [HD0.out, HF.out.2.2.2.2.2.1, Nat.sub_self, forceD_start]; exact H.out.below HW.out), Lib.hid (FL.of_below HW.out)⟩
  case round =>
    obtain ⟨j, rfl, HJ, HS, HU⟩ := hrel
    have hj5 : j ≤ 5000 := HJB.out j HJ.out.2
    obtain ⟨k0, k1, k2, k3, k4, k5, k6, k7⟩ := HK.out wr _ _ HS.out
    by_cases hlt : j * 112 < len
    · have hd : decide ((j : Int) * 112 < (len : Int)) = true := decide_eq_true (by omega)
      go_wp2_with fail
      obtain ⟨g, rfl, hcq⟩ : ∃ g, q = some ⟨g, 0, none⟩ ∧ len ≤ cq := by
        have ho := (HS.out.log).own
        rw [HSV.out, ← HF.out.2.2.2.2.2.2] at ho
        rcases ho.2 with ⟨e, -⟩ | ⟨g, cap, cur, e, -, -, h1, -⟩
        · cases e; omega
        · cases e; exact ⟨g, rfl, h1⟩
      obtain ⟨K, hK⟩ : ∃ K : Nat, K = j * 112 := ⟨_, rfl⟩
      obtain ⟨m, hm⟩ : ∃ m : Nat, m = min len ((j + 1) * 112) := ⟨_, rfl⟩
      have hjK : (j : Int) * 112 = (K : Int) := by omega
      have hmin : (if ((j : Int) + 1) * 112 < (len : Int) then ((j : Int) + 1) * 112 else (len : Int)) = (m : Int) := by split <;> omega
      have hKm : K ≤ m := by omega
      have hmc : m ≤ cq := by omega
      have hcK : (cq = K) = False := eq_false (by omega)
      have HR : Hid (Rd wr (some ⟨g, K, none⟩) (chunk L.xs j)) := Lib.hid (by
        have ho := (HS.out.log).own
        obtain ⟨p', c', e', hr', -⟩ := own_rd ho
        rw [HSV.out] at e'
        cases e'
        have := hr'.sub K 112
        rw [Nat.zero_add, hK] at this
        rw [hK]
        exact this)
      have HCL : Hid ((chunk L.xs j).length = m - K ∧ m - K ≤ 112) := Lib.hid (by rw [chunk_length, ← HF.out.2.2.2.2.2.2]; omega)
      have HKj := Lib.hid hK
      have HLT := Lib.hid hlt
      clear hK hm hlt hd
      go_region
      all_goals go_wp2_with fail
      have HS8 := Lib.hid (HS.out.below (Below.refl _ wr).drew)
      have HU8 := Lib.hid (FL.trans HU.out (FL.of_below (Below.refl _ wr).drew))
      have HR8 := Lib.hid (show Rd wr.drew (some ⟨g, K, none⟩) (chunk L.xs j) from HR.out)
      clear k0 k1 k2 k3 k4 k5 k6 k7 HS HU HR
      generalize wr.drew = W8 at *
      obtain ⟨k0, k1, -, k3, -⟩ := HK.out W8 _ _ HS8.out
      have HS9 := Lib.hid (HS8.out.below (Below.refl _ W8).drew)
      have HR9 := Lib.hid (show Rd W8.drew (some ⟨g, K, none⟩) (chunk L.xs j) from HR8.out)
      obtain ⟨k0', k1', -, k3', -⟩ := HK.out W8.drew _ _ HS9.out
      obtain ⟨J, hJ⟩ : ∃ J, J = fro + j := ⟨_, rfl⟩
      have HIN : Hid (J < n) := Lib.hid (by have := HLEN.out; have := HLT.out; omega)
      have hwJ : IntKind.i64.wrap ((fro : Int) + (j : Int)) = (J : Int) := by have := HIN.out; rw [IntKind.wrap_i64]; omega
      have HJJ := Lib.hid hJ
      have HFI := Lib.hid hfir
      have HJ5 := Lib.hid hj5
      clear hJ hmin hjK hmc hcK hcq hKm hj5 hlb
      go_region_law (first
        | (go_simp; go_at_call 160; refine (sector_any j first (some ⟨g, K, none⟩) (m - K) (cq - K) (chunk L.xs j) _ HCL.out.1 HR9.out HCL.out.2 (by have := HJ5.out; omega) (by have := HFI.out; omega) HS9.out.halves).mono ?_; rintro e w2 ⟨v2, rfl, ho2, hb2⟩; obtain ⟨q2, d2, rfl, hd2⟩ := own_slice ho2; have q0 := keepC hb2 k0'; have q1 := keepC hb2 k1'; have HO2 := Lib.hid ho2; have HB2 := Lib.hid hb2; have HS10 := Lib.hid (HS9.out.below hb2); clear ho2 hb2 hd2)
        | (go_simp; go_at_call 159; refine (disIs_write bd n (c + (j - d0)) J (forceD L D j) q2 d2 (lsec j first (chunk L.xs j)) _ HS10.out.disk HS10.out.no HIN.out (lsec_length (by have := HCL.out; omega)) (own_rdv HO2.out) (by have := HC.out; have := HJ5.out; omega)).mono ?_; rintro e w3 ⟨rfl, hd3, hu3⟩; have HD3 := Lib.hid hd3; have HU3 := Lib.hid hu3; clear hd3 hu3))
      all_goals
        have HS11 := Lib.hid (HS10.out.disked HU3.out HD3.out)
        have HU11 := Lib.hid (FL.trans HU8.out (FL.trans (FL.of_below (Below.refl _ W8).drew) (FL.trans (FL.of_below HB2.out) (FL.of_ds HU3.out))))
        have hj5 := HJ5.out
        clear k0 k1 k3 k0' k1' k3' q0 q1 HO2 HB2 HS10 HD3 HU3 HS9 HR9 HU8 HS8 HR8 hwJ
      all_goals go_wp2
      all_goals go_roundw
      all_goals first
        | exact ⟨j + 1, by go_num, Lib.hid ⟨by have := HJ.out; omega, .inr (by have := HLT.out; omega)⟩, Lib.hid (by
            have e1 : c + (j + 1 - d0) = c + (j - d0) + 1 := by have := HJ.out; omega
            rw [e1, ← forceD_next (by rw [← HF.out.2.2.2.2.2.1, ← HD0.out]; exact HJ.out.1) (by rw [← HF.out.2.2.2.2.2.2]; exact HLT.out), ← HF.out.1, ← HF.out.2.2.1, ← HJJ.out]
            exact HS11.out), HU11⟩
        | (have := HLT.out; simp [intOf]; omega)
    · have hd : decide ((j : Int) * 112 < (len : Int)) = false := decide_eq_false (by omega)
      go_wp2_with fail
      refine (disIs_flush bd n _ _ _ HS.out.disk HS.out.no (by have := HC.out; omega)).mono ?_
      rintro e w3 ⟨rfl, hd3, hu3⟩
      have HS3 := Lib.hid (HS.out.disked hu3 hd3)
      have HU3 := Lib.hid (FL.trans HU.out (FL.of_ds hu3))
      have HLT := Lib.hid hlt
      clear hd3 hu3 hd hlt k0 k1 k2 k3 k4 k5 k6 k7
      obtain ⟨-, -, -, -, k4, k5, k6, k7⟩ := HK.out w3 _ _ HS3.out
      have f5 : w3.frozen? ⟨bl, 5, none⟩ = false := frozenC HS3.out.log.cells
      have f7 : w3.frozen? ⟨bl, 7, none⟩ = false := frozenC HS3.out.log.cells
      have hblt := cell_lt k4
      go_wp2_with fail
      go_region
      all_goals go_wp2_with fail
      all_goals go_returns
      all_goals
        refine ⟨rfl, force_end HS3.out (forceD_end (by rw [← HF.out.2.2.2.2.2.2]; exact HLT.out)) ?_ ?_ rfl, FL.trans HU3.out (FL.of_log HS3.out.llow HS3.out.log.typed ?_)⟩
      all_goals first
        | (have hl := HS3.out.log; rw [HF.out.2.2.2.1, HF.out.2.2.2.2.2.2]; first | exact ((hl.set7 L.xs.length).set5 L.last).below (Below.refl _ _).drew | exact ((hl.set5 L.last).set7 L.xs.length).below (Below.refl _ _).drew)
        | exact Upd.drewBelow' ((Upd.setC w3 bl _ _).trans' (Upd.setC _ bl _ _) (fun j _ hj => hj))
end Go.Proofs.YtheeomjfpnijbaaGreatDoor
