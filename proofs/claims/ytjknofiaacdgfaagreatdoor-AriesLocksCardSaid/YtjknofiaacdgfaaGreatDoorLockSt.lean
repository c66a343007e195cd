/- rostrumlaw06.AriesLocks: what each of its calls of the manager does. -/
import Derived.Test.YtjknofiaacdgfaaGreatDoorTake
import Derived.Test.YtjknofiaacdgfaaGreatDoorAriesBegin
namespace Go.Proofs.YtjknofiaacdgfaaGreatDoor
open Go.RowKit Go.Shelf
set_option linter.unusedVariables false

def par0 (bg bp bd bl bm ba : Nat) : Par := ⟨bg, bp, bd, bl, bm, ba, 40, 6, 2, 46⟩
def st0 (Z : Nat) : ASt := ⟨z0 Z, 0, 0, [], C0, fun _ => zeros 128, ⟨0, 40, 1, 0, 0, 0, .slice none 0 0, []⟩, 0, 0, [], 0⟩
theorem fresh_mr {Z : Nat} {w : World} {bg bp bl bm ba bd : Nat} (h : Fresh Z w bg bp bl bm ba bd) : MR 0 (par0 bg bp bd bl bm ba) w (st0 Z) where
  cells := h.cells
  run := ⟨h.st, h.pool, startInv_any _ _, by show 40 + 6 ≤ 46; omega, by show 0 + 40 ≤ 40; omega, .inl rfl, Nat.zero_le _, ⟨by show 1 ≤ 2; omega, by show 2 ≤ 64; omega⟩⟩
  map := h.map
  txs := fun x hx => by cases hx
  apart := List.nodup_nil
  rows := List.Pairwise.nil
  low := ⟨h.low.1, h.low.2.1, h.low.2.2, fun x hx => by cases hx⟩
  pins := fun n => rfl
  few := Nat.zero_le _
  keys := fun x hx => by cases hx
  last := Nat.zero_le _
  cnt := ⟨Nat.le_refl _, Nat.le_refl _, Nat.le_refl _, Nat.le_refl _⟩
  ups := fun x hx => by cases hx
  ulen := fun x hx => by cases hx
  sect := by show 40 ≤ 4096; omega
theorem Step.notMS {p : Par} {N N' : Zone} {w w' : World} (hs : Step p N w N' w') {b : Nat} (hb : b < w.heap.size) (h : ¬ MS N p w b) : ¬ MS N' p w' b :=
  fun hm => h (MS.mono hs.B (hs.zone b hb) (hs.upd.block b hb h) hm)

/-- Two transactions are open, none has changed anything. -/
structure L2 (p : Par) (w : World) (s : ASt) : Prop where
  mr : MR 0 p w s
  pages : p.pages = 6
  A : ∃ b1 b2, s.A = [(1, ⟨b1, .slice none 0 0, []⟩), (2, ⟨b2, .slice none 0 0, []⟩)]
  C : s.C = C0
  log : s.L.sectors = 40 ∧ s.L.xs = []
  t : s.t = 0
theorem begin1 {Z : Nat} (p : Par) (w : World) (h : MR 0 p w (st0 Z)) :
    Calls Tryz.prog 9 #[.pointer (some ⟨p.bg, 0, none⟩)] w fun e w' => e = .returned (.tuple #[.int .i64 1, .int .i64 0]) ∧ ∃ b1 s', MR 0 p w' s' ∧ s'.A = [(1, ⟨b1, .slice none 0 0, []⟩)] ∧ s'.C = C0 ∧ s'.L.sectors = 40 ∧ s'.L.xs = [] ∧ s'.t = 0 ∧ s'.last = 0 ∧ Step p (st0 Z).N w s'.N w' := by
  refine (mbegin_any p _ w h).mono ?_
  have ht : ∀ m, TopA (st0 Z) m → m = 0 := fun m hm => by
    rcases hm.2.2 with h | h
    · have : (m : Int) = ((0 : Nat) : Int) := h
      omega
    · cases h
  rintro e w' (⟨-, hb | ⟨m, hm, hm2⟩, -⟩ | ⟨-, m, b, s', hm, -, rfl, hm', hb', hs'⟩)
  · exact absurd hb (by show ¬ 16 ≤ 0; omega)
  · rw [ht m hm] at hm2; omega
  · have h0 := ht m hm
    subst h0
    exact ⟨rfl, b, s', hm', by rw [hb'.A]; rfl, hb'.C, hb'.log.2.1, hb'.log.2.2, hb'.t, hb'.last, hs'⟩
theorem begin2 (p : Par) (w : World) (s : ASt) (b1 : Nat) (h : MR 0 p w s) (hp : p.pages = 6) (hA : s.A = [(1, ⟨b1, .slice none 0 0, []⟩)]) (hC : s.C = C0) (hl : s.L.sectors = 40) (hx : s.L.xs = []) (ht0 : s.t = 0) (hla : s.last = 0) :
    Calls Tryz.prog 9 #[.pointer (some ⟨p.bg, 0, none⟩)] w fun e w' => e = .returned (.tuple #[.int .i64 2, .int .i64 0]) ∧ ∃ s', L2 p w' s' ∧ Step p s.N w s'.N w' := by
  refine (mbegin_any p _ w h).mono ?_
  have ht : ∀ m, TopA s m → m = 1 := fun m hm => by
    obtain ⟨h1, h2, h3⟩ := hm
    rw [hA] at h2 h3
    have h4 := h2 (1, ⟨b1, .slice none 0 0, []⟩) (by simp)
    simp only at h4
    rcases h3 with h | h
    · omega
    · simp at h
      omega
  rintro e w' (⟨-, hb | ⟨m, hm, hm2⟩, -⟩ | ⟨-, m, b, s', hm, -, rfl, hm', hb', hs'⟩)
  · rw [hA] at hb; simp at hb
  · rw [ht m hm] at hm2; omega
  · have h0 := ht m hm
    subst h0
    exact ⟨rfl, s', ⟨hm', hp, ⟨b1, b, by rw [hb'.A, hA]; rfl⟩, hb'.C.trans hC, ⟨hb'.log.2.1.trans hl, hb'.log.2.2.trans hx⟩, hb'.t.trans ht0⟩, hs'⟩

/-- The first transaction has written, or what it wrote changed nothing. -/
structure LS (p : Par) (ch : Bool) (pg off m : Nat) (xs : List UInt8) (w : World) (s : ASt) : Prop where
  mr : MR 0 p w s
  pages : p.pages = 6
  A : ∃ t1 t2, s.A = [(1, t1), (2, t2)] ∧ t2.us = [] ∧ (ch = false → t1.us = []) ∧ (ch = true → ∃ l, t1.us = [wrec 1 pg off (zeros m) xs l])
  C : (s.C pg).2 = wth (zeros 112) off xs
  log : s.L.sectors = 40 ∧ s.L.xs.length ≤ 1000
  t : s.t ≤ 100
  arg : pg < 6 ∧ xs.length = m ∧ 0 < m ∧ off + m ≤ 112 ∧ ch = !decide (xs = zeros m)
theorem zeros_take (off m : Nat) (h : off + m ≤ 112) : ((zeros 112).drop off).take m = zeros m := by
  unfold zeros
  rw [List.drop_replicate, List.take_replicate]
  congr 1
  omega
theorem wth_zeros {off m : Nat} (h : off + m ≤ 112) : wth (zeros 112) off (zeros m) = zeros 112 := by
  unfold wth zeros
  rw [List.take_replicate, List.drop_replicate, List.length_replicate, List.replicate_append_replicate, List.replicate_append_replicate]
  congr 1
  omega
theorem wth_wth {off : Nat} {P xs ys : List UInt8} (h : xs.length = ys.length) (hl : off + xs.length ≤ P.length) : wth (wth P off xs) off ys = wth P off ys := by
  have h1 : (P.take off).length = off := by rw [List.length_take]; omega
  unfold wth
  congr 1
  · rw [List.append_assoc, List.take_append_of_le_length (by omega), List.take_of_length_le (by omega)]
  · rw [← h, List.drop_append_of_le_length (by simp; omega), List.drop_of_length_le (by simp; omega), List.nil_append]
theorem lock_write (p : Par) (s : ASt) (w : World) (pg off m cc : Nat) (q : Option Addr) (xs : List UInt8) (h : L2 p w s) (hpg : pg < 6) (hx : xs.length = m) (h0 : 0 < m) (h1 : off + m ≤ 112) (hq : Rd w q xs) (hqf : ∀ b o z, q = some ⟨b, o, z⟩ → ¬ MS s.N p w b) :
    Calls Tryz.prog 10 #[.pointer (some ⟨p.bg, 0, none⟩), .int .i64 1, .int .i64 pg, .int .i64 off, .slice q m cc] w fun e w' => e = .returned (.int .i64 0) ∧ ∃ s', LS p (!decide (xs = zeros m)) pg off m xs w' s' ∧ s'.t ≤ 5 ∧ Step p s.N w s'.N w' := by
  obtain ⟨b1, b2, hA⟩ := h.A
  have hr : readE s.A p.pages ((1 : Nat) : Int) (pg : Int) = 0 := by
    unfold readE
    rw [hA, h.pages, if_neg (by simp [look]), if_neg (by omega), if_neg (by simp [lockedA, touchU])]
  have hCp : (s.C pg).2 = zeros 112 := by rw [h.C]; rfl
  have hold : ((s.C pg).2.drop off).take xs.length = zeros m := by rw [hCp, hx, zeros_take off m h1]
  refine (mwrite_any p s 1 pg off m cc q xs w h.mr (by rw [h.t]; omega) hx h0 h1 hq hqf (by rw [h.pages]; omega)).mono ?_
  rintro e w' (⟨c, hc, hc0, -⟩ | ⟨-, he, s', rfl, hm', hl', hs'⟩ | ⟨-, he, hf, -⟩ | ⟨-, he, hf, s', t, t', hlk, rfl, hm', hw', hs'⟩)
  · exact absurd (hc.trans hr) hc0
  · rw [hold] at he
    have hch : (!decide (xs = zeros m)) = false := by rw [← he]; simp
    refine ⟨rfl, s', ⟨hm', h.pages, ⟨_, _, hl'.A.trans hA, rfl, fun _ => rfl, fun e => by rw [hch] at e; cases e⟩, ?_, ⟨hl'.log.2.1.trans h.log.1, by rw [hl'.log.2.2, h.log.2]; simp⟩, by rw [hl'.t, h.t]; omega, ⟨hpg, hx, h0, h1, rfl⟩⟩, by rw [hl'.t, h.t]; omega, hs'⟩
    rw [hl'.C, hCp, ← he, wth_zeros h1]
  · exfalso
    rw [hold, h.log.1, h.log.2] at hf
    have h2 : wcost 1 pg off (zeros m) xs ≤ 302 := by
      have ok : RecOk (wrec 1 pg off (zeros m) xs 0) := wrec_ok (by omega) (by omega) (by omega) (by simp [zeros, hx])
      have h3 := encR_length ok
      have h4 := textV_le (xs := encR (wrec 1 pg off (zeros m) xs 0)) (by omega)
      unfold wcost
      omega
    have h5 : needC s.A = 32 := by rw [hA]; rfl
    rw [h5] at hf
    simp at hf
    omega
  · rw [hold] at he hw'
    have hch : (!decide (xs = zeros m)) = true := by simp; exact fun e => he e.symm
    have ht : t = ⟨b1, .slice none 0 0, []⟩ := by rw [hA] at hlk; simp [look] at hlk; exact hlk.symm
    have hus := hw'.us
    rw [ht] at hus
    have hlen : (textV (encR (wrec 1 pg off (zeros m) xs 0))).length ≤ 302 := by
      have ok : RecOk (wrec 1 pg off (zeros m) xs 0) := wrec_ok (by omega) (by omega) (by omega) (by simp [zeros, hx])
      have h3 := encR_length ok
      have h4 := textV_le (xs := encR (wrec 1 pg off (zeros m) xs 0)) (by omega)
      omega
    refine ⟨rfl, s', ⟨hm', h.pages, ⟨t', ⟨b2, .slice none 0 0, []⟩, ?_, rfl, fun e => (by rw [hch] at e; cases e), fun _ => ⟨_, hus⟩⟩, ?_, ⟨hw'.log.2.1.trans h.log.1, ?_⟩, ?_, ⟨hpg, hx, h0, h1, rfl⟩⟩, by have := hw'.t; rw [h.t] at this; omega, hs'⟩
    · rw [hw'.A, hA]
      simp [setA]
    · rw [hw'.C, updC_same, hCp]
    · rw [hw'.log.2.2, h.log.2]
      simp
      omega
    · have := hw'.t
      rw [h.t] at this
      omega
theorem LS.like {p : Par} {ch : Bool} {pg off m n : Nat} {xs : List UInt8} {w w' : World} {s s' : ASt} (h : LS p ch pg off m xs w s) (hm : MR 0 p w' s') (hl : Like s s' n) (hn : s.t + n ≤ 100) : LS p ch pg off m xs w' s' :=
  ⟨hm, h.pages, by rw [hl.A]; exact h.A, by rw [hl.C]; exact h.C, ⟨hl.log.2.1.trans h.log.1, by rw [hl.log.2.2]; exact h.log.2⟩, by rw [hl.t]; exact hn, h.arg⟩
theorem LS.below {p : Par} {ch : Bool} {pg off m : Nat} {xs : List UInt8} {w w' : World} {s : ASt} (h : LS p ch pg off m xs w s) (hb : Below w.heap.size w w') : LS p ch pg off m xs w' s :=
  ⟨h.mr.below hb, h.pages, h.A, h.C, h.log, h.t, h.arg⟩
theorem lock_read1 (p : Par) (ch : Bool) (pg off m : Nat) (xs : List UInt8) (s : ASt) (w : World) (h : LS p ch pg off m xs w s) (ht : s.t ≤ 90) :
    Calls Tryz.prog 11 #[.pointer (some ⟨p.bg, 0, none⟩), .int .i64 1, .int .i64 pg] w fun e w' => ∃ q d s', e = .returned (.tuple #[.slice q 112 d, .int .i64 0]) ∧ w'.ownsRow w.heap.size 5 1 (.slice q 112 d) 112 (B8s (wth (zeros 112) off xs)) ∧ LS p ch pg off m xs w' s' ∧ s'.t = s.t + 1 ∧ s'.N = s.N ∧ Step p s.N w s'.N w' := by
  obtain ⟨t1, t2, hA, hu2, -, -⟩ := h.A
  have hr : readE s.A p.pages 1 (pg : Int) = 0 := by
    unfold readE
    rw [hA, h.pages, if_neg (by simp [look]), if_neg (by have := h.arg.1; omega), if_neg (by simp [lockedA, touchU, hu2])]
  refine (rread_any p s 1 pg w h.mr (by omega)).mono ?_
  rintro e w' (⟨c, hc, hc0, -⟩ | ⟨-, q, d, s', rfl, ho, hm', hl', hs'⟩)
  · exact absurd (hc.trans hr) hc0
  · rw [h.C] at ho
    exact ⟨q, d, s', rfl, ho, h.like hm' hl' (by omega), hl'.t, hl'.N, hs'⟩
theorem lock_read2 (p : Par) (ch : Bool) (pg off m : Nat) (xs : List UInt8) (s : ASt) (w : World) (h : LS p ch pg off m xs w s) (ht : s.t ≤ 90) :
    Calls Tryz.prog 11 #[.pointer (some ⟨p.bg, 0, none⟩), .int .i64 2, .int .i64 pg] w fun e w' => ∃ (v : Value) (f : Int) (s' : ASt), e = .returned (.tuple #[v, .int .i64 f]) ∧ (f == 61) = ch ∧ LS p ch pg off m xs w' s' ∧ s'.t ≤ s.t + 1 ∧ Step p s.N w s'.N w' := by
  obtain ⟨t1, t2, hA, hu2, hc1, hc2⟩ := h.A
  have hlk : lockedA s.A 2 (pg : Int) = ch := by
    rw [hA]
    cases ch with
    | false => simp [lockedA, touchU, hc1 rfl]
    | true =>
      obtain ⟨l, hl⟩ := hc2 rfl
      simp [lockedA, touchU, hl, wrec]
  have hr : readE s.A p.pages 2 (pg : Int) = if ch then 61 else 0 := by
    unfold readE
    rw [hlk, h.pages, if_neg (by rw [hA]; simp [look]), if_neg (by have := h.arg.1; omega)]
  refine (rread_any p s 2 pg w h.mr (by omega)).mono ?_
  rintro e w' (⟨c, hc, hc0, rfl, hm', hs'⟩ | ⟨hr0, q, d, s', rfl, ho, hm', hl', hs'⟩)
  · rw [hr] at hc
    cases ch with
    | false => exact absurd hc hc0
    | true =>
      simp at hc
      subst hc
      exact ⟨_, _, s, rfl, rfl, ⟨hm', h.pages, h.A, h.C, h.log, h.t, h.arg⟩, by omega, hs'⟩
  · rw [hr] at hr0
    cases ch with
    | true => simp at hr0
    | false => exact ⟨_, _, s', rfl, rfl, h.like hm' hl' (by omega), by rw [hl'.t]; exact Nat.le_refl _, hs'⟩
theorem lock_write2 (p : Par) (pg off m cc : Nat) (q : Option Addr) (xs : List UInt8) (s : ASt) (w : World) (h : LS p true pg off m xs w s) (hq : Rd w q xs) (hqf : ∀ b o z, q = some ⟨b, o, z⟩ → ¬ MS s.N p w b) :
    Calls Tryz.prog 10 #[.pointer (some ⟨p.bg, 0, none⟩), .int .i64 2, .int .i64 pg, .int .i64 off, .slice q m cc] w fun e w' => e = .returned (.int .i64 61) ∧ LS p true pg off m xs w' s ∧ Step p s.N w s.N w' := by
  obtain ⟨t1, t2, hA, hu2, hc1, hc2⟩ := h.A
  obtain ⟨l, hl⟩ := hc2 rfl
  have hr : readE s.A p.pages ((2 : Nat) : Int) (pg : Int) = 61 := by
    unfold readE
    rw [h.pages, if_neg (by rw [hA]; simp [look]), if_neg (by have := h.arg.1; omega), if_pos (by rw [hA]; simp [lockedA, touchU, hl, wrec])]
  refine (mwrite_any p s 2 pg off m cc q xs w h.mr (by have := h.t; omega) h.arg.2.1 h.arg.2.2.1 h.arg.2.2.2.1 hq hqf (by rw [h.pages]; omega)).mono ?_
  rintro e w' (⟨c, hc, hc0, rfl, hm', hs'⟩ | ⟨hr0, -⟩ | ⟨hr0, -⟩ | ⟨hr0, -⟩)
  · rw [hr] at hc
    subst hc
    exact ⟨rfl, ⟨hm', h.pages, h.A, h.C, h.log, h.t, h.arg⟩, hs'⟩
  · rw [hr] at hr0; cases hr0
  · rw [hr] at hr0; cases hr0
  · rw [hr] at hr0; cases hr0
/-- The first transaction is over. -/
structure ES (p : Par) (pg : Nat) (V : List UInt8) (w : World) (s : ASt) : Prop where
  mr : MR 0 p w s
  pages : p.pages = 6
  A : ∃ t2, s.A = [(2, t2)] ∧ t2.us = []
  C : (s.C pg).2 = V
  t : s.t ≤ 200
  arg : pg < 6
theorem lock_commit (p : Par) (ch : Bool) (pg off m : Nat) (xs : List UInt8) (s : ASt) (w : World) (h : LS p ch pg off m xs w s) :
    Calls Tryz.prog 13 #[.pointer (some ⟨p.bg, 0, none⟩), .int .i64 1] w fun e w' => e = .returned (.int .i64 0) ∧ ∃ s', ES p pg (wth (zeros 112) off xs) w' s' ∧ Step p s.N w s'.N w' := by
  obtain ⟨t1, t2, hA, hu2, hc1, hc2⟩ := h.A
  refine (mcommit_any p s 1 w h.mr (by have := h.t; omega) (by omega) (fun t ht h0 => by rw [h.log.1]; have := h.log.2; omega)).mono ?_
  rintro e w' (⟨hn, -⟩ | ⟨t, s', ht, rfl, hm', ha', hc', -, -, -, hta, hs'⟩)
  · rw [hA] at hn; simp [look] at hn
  · exact ⟨rfl, s', ⟨hm', h.pages, ⟨t2, by rw [ha', hA]; simp [del, List.findIdx_cons], hu2⟩, by rw [hc']; exact h.C, by have := h.t; omega, h.arg.1⟩, hs'⟩
theorem lock_abort (p : Par) (ch : Bool) (pg off m : Nat) (xs : List UInt8) (s : ASt) (w : World) (h : LS p ch pg off m xs w s) :
    Calls Tryz.prog 14 #[.pointer (some ⟨p.bg, 0, none⟩), .int .i64 1] w fun e w' => e = .returned (.int .i64 0) ∧ ∃ s', ES p pg (zeros 112) w' s' ∧ Step p s.N w s'.N w' := by
  obtain ⟨t1, t2, hA, hu2, hc1, hc2⟩ := h.A
  have hlk : look s.A ((1 : Nat) : Int) = some t1 := by rw [hA]; simp [look]
  have hle : t1.us.length ≤ 1 := by
    cases ch with
    | false => rw [hc1 rfl]; simp
    | true => obtain ⟨l, hl⟩ := hc2 rfl; rw [hl]; simp
  refine (mabort_any p s 1 w h.mr (fun t ht => by rw [hlk] at ht; cases ht; have := h.t; omega) (fun t ht h0 => by rw [hlk] at ht; cases ht; rw [h.log.1]; have := h.log.2; omega) (by rw [h.pages]; omega)).mono ?_
  rintro e w' (⟨hn, -⟩ | ⟨t, s', ht, rfl, hm', ⟨t', ha'⟩, hc', -, -, -, hta, hs'⟩)
  · rw [hlk] at hn; cases hn
  · rw [hlk] at ht
    cases ht
    refine ⟨rfl, s', ⟨hm', h.pages, ⟨t2, by rw [ha', hA]; simp [setA, del, List.findIdx_cons], hu2⟩, ?_, by have := h.t; omega, h.arg.1⟩, hs'⟩
    rw [hc' pg]
    obtain ⟨-, a2, a3, a4, a5⟩ := h.arg
    cases ch with
    | false =>
      rw [hc1 rfl]
      show (s.C pg).2 = _
      have : xs = zeros m := by simpa using a5
      rw [h.C, this, wth_zeros a4]
    | true =>
      obtain ⟨l, hl⟩ := hc2 rfl
      rw [hl]
      show undo1 _ (fun n => (s.C n).2) pg = _
      show (if (pg : Int) = (pg : Int) then wth (s.C pg).2 off (strB (txt (zeros m))) else (s.C pg).2) = _
      rw [if_pos rfl, h.C, strB_txt, wth_wth (by simp [zeros, a2]) (by simp [zeros, a2]; omega), wth_zeros a4]
theorem end_read (p : Par) (pg : Nat) (V : List UInt8) (s : ASt) (w : World) (h : ES p pg V w s) :
    Calls Tryz.prog 11 #[.pointer (some ⟨p.bg, 0, none⟩), .int .i64 2, .int .i64 pg] w fun e w' => ∃ q d s', e = .returned (.tuple #[.slice q 112 d, .int .i64 0]) ∧ w'.ownsRow w.heap.size 5 1 (.slice q 112 d) 112 (B8s V) ∧ MR 0 p w' s' ∧ (∃ t2, s'.A = [(2, t2)] ∧ t2.us = []) ∧ s'.t ≤ 201 ∧ s'.N = s.N ∧ Step p s.N w s'.N w' := by
  obtain ⟨t2, hA, hu2⟩ := h.A
  have hr : readE s.A p.pages 2 (pg : Int) = 0 := by
    unfold readE
    rw [hA, h.pages, if_neg (by simp [look]), if_neg (by have := h.arg; omega), if_neg (by simp [lockedA, touchU, hu2])]
  refine (rread_any p s 2 pg w h.mr (by have := h.t; omega)).mono ?_
  rintro e w' (⟨c, hc, hc0, -⟩ | ⟨-, q, d, s', rfl, ho, hm', hl', hs'⟩)
  · exact absurd (hc.trans hr) hc0
  · rw [h.C] at ho
    exact ⟨q, d, s', rfl, ho, hm', ⟨t2, hl'.A.trans hA, hu2⟩, by rw [hl'.t]; have := h.t; omega, hl'.N, hs'⟩
theorem end_commit (p : Par) (s : ASt) (w : World) (h : MR 0 p w s) (hA : ∃ t2, s.A = [(2, t2)] ∧ t2.us = []) (ht : s.t ≤ 201) :
    Calls Tryz.prog 13 #[.pointer (some ⟨p.bg, 0, none⟩), .int .i64 2] w fun e w' => e = .returned (.int .i64 0) ∧ ∃ s', MR 0 p w' s' ∧ s'.A = [] ∧ s'.t ≤ 300 ∧ Step p s.N w s'.N w' := by
  obtain ⟨t2, hA, hu2⟩ := hA
  refine (mcommit_any p s 2 w h (by omega) (by omega) (fun t hl h0 => by rw [hA] at hl; simp [look] at hl; subst hl; rw [hu2] at h0; exact absurd rfl h0)).mono ?_
  rintro e w' (⟨hn, -⟩ | ⟨t, s', hl, rfl, hm', ha', -, -, -, -, hta, hs'⟩)
  · rw [hA] at hn; simp [look] at hn
  · exact ⟨rfl, s', hm', by rw [ha', hA]; simp [del, List.findIdx_cons], by omega, hs'⟩
theorem end_again (p : Par) (s : ASt) (w : World) (h : MR 0 p w s) (hA : s.A = []) (ht : s.t ≤ 300) :
    Calls Tryz.prog 13 #[.pointer (some ⟨p.bg, 0, none⟩), .int .i64 2] w fun e w' => e = .returned (.int .i64 60) ∧ Step p s.N w s.N w' := by
  refine (mcommit_any p s 2 w h (by omega) (by omega) (fun t hl h0 => by rw [hA] at hl; simp [look] at hl)).mono ?_
  rintro e w' (⟨hn, rfl, -, hs'⟩ | ⟨t, s', hl, -⟩)
  · exact ⟨rfl, hs'⟩
  · rw [hA] at hl; simp [look] at hl
end Go.Proofs.YtjknofiaacdgfaaGreatDoor

/- rostrumlaw06.AriesLocks: the walk. -/
namespace Go.Proofs.YtjknofiaacdgfaaGreatDoor
open Go.RowKit Go.Shelf
set_option linter.unusedVariables false

theorem wth_mid {off m : Nat} {ys : List UInt8} (hy : ys.length = m) (h : off + m ≤ 112) : ((wth (zeros 112) off ys).drop off).take m = ys := by
  have h1 : ((zeros 112).take off).length = off := by simp [zeros]; omega
  unfold wth
  rw [List.append_assoc, List.drop_append, List.drop_of_length_le (by omega), List.nil_append, h1, Nat.sub_self, List.drop_zero, List.take_append_of_le_length (by omega), List.take_of_length_le (by omega)]
theorem rd_zs (W : World) (m : Nat) : Rd (W.alloc (.cells (Zs m) 5)) (some ⟨W.heap.size, 0, none⟩) (zeros m) := fun _ => ⟨_, 0, rfl, fun i v hv => by
  rw [Nat.zero_add]
  refine cellNew ?_
  rw [Zs_arr, List.getElem?_toArray]
  exact hv⟩
/-- The bytes that the law goes on with. -/
def ArgQ (Z : Nat) (p : Par) (w0 : World) (q : Option Addr) (m : Nat) (ys : List UInt8) (wx : World) : Prop :=
  ys.length = m ∧ 0 < m ∧ m ≤ 112 ∧ Rd wx q ys ∧ Below w0.heap.size w0 wx ∧ ∀ b o z, q = some ⟨b, o, z⟩ → b < wx.heap.size ∧ ¬ MS (z0 Z) p wx b
set_option maxRecDepth 20000 in
set_option maxHeartbeats 4000000 in
theorem ariesLocks_walk (a0 a1 : Int) (q0 : Option Addr) (n c : Nat) (xs : List UInt8) (stays : Bool) (w : World) (hT : Halves w) (hg : 0 < w.heap.size) (hx : xs.length = n) (hr : Rd w q0 xs) (hc : n ≤ c) :
    Calls Tryz.prog 3 #[.int .i64 a0, .int .i64 a1, .slice q0 n c, .bool stays] w fun e w' => e = .returned (.bool true) ∧ Below w.heap.size w w' := by
  have HT := Lib.hid hT
  have HG := Lib.hid hg
  have HX := Lib.hid hx
  have HR := Lib.hid hr
  obtain ⟨mn, hmn⟩ : ∃ y, y = min n 112 := ⟨_, rfl⟩
  have hmin1 : (if (112 : Int) < (n : Int) then (112 : Int) else (n : Int)) = (mn : Int) := by split <;> omega
  have hmin2 : (if 112 < n then (112 : Int) else (n : Int)) = (mn : Int) := by split <;> omega
  have hmin3 : min (n : Int) 112 = (mn : Int) := by omega
  have hmc : mn ≤ c := by omega
  have HMN := Lib.hid hmn
  obtain ⟨pg, hpg, htm⟩ := umod a0 6 (by omega)
  have htm' : (IntKind.u64.wrap a0).tmod 6 = (pg : Int) := htm
  clear hT hg hx hr hmn htm hc
  go_enter Tryz.func3, Tryz.ntmps3
  go_wp2_with fail
  refine (lawbegin_any _ HT.out HG.out).mono ?_
  rintro e w1 ⟨bw, bg, bp, bl, bm, ba, bd, rfl, hbw, hf1, hty1, hb1⟩
  have HTY1 := Lib.hid hty1
  have HF := Lib.hid hf1
  have HB1 := Lib.hid hb1
  have HM1 := Lib.hid (fresh_mr hf1)
  have HBW := Lib.hid hbw
  obtain ⟨Z, hZ⟩ : ∃ Z, Z = w.heap.size := ⟨_, rfl⟩
  have HZ := Lib.hid hZ
  obtain ⟨p, hp⟩ : ∃ p, p = par0 bg bp bd bl bm ba := ⟨_, rfl⟩
  have HP := Lib.hid hp
  have HPG : Hid (p.pages = 6 ∧ p.bg = bg) := Lib.hid ⟨by rw [hp]; rfl, by rw [hp]; rfl⟩
  rw [← hp, ← hZ] at HM1
  clear hf1 hb1 hbw hZ hp hty1
  have hpgE : bg = p.bg := HPG.out.2.symm
  subst hpgE
  go_upto_if 32 with fail
  go_cut [2] (fun v wx => ∃ (q : Option Addr) (m cc : Nat) (ys : List UInt8), v = .slice q m cc ∧ Hid (ArgQ Z p w1 q m ys wx))
  case first =>
    by_cases hz : mn = 0
    · have hz1 : ((mn : Int) == 0) = true := by rw [beq_iff_eq]; omega
      clear hz
      go_wp2_with fail
      go_meet
      refine ⟨_, 1, 1, [1], rfl, Lib.hid ⟨rfl, by omega, by omega, rd_one w1 1, (Below.refl _ w1).alloc (Nat.le_refl _) _, fun b o z e => ?_⟩⟩
      cases e
      refine ⟨by simp, fun hm => ?_⟩
      have h1 := (HM1.out.below ((Below.refl _ w1).alloc (Nat.le_refl _) (.cells #[.int .u8 1] 5))).free8 hm ⟨_, heap_alloc_new _ _⟩
      exact h1
    · have hz1 : ((mn : Int) == 0) = false := by rw [beq_eq_false_iff_ne]; omega
      have hpos : 0 < mn := by omega
      clear hz
      go_wp2_with fail
      go_meet
      have hl : (xs.take 112).length = mn := by rw [List.length_take, HX.out, HMN.out]; omega
      refine ⟨q0, mn, c, xs.take 112, rfl, Lib.hid ⟨hl, hpos, by have := HMN.out; omega, (HR.out.below HB1.out).front 112, Below.refl _ _, fun b o z e => ?_⟩⟩
      obtain ⟨b', o', e', hc'⟩ := HR.out.at (by have := HX.out; have := HMN.out; omega)
      rw [e] at e'
      cases e'
      have hbl := cell_lt (hc' 0 (by have := HX.out; have := HMN.out; omega))
      refine ⟨Nat.lt_of_lt_of_le hbl HB1.out.size, fun hm => ?_⟩
      have h1 : Z ≤ b := by rcases hm with hm | hm; exact hm.1; exact hm.1
      have h2 := HZ.out
      have h3 : b < w.heap.size := hbl
      omega
  case rest =>
    obtain ⟨q, m, cc, ys, rfl, HA⟩ := hcut
    have hA := HA.out
    obtain ⟨hyl, hm0, hm112, -, -, -⟩ := hA
    have HY := Lib.hid hyl
    have HMC := Lib.hid (HM1.out.below HA.out.2.2.2.2.1)
    have HBC : Hid (Below w.heap.size w wc) := Lib.hid (chainC HB1.out HA.out.2.2.2.2.1)
    have kbw : wc.cell? ⟨bw, 1, none⟩ = some (.pointer (some ⟨p.bg, 0, none⟩)) := keepC HA.out.2.2.2.2.1 HBW.out
    have HKW := Lib.hid kbw
    have HWT : Hid (Typed wc bw 33) := Lib.hid (by
      obtain ⟨cs, hcs⟩ := HTY1.out
      exact ⟨cs, (HA.out.2.2.2.2.1.block _ (Array.getElem?_eq_some_iff.1 hcs).1).trans hcs⟩)
    obtain ⟨K, hK⟩ : ∃ K, K = 113 - m := ⟨_, rfl⟩
    have hK1 : (113 : Int) - (m : Int) = (K : Int) := by omega
    have hK3 : 0 < K := by omega
    have hK4 : K ≤ 113 := by omega
    have hK2 : IntKind.u64.wrap (K : Int) = (K : Int) := by rw [IntKind.wrap_u64]; omega
    obtain ⟨off, hoff, hto⟩ := umod a1 K hK3
    have hom : off + m ≤ 112 := by clear hto hK2; omega
    have HOM := Lib.hid hom
    have hbwl := cell_lt kbw
    have HH : Hid (0 < m ∧ m ≤ 112 ∧ pg < 6) := Lib.hid ⟨hm0, hm112, hpg⟩
    have hKz : ¬ K = 0 := by clear hto hK2; omega
    clear hyl hK hmin1 hmin2 hmin3 hmc htm'
    go_upto_region 9 with fail
    clear hto hK1 hK2 hK3 hK4 hKz hm0 hm112 hpg hom
    go_wp2_with fail
    refine (begin1 p _ HMC.out).mono ?_
    rintro e w2 ⟨rfl, b1, s2, hm2, hA2, hC2, hl2, hx2, ht2, hla2, hs2⟩
    have HFR : Hid (∀ {wx : World} {sx : ASt}, Step p (st0 Z).N wc sx.N wx → wx.cell? ⟨bw, 1, none⟩ = some (.pointer (some ⟨p.bg, 0, none⟩))) := Lib.hid (fun hs => hs.upd.cell HKW.out (HMC.out.free (t := 33) (by decide) HWT.out))
    have k2 := HFR.out hs2
    have H2 := Lib.hid (And.intro hm2 (And.intro hA2 (And.intro hC2 (And.intro hl2 (And.intro hx2 (And.intro ht2 hla2))))))
    have HS2 := Lib.hid hs2
    clear hm2 hA2 hC2 hl2 hx2 ht2 hla2 hs2 kbw
    have hbw2 := cell_lt k2
    go_wp2_with fail
    refine (begin2 p _ s2 b1 H2.out.1 HPG.out.1 H2.out.2.1 H2.out.2.2.1 H2.out.2.2.2.1 H2.out.2.2.2.2.1 H2.out.2.2.2.2.2.1 H2.out.2.2.2.2.2.2).mono ?_
    rintro e w3 ⟨rfl, s3, hL3, hs3⟩
    have HL3 := Lib.hid hL3
    have HS3 := Lib.hid (HS2.out.trans hs3)
    have k3 := HFR.out HS3.out
    have hbw3 := cell_lt k3
    clear hL3 hs3 k2 hbw2
    go_wp2_with fail
    refine (lock_write p s3 _ pg off m cc q ys HL3.out HH.out.2.2 HY.out HH.out.1 HOM.out (HA.out.2.2.2.1.upd HS3.out.upd (fun b o z e => (HA.out.2.2.2.2.2 b o z e).2)) (fun b o z e => HS3.out.notMS (HA.out.2.2.2.2.2 b o z e).1 (HA.out.2.2.2.2.2 b o z e).2)).mono ?_
    rintro e w4 ⟨rfl, s4, hL4, ht4, hs4⟩
    obtain ⟨eb, heb⟩ : ∃ b, b = (ys == zeros m) := ⟨_, rfl⟩
    have hed : decide (ys = zeros m) = eb := by rw [heb, Bool.eq_iff_iff]; simp
    rw [hed] at hL4
    have HEB := Lib.hid heb
    have HL4 := Lib.hid hL4
    have HT4 : Hid (s4.t ≤ 5) := Lib.hid ht4
    have HS4 := Lib.hid (HS3.out.trans hs4)
    have k4 := HFR.out HS4.out
    have hbw4 := cell_lt k4
    clear hL4 hs4 k3 hbw3 heb hed ht4
    go_wp2_with fail
    refine (lock_read1 p (!eb) pg off m ys s4 _ HL4.out (by have := HT4.out; omega)).mono ?_
    rintro e w5 ⟨q5, d5, s5, rfl, ho5, hL5, ht5, hN5, hs5⟩
    have HBY5 : Hid (Byt w5 s5.N (.slice q5 112 d5) (wth (zeros 112) off ys)) := Lib.hid (Byt.own ho5 (fun k hk => HL4.out.mr.run.st.no k (by rw [← hN5]; exact hk)))
    obtain ⟨g5, rfl, hd5⟩ : ∃ g, q5 = some ⟨g, 0, none⟩ ∧ 112 ≤ d5 := by
      obtain ⟨g, e, -⟩ := own_at1 ho5 (by omega)
      obtain ⟨q', c', e', hc'⟩ := own_slice ho5
      cases e'
      exact ⟨g, e, hc'⟩
    have HL5 := Lib.hid hL5
    have HT5 : Hid (s5.t ≤ 7) := Lib.hid (by have := HT4.out; omega)
    have HS45 := Lib.hid hs5
    have HS5 := Lib.hid (HS4.out.trans hs5)
    have k5 := HFR.out HS5.out
    have hbw5 := cell_lt k5
    clear hL5 hs5 k4 hbw4 ho5 ht5 hN5
    go_wp2_with fail
    refine (lock_read2 p (!eb) pg off m ys s5 _ HL5.out (by have := HT5.out; omega)).mono ?_
    rintro e w6 ⟨v6, f6, s6, rfl, hf6, hL6, ht6, hs6⟩
    have HF6 := Lib.hid hf6
    have HL6 := Lib.hid hL6
    have HT6 : Hid (s6.t ≤ 8) := Lib.hid (by have := HT5.out; omega)
    have HS56 := Lib.hid hs6
    have HS6 := Lib.hid (HS5.out.trans hs6)
    have k6 := HFR.out HS6.out
    have hbw6 := cell_lt k6
    have hmk := make8I m (by have := HH.out; omega)
    clear hL6 hs6 k5 hbw5 ht6 hf6
    go_wp2_with fail
    have HBA := Lib.hid ((Below.refl w6.heap.size w6).alloc (Nat.le_refl _) (.cells (Zs m) 5))
    have HQ7 := Lib.hid ((HA.out.2.2.2.1.upd HS6.out.upd (fun b o z e => (HA.out.2.2.2.2.2 b o z e).2)).below HBA.out)
    refine (equal_any q _ m cc m m ys (zeros m) _ HY.out (by simp [zeros]) HQ7.out (rd_zs w6 m)).mono ?_
    rintro e w7 ⟨rfl, rfl⟩
    rw [← HEB.out]
    have HL7 := Lib.hid (HL6.out.below HBA.out)
    have HBY6 := Lib.hid (HL5.out.mr.byt HS56.out HBY5.out)
    obtain ⟨E, hE⟩ : ∃ E, E = off + m := ⟨_, rfl⟩
    have HOL : Hid (ys.length = E - off) := Lib.hid (by rw [HY.out, hE]; omega)
    have HR7 : Hid (Rd (w6.alloc (.cells (Zs m) 5)) (some ⟨g5, off, none⟩) ys) := Lib.hid (by
      have h1 := (HBY6.out.rd.1.below HBA.out).sub off m
      rw [Nat.zero_add, wth_mid HY.out HOM.out] at h1
      exact h1)
    have hEi : (off : Int) + (m : Int) = (E : Int) := by omega
    have hE1 : (off : Int) ≤ (E : Int) := by omega
    have hEn : off ≤ E := by omega
    have hE2 : (E : Int) ≤ (d5 : Int) := by have := HOM.out; omega
    have hEn2 : E ≤ d5 := by have := HOM.out; omega
    have hdo : ¬ d5 = off := by have := HOM.out; have := HH.out; omega
    have k7 := keepC HBA.out k6
    have HQF7 : Hid (∀ b o z, q = some ⟨b, o, z⟩ → ¬ MS s6.N p (w6.alloc (.cells (Zs m) 5)) b) := Lib.hid (fun b o z e => (HS6.out.trans (Step.of_below HBA.out)).notMS (HA.out.2.2.2.2.2 b o z e).1 (HA.out.2.2.2.2.2 b o z e).2)
    have HS7 := Lib.hid (HS6.out.trans (Step.of_below HBA.out))
    have HEE := Lib.hid hE
    have HEW : Hid (wrap64 (E : Int) = (E : Int)) := Lib.hid (by have := HOM.out; unfold wrap64; omega)
    obtain ⟨W7, hW7⟩ : ∃ W, W = w6.alloc (.cells (Zs m) 5) := ⟨_, rfl⟩
    rw [← hW7] at HQ7 HL7 HR7 k7 HQF7 HS7 ⊢
    have hbw7 := cell_lt k7
    clear k6 hbw6 hmk hW7 hE
    go_upto_region 16 with fail
    go_cut [141] (fun v wx => v = .bool false ∧ Hid (∃ s', LS p (!eb) pg off m ys wx s' ∧ Step p (st0 Z).N wc s'.N wx))
    case first =>
      have hf61 := HF6.out
      have hew := HEW.out
      cases eb with
      | true =>
        have hf1 : (f6 == 61) = false := hf61
        clear hf61
        go_wp2_with (go_at_call 12; refine (equal_same (some ⟨g5, off, none⟩) q (E - off) (d5 - off) m cc ys _ HOL.out HY.out HR7.out HQ7.out).mono ?_; rintro e w8 ⟨rfl, rfl⟩)
        go_meet
        exact ⟨rfl, Lib.hid ⟨s6, HL7.out, HS7.out⟩⟩
      | false =>
        have hf1 : (f6 == 61) = true := hf61
        clear hf61
        go_wp2_with (first
          | (go_at_call 12; refine (equal_same (some ⟨g5, off, none⟩) q (E - off) (d5 - off) m cc ys _ HOL.out HY.out HR7.out HQ7.out).mono ?_; rintro e w8 ⟨rfl, rfl⟩)
          | (go_at_call 10; refine (lock_write2 p pg off m cc q ys s6 _ HL7.out HQ7.out HQF7.out).mono ?_; rintro e w9 ⟨rfl, hL9, hs9⟩; have HL9 := Lib.hid hL9; have HS9 := Lib.hid hs9; clear hL9 hs9))
        go_meet
        exact ⟨rfl, Lib.hid ⟨s6, HL9.out, HS7.out.trans HS9.out⟩⟩
    case rest =>
      obtain ⟨rfl, hcr⟩ := hcut
      obtain ⟨s8, hL8, hs8⟩ := hcr.out
      have HL8 := Lib.hid hL8
      have HS8 := Lib.hid hs8
      have k8 := HFR.out hs8
      have hbw8 := cell_lt k8
      clear hL8 hs8 hcr k7 hbw7 hEi hE1 hEn hE2 hEn2 hdo hd5
      cases stays with
      | true =>
        go_wp2_with fail
        refine (lock_commit p (!eb) pg off m ys s8 _ HL8.out).mono ?_
        rintro e w9 ⟨rfl, s9, hE9, hs9⟩
        have HE9 := Lib.hid hE9
        have HS9 := Lib.hid (HS8.out.trans hs9)
        have k9 := HFR.out HS9.out
        have hbw9 := cell_lt k9
        clear hE9 hs9 k8 hbw8
        go_wp2_with fail
        refine (end_read p pg (wth (zeros 112) off ys) s9 _ HE9.out).mono ?_
        rintro e w10 ⟨q10, d10, s10, rfl, ho10, hm10, hA10, ht10, hN10, hs10⟩
        have HBY10 : Hid (Byt w10 s10.N (.slice q10 112 d10) (wth (zeros 112) off ys)) := Lib.hid (Byt.own ho10 (fun k hk => HE9.out.mr.run.st.no k (by rw [← hN10]; exact hk)))
        obtain ⟨g10, rfl, hd10⟩ : ∃ g, q10 = some ⟨g, 0, none⟩ ∧ 112 ≤ d10 := by
          obtain ⟨g, e, -⟩ := own_at1 ho10 (by omega)
          obtain ⟨q', c', e', hc'⟩ := own_slice ho10
          cases e'
          exact ⟨g, e, hc'⟩
        have HBA10 := Lib.hid ((Below.refl w10.heap.size w10).alloc (Nat.le_refl _) (.cells (Zs m) 5))
        have HS10 := Lib.hid (HS9.out.trans hs10)
        obtain ⟨W11, hw11⟩ : ∃ W, W = w10.alloc (.cells (Zs m) 5) := ⟨_, rfl⟩
        rw [← hw11] at HBA10
        have HS11 := Lib.hid (HS10.out.trans (Step.of_below HBA10.out))
        have HM11 := Lib.hid (hm10.below HBA10.out)
        have HA10 := Lib.hid (And.intro hA10 ht10)
        have HR11 : Hid (Rd W11 (some ⟨g10, off, none⟩) ys) := Lib.hid (by
          have h1 := (HBY10.out.rd.1.below HBA10.out).sub off m
          rw [Nat.zero_add, wth_mid HY.out HOM.out] at h1
          exact h1)
        have HQ11 : Hid (Rd W11 q ys) := Lib.hid (HA.out.2.2.2.1.upd HS11.out.upd (fun b o z e => (HA.out.2.2.2.2.2 b o z e).2))
        have HOZ : Hid ((zeros m).length = E - off) := Lib.hid (by rw [← HOL.out, HY.out]; simp [zeros])
        have HZL : Hid ((zeros m).length = m) := Lib.hid (by simp [zeros])
        have k11 := HFR.out HS11.out
        have hmk := fun W => make8I m (by have := HH.out; omega) W
        have HW11 := Lib.hid hw11
        have hEi : (off : Int) + (m : Int) = (E : Int) := by have := HEE.out; omega
        have hE1 : (off : Int) ≤ (E : Int) := by omega
        have hEn : off ≤ E := by omega
        have hE2 : (E : Int) ≤ (d10 : Int) := by have := HOM.out; have := HEE.out; omega
        have hEn2 : E ≤ d10 := by have := HOM.out; have := HEE.out; omega
        have hdo : ¬ d10 = off := by have := HOM.out; have := HH.out; omega
        clear ho10 hm10 hA10 ht10 hN10 hs10 hd10 k9 hbw9
        have k10 := HFR.out HS10.out
        have hbw11 := cell_lt k11
        have hew := HEW.out
        go_upto_region 24 with fail
        rw [← hw11]
        clear hw11 hmk k10
        go_wp2_with (first
          | (go_at_call 12; refine (equal_same (some ⟨g10, off, none⟩) q (E - off) (d10 - off) m cc ys _ HOL.out HY.out HR11.out HQ11.out).mono ?_; rintro e w12 ⟨rfl, rfl⟩)
          | (go_at_call 13; (with_reducible refine (end_commit p s10 _ HM11.out HA10.out.1 HA10.out.2).mono ?_); rintro e w13 ⟨rfl, s13, hm13, hA13, ht13, hs13⟩; have HM13 := Lib.hid hm13; have HA13 := Lib.hid (And.intro hA13 ht13); have HS13 := Lib.hid (HS11.out.trans hs13); have k13 := HFR.out HS13.out; have hbw13 := cell_lt k13; clear hm13 hA13 ht13 hs13)
          | (go_at_call 13; (with_reducible refine (end_again p s13 _ HM13.out HA13.out.1 HA13.out.2).mono ?_); rintro e w14 ⟨rfl, hs14⟩; have HS14 := Lib.hid (HS13.out.trans hs14); clear hs14))
        go_ret
        refine ⟨rfl, HBC.out.trans ?_⟩
        have h1 := HS14.out.below (by have := HBC.out.size; have := HZ.out; show Z ≤ _; omega)
        rw [← HZ.out]
        exact h1
      | false =>
        go_wp2_with fail
        refine (lock_abort p (!eb) pg off m ys s8 _ HL8.out).mono ?_
        rintro e w9 ⟨rfl, s9, hE9, hs9⟩
        have HE9 := Lib.hid hE9
        have HS9 := Lib.hid (HS8.out.trans hs9)
        have k9 := HFR.out HS9.out
        have hbw9 := cell_lt k9
        clear hE9 hs9 k8 hbw8
        go_wp2_with fail
        refine (end_read p pg (zeros 112) s9 _ HE9.out).mono ?_
        rintro e w10 ⟨q10, d10, s10, rfl, ho10, hm10, hA10, ht10, hN10, hs10⟩
        have HBY10 : Hid (Byt w10 s10.N (.slice q10 112 d10) (zeros 112)) := Lib.hid (Byt.own ho10 (fun k hk => HE9.out.mr.run.st.no k (by rw [← hN10]; exact hk)))
        obtain ⟨g10, rfl, hd10⟩ : ∃ g, q10 = some ⟨g, 0, none⟩ ∧ 112 ≤ d10 := by
          obtain ⟨g, e, -⟩ := own_at1 ho10 (by omega)
          obtain ⟨q', c', e', hc'⟩ := own_slice ho10
          cases e'
          exact ⟨g, e, hc'⟩
        have HBA10 := Lib.hid ((Below.refl w10.heap.size w10).alloc (Nat.le_refl _) (.cells (Zs m) 5))
        have HS10 := Lib.hid (HS9.out.trans hs10)
        obtain ⟨W11, hw11⟩ : ∃ W, W = w10.alloc (.cells (Zs m) 5) := ⟨_, rfl⟩
        rw [← hw11] at HBA10
        have HS11 := Lib.hid (HS10.out.trans (Step.of_below HBA10.out))
        have HM11 := Lib.hid (hm10.below HBA10.out)
        have HA10 := Lib.hid (And.intro hA10 ht10)
        have HR11 : Hid (Rd W11 (some ⟨g10, off, none⟩) (zeros m)) := Lib.hid (by
          have h1 := (HBY10.out.rd.1.below HBA10.out).sub off m
          rw [Nat.zero_add, zeros_take off m HOM.out] at h1
          exact h1)
        have HQ11 : Hid (Rd W11 (some ⟨w10.heap.size, 0, none⟩) (zeros m)) := Lib.hid (by rw [hw11]; exact rd_zs w10 m)
        have HOZ : Hid ((zeros m).length = E - off) := Lib.hid (by rw [← HOL.out, HY.out]; simp [zeros])
        have HZL : Hid ((zeros m).length = m) := Lib.hid (by simp [zeros])
        have k11 := HFR.out HS11.out
        have hmk := fun W => make8I m (by have := HH.out; omega) W
        have HW11 := Lib.hid hw11
        have hEi : (off : Int) + (m : Int) = (E : Int) := by have := HEE.out; omega
        have hE1 : (off : Int) ≤ (E : Int) := by omega
        have hEn : off ≤ E := by omega
        have hE2 : (E : Int) ≤ (d10 : Int) := by have := HOM.out; have := HEE.out; omega
        have hEn2 : E ≤ d10 := by have := HOM.out; have := HEE.out; omega
        have hdo : ¬ d10 = off := by have := HOM.out; have := HH.out; omega
        clear ho10 hm10 hA10 ht10 hN10 hs10 hd10 k9 hbw9
        have k10 := HFR.out HS10.out
        have hbw11 := cell_lt k11
        have hew := HEW.out
        go_upto_region 24 with fail
        rw [← hw11]
        clear hw11 hmk k10
        go_wp2_with (first
          | (go_at_call 12; refine (equal_same (some ⟨g10, off, none⟩) (some ⟨w10.heap.size, 0, none⟩) (E - off) (d10 - off) m m (zeros m) _ HOZ.out HZL.out HR11.out HQ11.out).mono ?_; rintro e w12 ⟨rfl, rfl⟩)
          | (go_at_call 13; (with_reducible refine (end_commit p s10 _ HM11.out HA10.out.1 HA10.out.2).mono ?_); rintro e w13 ⟨rfl, s13, hm13, hA13, ht13, hs13⟩; have HM13 := Lib.hid hm13; have HA13 := Lib.hid (And.intro hA13 ht13); have HS13 := Lib.hid (HS11.out.trans hs13); have k13 := HFR.out HS13.out; have hbw13 := cell_lt k13; clear hm13 hA13 ht13 hs13)
          | (go_at_call 13; (with_reducible refine (end_again p s13 _ HM13.out HA13.out.1 HA13.out.2).mono ?_); rintro e w14 ⟨rfl, hs14⟩; have HS14 := Lib.hid (HS13.out.trans hs14); clear hs14))
        go_ret
        refine ⟨rfl, HBC.out.trans ?_⟩
        have h1 := HS14.out.below (by have := HBC.out.size; have := HZ.out; show Z ≤ _; omega)
        rw [← HZ.out]
        exact h1
end Go.Proofs.YtjknofiaacdgfaaGreatDoor
