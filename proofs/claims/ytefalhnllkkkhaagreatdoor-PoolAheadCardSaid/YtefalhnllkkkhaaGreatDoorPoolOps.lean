/- Get, Pin, Unpin over a pool in use. -/
import Derived.Test.YtefalhnllkkkhaaGreatDoorPoolIn
namespace Go.Proofs.YtefalhnllkkkhaaGreatDoor
open Go.RowKit Go.Shelf
set_option linter.unusedVariables false

/-- A pool in use: disk, log, pool, what its pages are. -/
structure Run (N : Zone) (bp bd bl bm fro pages buffers sz : Nat) (w : World) (clock c : Nat) (M : List (Int × Buf)) (C : Int → Nat × List UInt8) (D : Nat → List UInt8) (L : LogV) : Prop where
  st : St w N bd bl sz c D L
  pool : PoolAt w N bp bd bl bm fro pages buffers clock M
  inv : PInv fro pages D M C
  small : fro + pages ≤ sz
  log : L.fro + L.sectors ≤ fro
  force : L.forced = L.last ∨ ForceC N bd bl sz
  len : M.length ≤ buffers
  buf : 1 ≤ buffers ∧ buffers ≤ 64
/-- Where a call of a pool leads: at most one more tick, at most one more write. -/
structure Goes (N : Zone) (bp bd bl bm fro pages buffers sz : Nat) (w : World) (clock c : Nat) (M : List (Int × Buf)) (C : Int → Nat × List UInt8) (D : Nat → List UInt8) (L : LogV) (w' : World) (clock' c' : Nat) (M' : List (Int × Buf)) (D' : Nat → List UInt8) (L' : LogV) : Prop where
  run : Run N bp bd bl bm fro pages buffers sz w' clock' c' M' C D' L'
  tick : clock ≤ clock' ∧ clock' ≤ clock + 1
  more : c' ≤ c + 1
  wr : Wr fro pages C L D L' D'
  upd : Upd (FS N bm w) w w'
  clean : (∀ x ∈ M, x.2.first = 0) → c' = c ∧ ∀ x ∈ M', x.2.first = 0

section
variable {N : Zone} {bp bd bl bm fro pages buffers sz : Nat} {w w' : World} {clock c : Nat} {M : List (Int × Buf)} {C : Int → Nat × List UInt8} {D : Nat → List UInt8} {L : LogV}
theorem Run.below (h : Run N bp bd bl bm fro pages buffers sz w clock c M C D L) (hb : Below w.heap.size w w') : Run N bp bd bl bm fro pages buffers sz w' clock c M C D L :=
  ⟨h.st.below hb, h.pool.below hb, h.inv, h.small, h.log, h.force, h.len, h.buf⟩
/-- Blocks of types that are none of the pool's. -/
theorem Run.upd {T : Nat → Prop} (h : Run N bp bd bl bm fro pages buffers sz w clock c M C D L) (hu : Upd T w w') (hB : ∀ k, T k → N.B ≤ k) (hT : ∀ k, T k → ¬ FS N bm w k ∧ ¬ Typed w k 5) : Run N bp bd bl bm fro pages buffers sz w' clock c M C D L := by
  have hf : ∀ k, T k → (¬ DS N w k ∧ ¬ Typed w k 77 ∧ ¬ Typed w k 5) ∧ (¬ Typed w k 56 ∧ ¬ Typed w k 87 ∧ k ≠ bm) := fun k hk => by
    obtain ⟨h1, h2⟩ := hT k hk
    have hb := hB k hk
    refine ⟨⟨fun hd => h1 (FS.of_ds hd), fun ht => h1 ⟨hb, .inr (.inr (.inr (.inl ht)))⟩, h2⟩, fun ht => h1 ⟨hb, .inr (.inr (.inr (.inr (.inl ht))))⟩, fun ht => h1 ⟨hb, .inr (.inr (.inr (.inr (.inr (.inl ht)))))⟩, fun ht => h1 ⟨hb, .inr (.inr (.inr (.inr (.inr (.inr ht)))))⟩⟩
  exact ⟨h.st.upd hu hB (fun k hk => (hf k hk).1), h.pool.upd hu (fun k hk _ => (hf k hk).2) (fun k hk ht => absurd ht (hT k hk).2), h.inv, h.small, h.log, h.force, h.len, h.buf⟩
theorem Wr.run {D' : Nat → List UInt8} {L' : LogV} (h : Run N bp bd bl bm fro pages buffers sz w clock c M C D L) (hw : Wr fro pages C L D L' D') : L'.fro + L'.sectors ≤ fro ∧ (L'.forced = L'.last ∨ ForceC N bd bl sz) := by
  obtain ⟨e1, e2, e3, e4, -⟩ := hw.same
  refine ⟨by rw [e1, e2]; exact h.log, h.force.imp e4 id⟩

/-- A page is brought in. -/
theorem in_any (n : Int) (h : Run N bp bd bl bm fro pages buffers sz w clock c M C D L) (h0 : 0 ≤ n) (h1 : n < pages) (hc : clock < 2305843009213693952) (hcc : c < 1000000) :
    Calls Tryz.prog 35 #[.pointer (some ⟨bp, 0, none⟩), .int .i64 n] w fun e w' =>
      (e = .returned (.tuple #[.pointer none, .int .i64 50]) ∧ (∀ x ∈ M, x.2.pins ≠ 0) ∧ M ≠ [] ∧ Goes N bp bd bl bm fro pages buffers sz w clock c M C D L w' clock c M D L) ∨
      ∃ b' clock' c' M' D' L', e = .returned (.tuple #[.pointer (some ⟨b'.blk, 0, none⟩), .int .i64 0]) ∧ (n, b') ∈ M' ∧ (∀ k, pinsOf M' k = pinsOf M k) ∧ Goes N bp bd bl bm fro pages buffers sz w clock c M C D L w' clock' c' M' D' L' := by
  have key : ∀ e w', InQ N bp bd bl bm fro pages buffers clock sz c M C n D L w e w' → (e = .returned (.tuple #[.pointer none, .int .i64 50]) ∧ (∀ x ∈ M, x.2.pins ≠ 0) ∧ M ≠ [] ∧ Goes N bp bd bl bm fro pages buffers sz w clock c M C D L w' clock c M D L) ∨
      ∃ b' clock' c' M' D' L', e = .returned (.tuple #[.pointer (some ⟨b'.blk, 0, none⟩), .int .i64 0]) ∧ (n, b') ∈ M' ∧ (∀ k, pinsOf M' k = pinsOf M k) ∧ Goes N bp bd bl bm fro pages buffers sz w clock c M C D L w' clock' c' M' D' L' := by
    rintro e w' (⟨rfl, q1, q2, q3, q4, q5⟩ | ⟨c', M1, L', D', b', rfl, q1, q2, q3, q4, q5, q6, q7, q8, q9, q10, q11⟩)
    · exact .inl ⟨rfl, q2, fun hm => by have := h.buf.1; rw [hm] at q1; simp at q1; omega, ⟨⟨q3, q4, h.inv, h.small, h.log, h.force, h.len, h.buf⟩, ⟨Nat.le_refl _, by omega⟩, by omega, .inl ⟨rfl, rfl⟩, q5, fun hf => ⟨rfl, hf⟩⟩⟩
    · obtain ⟨r1, r2⟩ := q7.run h
      exact .inr ⟨b', clock + 1, c', M1, D', L', rfl, q3, q8, ⟨⟨q4, q5, q6, h.small, r1, r2, q9 h.len, h.buf⟩, ⟨by omega, Nat.le_refl _⟩, q1, q7, q11, fun hf => ⟨q2 hf, q10 hf⟩⟩⟩
  by_cases hm : n ∈ M.map (·.1)
  · obtain ⟨⟨n', b⟩, hb, rfl⟩ := List.mem_map.1 hm
    exact (in_held bp bd bl bm fro pages buffers clock sz c M C n' D L w b h.pool h.st h.inv hc hb).mono key
  · exact (in_new bp bd bl bm fro pages buffers clock sz c M C n D L w _ rfl h.pool h.st h.inv h0 h1 h.small hcc hc h.log h.force h.buf.2 hm).mono key
end

/-- What Pin answers and leaves. -/
def PinQ (N : Zone) (bp bd bl bm fro pages buffers sz : Nat) (w : World) (clock c : Nat) (M : List (Int × Buf)) (C : Int → Nat × List UInt8) (D : Nat → List UInt8) (L : LogV) (n : Int) (e : Ending) (w' : World) : Prop :=
  ∃ (v : Int) (clock' c' : Nat) (M' : List (Int × Buf)) (D' : Nat → List UInt8) (L' : LogV), e = .returned (.int .i64 v) ∧ (∀ k, pinsOf M' k = if v = 0 ∧ k = n then pinsOf M k + 1 else pinsOf M k) ∧ Goes N bp bd bl bm fro pages buffers sz w clock c M C D L w' clock' c' M' D' L'
section
variable {N : Zone} {bp bd bl bm fro pages buffers sz : Nat} {clock c : Nat} {M : List (Int × Buf)} {C : Int → Nat × List UInt8} {D : Nat → List UInt8} {L : LogV} (w : World)
set_option maxRecDepth 20000 in
set_option maxHeartbeats 2000000 in
theorem pin_any (n : Int) (h : Run N bp bd bl bm fro pages buffers sz w clock c M C D L) (h0 : 0 ≤ n) (h1 : n < pages) (hc : clock < 2305843009213693952) (hcc : c < 1000000) :
    Calls Tryz.prog 18 #[.pointer (some ⟨bp, 0, none⟩), .int .i64 n] w (PinQ N bp bd bl bm fro pages buffers sz w clock c M C D L n) := by
  have H := Lib.hid h
  have H0 := Lib.hid h0
  have H1 := Lib.hid h1
  have HC := Lib.hid hc
  have HCC := Lib.hid hcc
  clear h h0 h1 hc hcc
  go_enter Tryz.func18, Tryz.ntmps18
  go_wp2_with fail
  refine (plook_any bp bd bl bm fro pages buffers clock M n _ H.out.pool H0.out H1.out).mono ?_
  rintro e w1 ⟨rfl, rfl⟩
  go_wp2_with fail
  refine (in_any n H.out H0.out H1.out HC.out HCC.out).mono ?_
  rintro e w2 (⟨rfl, q1, q2, hg⟩ | ⟨b, clock', c', M', D', L', rfl, hm, hp, hg⟩)
  · have HG := Lib.hid hg
    clear q1 q2 hg
    dsimp only
    go_wp2_with fail
    go_returns
    unfold PinQ
    exact ⟨50, clock, c, M, D, L, rfl, fun k => by rw [if_neg (by omega)], HG.out⟩
  · have HG := Lib.hid hg
    have HM := Lib.hid hm
    have HP := Lib.hid hp
    have c3 := (hg.run.pool.bufs _ hm).cell.2.2.2.1
    have f3 : w2.frozen? ⟨b.blk, 3, none⟩ = false := by obtain ⟨u, hu, -⟩ := hg.run.pool.bufs _ hm; exact frozenC hu
    have hok := hg.run.pool.nums _ hm
    have h100 := hok.pins
    simp only at c3 h100
    have HOK := Lib.hid hok
    clear hg hm hp hok
    obtain ⟨p, hpe⟩ : ∃ p, p = b.pins := ⟨_, rfl⟩
    rw [← hpe] at c3 h100
    have HPE := Lib.hid hpe
    clear hpe
    dsimp only
    by_cases hb : 100 ≤ p
    · have HB := Lib.hid hb
      go_wp2_with fail
      go_returns
      unfold PinQ
      exact ⟨3, clock', c', M', D', L', rfl, fun k => by rw [if_neg (by omega)]; exact HP.out k, HG.out⟩
    · have hb' : p < 100 := by omega
      have hw : IntKind.i64.wrap ((p : Int) + 1) = ((p + 1 : Nat) : Int) := by rw [IntKind.wrap_i64]; omega
      clear h100 hb
      go_wp2_with fail
      go_returns
      obtain ⟨Q, hQ⟩ : ∃ Q : Buf, Q = { b with pins := p + 1 } := ⟨_, rfl⟩
      have hpool := HG.out.run.pool
      obtain ⟨v0, hh, hy⟩ := hpool.bufs _ HM.out
      have hu := Upd.setC w2 b.blk 3 (.int .i64 (p + 1 : Nat))
      have hT : ∀ k, k = b.blk → N.B ≤ k ∧ (Typed w2 k 56 ∨ Typed w2 k 87 ∨ k = bm) := fun k hk => by subst hk; exact ⟨hpool.low.2.2 _ HM.out, .inr (.inl (hpool.bufs _ HM.out).typed)⟩
      have hne : bp ≠ b.blk := fun e => absurd ((hpool.bufs _ HM.out).typed.one (e ▸ hpool.typed)) (by decide)
      have hturn : PoolAt (w2.setCell ⟨b.blk, 3, none⟩ (.int .i64 (p + 1 : Nat))) N bp bd bl bm fro pages buffers clock' (setM M' n Q) := by
        refine hpool.turn HM.out (hu.mono fun k _ hk => .inr hk) (by rw [hQ]) ⟨v0, ?_, ?_⟩ ?_ (Nat.le_refl _) ?_
        · rw [hQ, heap_setCell_same w2 b.blk 3 _ _ _ hh]
          rfl
        · rw [hQ]
          exact hy.upd hu (fun k hk ht => by subst hk; exact absurd (ht.one (hpool.bufs _ HM.out).typed) (by decide))
        · rw [hQ]
          exact ⟨HOK.out.load, HOK.out.lsn, HOK.out.first, by simp; omega, HOK.out.used⟩
        · exact (hu.block bp (Array.getElem?_eq_some_iff.1 hpool.cells).1 hne).trans hpool.cells
      have hg := HG.out
      unfold PinQ
      refine ⟨0, clock', c', setM M' n Q, D', L', rfl, fun k => ?_, ⟨⟨hg.run.st.pooled hpool hu hT, hturn, hg.run.inv.used HM.out (by rw [hQ]) (by rw [hQ]) (by rw [hQ]), hg.run.small, hg.run.log, hg.run.force, by rw [setM_length]; exact hg.run.len, hg.run.buf⟩, hg.tick, hg.more, hg.wr, FS.trans hg.upd (FS.of_pool hu hT), fun hf => ⟨(hg.clean hf).1, clean_setM (fun h => by rw [hQ]; exact h _ HM.out) (hg.clean hf).2⟩⟩⟩
      have e1 : pinsOf M' n = p := by unfold pinsOf; rw [look_of_mem hpool.nodup HM.out, HPE.out]; rfl
      rw [← HP.out k]
      by_cases hk : k = n
      · subst hk
        rw [if_pos ⟨rfl, rfl⟩, e1]
        unfold pinsOf
        rw [look_setM, look_of_mem hpool.nodup HM.out]
        simp [hQ]
      · rw [if_neg (fun h => hk h.2)]
        unfold pinsOf
        rw [look_setM]
        simp [hk]
end
end Go.Proofs.YtefalhnllkkkhaaGreatDoor

namespace Go.Proofs.YtefalhnllkkkhaaGreatDoor
open Go.RowKit Go.Shelf
set_option linter.unusedVariables false

def UnpinQ (N : Zone) (bp bd bl bm fro pages buffers sz : Nat) (w : World) (clock c : Nat) (M : List (Int × Buf)) (C : Int → Nat × List UInt8) (D : Nat → List UInt8) (L : LogV) (n : Int) (e : Ending) (w' : World) : Prop :=
  ∃ (v : Int) (M' : List (Int × Buf)), e = .returned (.int .i64 v) ∧ (v = 0 ↔ 0 < pinsOf M n) ∧ (∀ k, pinsOf M' k = if k = n then pinsOf M k - 1 else pinsOf M k) ∧ Goes N bp bd bl bm fro pages buffers sz w clock c M C D L w' clock c M' D L
def GetQ (N : Zone) (bp bd bl bm fro pages buffers sz : Nat) (w : World) (clock c : Nat) (M : List (Int × Buf)) (C : Int → Nat × List UInt8) (D : Nat → List UInt8) (L : LogV) (n : Int) (e : Ending) (w' : World) : Prop :=
  (e = .returned (.tuple #[.slice none 0 0, .int .i64 0, .int .i64 50]) ∧ (∀ x ∈ M, x.2.pins ≠ 0) ∧ M ≠ [] ∧ Goes N bp bd bl bm fro pages buffers sz w clock c M C D L w' clock c M D L) ∨
  ∃ (q : Option Addr) (d clock' c' : Nat) (M' : List (Int × Buf)) (D' : Nat → List UInt8) (L' : LogV), e = .returned (.tuple #[.slice q 112 d, .int .i64 (C n).1, .int .i64 0]) ∧ w'.ownsRow w.heap.size 5 1 (.slice q 112 d) 112 (B8s (C n).2) ∧ (∀ k, pinsOf M' k = pinsOf M k) ∧ Goes N bp bd bl bm fro pages buffers sz w clock c M C D L w' clock' c' M' D' L'
theorem Goes.refl {N : Zone} {bp bd bl bm fro pages buffers sz : Nat} {clock c : Nat} {M : List (Int × Buf)} {C : Int → Nat × List UInt8} {D : Nat → List UInt8} {L : LogV} {w : World} (h : Run N bp bd bl bm fro pages buffers sz w clock c M C D L) : Goes N bp bd bl bm fro pages buffers sz w clock c M C D L w clock c M D L :=
  ⟨h, ⟨Nat.le_refl _, by omega⟩, by omega, .inl ⟨rfl, rfl⟩, Upd.refl _ _, fun hf => ⟨rfl, hf⟩⟩
theorem Goes.later {N : Zone} {bp bd bl bm fro pages buffers sz : Nat} {clock c clock' c' : Nat} {M M' : List (Int × Buf)} {C : Int → Nat × List UInt8} {D D' : Nat → List UInt8} {L L' : LogV} {w w1 w2 : World} (h : Goes N bp bd bl bm fro pages buffers sz w clock c M C D L w1 clock' c' M' D' L') (hb : Below w1.heap.size w1 w2) : Goes N bp bd bl bm fro pages buffers sz w clock c M C D L w2 clock' c' M' D' L' :=
  ⟨h.run.below hb, h.tick, h.more, h.wr, FS.trans h.upd (FS.of_below hb), h.clean⟩
theorem pinsOf_at {M : List (Int × Buf)} (hn : (M.map (·.1)).Nodup) {n : Int} {b : Buf} (hm : (n, b) ∈ M) : pinsOf M n = b.pins := by
  unfold pinsOf
  rw [look_of_mem hn hm]
  rfl

section
variable {N : Zone} {bp bd bl bm fro pages buffers sz : Nat} {clock c : Nat} {M : List (Int × Buf)} {C : Int → Nat × List UInt8} {D : Nat → List UInt8} {L : LogV} (w : World)
set_option maxRecDepth 20000 in
set_option maxHeartbeats 2000000 in
theorem unpin_any (n : Int) (h : Run N bp bd bl bm fro pages buffers sz w clock c M C D L) (h0 : 0 ≤ n) (h1 : n < pages) :
    Calls Tryz.prog 19 #[.pointer (some ⟨bp, 0, none⟩), .int .i64 n] w (UnpinQ N bp bd bl bm fro pages buffers sz w clock c M C D L n) := by
  have H := Lib.hid h
  have H0 := Lib.hid h0
  have H1 := Lib.hid h1
  have k0 := h.pool.load.1
  rcases hl : look M n with _ | b
  · have HL : Hid (look (mapP M) n = none) := Lib.hid (by rw [look_mapP, hl]; rfl)
    have HP : Hid (pinsOf M n = 0) := Lib.hid (by unfold pinsOf; rw [hl]; rfl)
    clear h h0 h1 hl
    go_enter Tryz.func19, Tryz.ntmps19
    go_wp2_with fail
    refine (plook_any bp bd bl bm fro pages buffers clock M n _ H.out.pool H0.out H1.out).mono ?_
    rintro e w1 ⟨rfl, rfl⟩
    go_wp2_with (at_lookup; refine wpList_look_ok (KK := intKeys) rfl _ _ 52 rfl 3 83 Tryz.underlying52 Tryz.underlying3 _ zbuf n rfl rfl H.out.pool.map.is ?_; rw [HL.out, Option.getD_none, Option.isSome_none])
    go_returns
    unfold UnpinQ
    refine ⟨3, M, rfl, by rw [HP.out]; simp, fun k => ?_, Goes.refl H.out⟩
    by_cases hk : k = n
    · rw [if_pos hk, hk, HP.out]
    · rw [if_neg hk]
  · have hm := look_mem hl
    have HM := Lib.hid hm
    have HL : Hid (look (mapP M) n = some (.pointer (some ⟨b.blk, 0, none⟩))) := Lib.hid (by rw [look_mapP, hl]; rfl)
    have HP : Hid (pinsOf M n = b.pins) := Lib.hid (by unfold pinsOf; rw [hl]; rfl)
    have c3 := (h.pool.bufs _ hm).cell.2.2.2.1
    have f3 : w.frozen? ⟨b.blk, 3, none⟩ = false := by obtain ⟨u, hu, -⟩ := h.pool.bufs _ hm; exact frozenC hu
    have h100 := (h.pool.nums _ hm).pins
    have HOK := Lib.hid (h.pool.nums _ hm)
    simp only at c3 h100
    obtain ⟨p, hpe⟩ : ∃ p, p = b.pins := ⟨_, rfl⟩
    rw [← hpe] at c3 h100
    have HPE := Lib.hid hpe
    clear h h0 h1 hl hm hpe
    by_cases hp0 : p = 0
    · have hd : ((p : Int) == 0) = true := by rw [beq_iff_eq]; omega
      have HP0 := Lib.hid hp0
      clear hp0 h100
      go_enter Tryz.func19, Tryz.ntmps19
      go_wp2_with fail
      refine (plook_any bp bd bl bm fro pages buffers clock M n _ H.out.pool H0.out H1.out).mono ?_
      rintro e w1 ⟨rfl, rfl⟩
      go_wp2_with (at_lookup; refine wpList_look_ok (KK := intKeys) rfl _ _ 52 rfl 3 83 Tryz.underlying52 Tryz.underlying3 _ zbuf n rfl rfl H.out.pool.map.is ?_; rw [HL.out, Option.getD_some, Option.isSome_some])
      go_returns
      unfold UnpinQ
      refine ⟨3, M, rfl, by rw [HP.out, ← HPE.out, HP0.out]; simp, fun k => ?_, Goes.refl H.out⟩
      by_cases hk : k = n
      · rw [if_pos hk, hk, HP.out, ← HPE.out, HP0.out]
      · rw [if_neg hk]
    · have hd : ((p : Int) == 0) = false := by rw [beq_eq_false_iff_ne]; omega
      obtain ⟨p', rfl⟩ : ∃ p', p = p' + 1 := ⟨p - 1, by omega⟩
      have hw : IntKind.i64.wrap (((p' + 1 : Nat) : Int) - 1) = (p' : Int) := by rw [IntKind.wrap_i64]; omega
      obtain ⟨R, hR⟩ : ∃ R, R = p' + 1 := ⟨_, rfl⟩
      rw [← hR] at c3 hd hw HPE h100
      have HR := Lib.hid hR
      clear hR hp0
      go_enter Tryz.func19, Tryz.ntmps19
      go_wp2_with fail
      refine (plook_any bp bd bl bm fro pages buffers clock M n _ H.out.pool H0.out H1.out).mono ?_
      rintro e w1 ⟨rfl, rfl⟩
      go_wp2_with (at_lookup; refine wpList_look_ok (KK := intKeys) rfl _ _ 52 rfl 3 83 Tryz.underlying52 Tryz.underlying3 _ zbuf n rfl rfl H.out.pool.map.is ?_; rw [HL.out, Option.getD_some, Option.isSome_some])
      go_returns
      obtain ⟨Q, hQ⟩ : ∃ Q : Buf, Q = { b with pins := p' } := ⟨_, rfl⟩
      have hrun := H.out
      have hpool := hrun.pool
      obtain ⟨v0, hh, hy⟩ := hpool.bufs _ HM.out
      have hu := Upd.setC w1 b.blk 3 (.int .i64 p')
      have hT : ∀ k, k = b.blk → N.B ≤ k ∧ (Typed w1 k 56 ∨ Typed w1 k 87 ∨ k = bm) := fun k hk => by subst hk; exact ⟨hpool.low.2.2 _ HM.out, .inr (.inl (hpool.bufs _ HM.out).typed)⟩
      have hne : bp ≠ b.blk := fun e => absurd ((hpool.bufs _ HM.out).typed.one (e ▸ hpool.typed)) (by decide)
      have hturn : PoolAt (w1.setCell ⟨b.blk, 3, none⟩ (.int .i64 p')) N bp bd bl bm fro pages buffers clock (setM M n Q) := by
        refine hpool.turn HM.out (hu.mono fun k _ hk => .inr hk) (by rw [hQ]) ⟨v0, ?_, ?_⟩ ?_ (Nat.le_refl _) ?_
        · rw [hQ, heap_setCell_same w1 b.blk 3 _ _ _ hh]
          rfl
        · rw [hQ]
          exact hy.upd hu (fun k hk ht => by subst hk; exact absurd (ht.one (hpool.bufs _ HM.out).typed) (by decide))
        · rw [hQ]
          exact ⟨HOK.out.load, HOK.out.lsn, HOK.out.first, by have := HR.out; simp; omega, HOK.out.used⟩
        · exact (hu.block bp (Array.getElem?_eq_some_iff.1 hpool.cells).1 hne).trans hpool.cells
      have hp1 : pinsOf M n = p' + 1 := by rw [HP.out, ← HPE.out, HR.out]
      unfold UnpinQ
      refine ⟨0, setM M n Q, rfl, by rw [hp1]; simp, fun k => ?_, ⟨⟨hrun.st.pooled hpool hu hT, hturn, hrun.inv.used HM.out (by rw [hQ]) (by rw [hQ]) (by rw [hQ]), hrun.small, hrun.log, hrun.force, by rw [setM_length]; exact hrun.len, hrun.buf⟩, ⟨Nat.le_refl _, by omega⟩, by omega, .inl ⟨rfl, rfl⟩, FS.of_pool hu hT, fun hf => ⟨rfl, clean_setM (fun h => by rw [hQ]; exact h _ HM.out) hf⟩⟩⟩
      by_cases hk : k = n
      · subst hk
        rw [if_pos rfl, hp1]
        unfold pinsOf
        rw [look_setM, look_of_mem hpool.nodup HM.out]
        simp [hQ]
      · rw [if_neg hk]
        unfold pinsOf
        rw [look_setM]
        simp [hk]

set_option maxRecDepth 20000 in
set_option maxHeartbeats 2000000 in
theorem get_any (n : Int) (h : Run N bp bd bl bm fro pages buffers sz w clock c M C D L) (h0 : 0 ≤ n) (h1 : n < pages) (hc : clock < 2305843009213693952) (hcc : c < 1000000) :
    Calls Tryz.prog 17 #[.pointer (some ⟨bp, 0, none⟩), .int .i64 n] w (GetQ N bp bd bl bm fro pages buffers sz w clock c M C D L n) := by
  have H := Lib.hid h
  have H0 := Lib.hid h0
  have H1 := Lib.hid h1
  have HC := Lib.hid hc
  have HCC := Lib.hid hcc
  clear h h0 h1 hc hcc
  go_enter Tryz.func17, Tryz.ntmps17
  go_wp2_with fail
  refine (plook_any bp bd bl bm fro pages buffers clock M n _ H.out.pool H0.out H1.out).mono ?_
  rintro e w1 ⟨rfl, rfl⟩
  go_wp2_with fail
  refine (in_any n H.out H0.out H1.out HC.out HCC.out).mono ?_
  rintro e w2 (⟨rfl, q1, q2, hg⟩ | ⟨b, clock', c', M', D', L', rfl, hm, hp, hg⟩)
  · have HG := Lib.hid hg
    have HQ := Lib.hid (And.intro q1 q2)
    clear q1 q2 hg
    dsimp only
    go_wp2_with fail
    go_returns
    unfold GetQ
    exact .inl ⟨rfl, HQ.out.1, HQ.out.2, HG.out⟩
  · have HG := Lib.hid hg
    have HM := Lib.hid hm
    have HP := Lib.hid hp
    obtain ⟨e1, e2, -⟩ := hg.run.inv.held _ hm
    simp only at e1 e2
    obtain ⟨⟨v0, c0, hby⟩, c1, -⟩ := (hg.run.pool.bufs _ hm).cell
    obtain ⟨q0, d0, rfl⟩ := hby.slice
    have h112 := (hg.run.pool.nums _ hm).load
    simp only at c0 c1 hby h112
    rw [h112] at c0 hby
    rw [e1] at c1
    have HE2 := Lib.hid e2
    have HRD := Lib.hid (hby.rd.1.drewN 1)
    have H112 := Lib.hid h112
    obtain ⟨l, hl⟩ : ∃ l, l = (C n).1 := ⟨_, rfl⟩
    rw [← hl] at c1
    have HLL := Lib.hid hl
    have hlt := cell_lt c1
    have HGD := Lib.hid (hg.later (Below.refl _ w2).drew)
    clear hg hm hp e1 e2 hby h112 hl
    dsimp only
    go_wp2_with fail
    go_region_law (first
      | (go_simp; go_at_call 10; refine (clone_any q0 112 d0 b.load _ H112.out (by omega) HRD.out).mono ?_; rintro e w3 ⟨v3, rfl, ho3, hb3⟩; obtain ⟨q3, d3, rfl, -⟩ := own_slice ho3; have c13 := keepC hb3 (show w2.drew.cell? _ = _ from c1); have HO3 := Lib.hid ho3; have HB3 := Lib.hid hb3; clear ho3 hb3))
    all_goals go_wp2_with fail
    all_goals go_returns
    all_goals
      unfold GetQ
      refine .inr ⟨q3, d3, clock', c', M', D', L', congrArg (fun x : Nat => Ending.returned (.tuple #[.slice q3 112 d3, .int .i64 (x : Int), .int .i64 0])) HLL.out, ?_, HP.out, HGD.out.later HB3.out⟩
      rw [← HE2.out]
      exact own_mono HO3.out HG.out.upd.size
end
end Go.Proofs.YtefalhnllkkkhaaGreatDoor
