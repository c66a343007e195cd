/- Get, Pin, Unpin over a pool in use. -/
import Derived.Test.YtheeomjfpnijbaaGreatDoorPoolIn
namespace Go.Proofs.YtheeomjfpnijbaaGreatDoor
open Go.RowKit Go.Shelf
set_option linter.unusedVariables false

/-- A pool in use: disk, log, pool, what its pages are. -/
structure Run (N : Zone) (bp bd bl bm fro pages buffers sz : Nat) (w : World) (clock c : Nat) (M : List (Int × Buf)) (C : Int → Nat × List UInt8) (D : Nat → List UInt8) (L : LogV) : Prop where
  st : St w N bd bl sz c D L
  pool : PoolAt w N bp bd bl bm fro pages buffers clock M
  inv : PInv fro pages D M C
  small : fro + pages ≤ sz
  log : L.fro + L.sectors ≤ fro
  force : L.forced = L.last ∨ ForceC N bd bl sz
  len : M.length ≤ buffers
  buf : 1 ≤ buffers ∧ buffers ≤ 64
/-- Where a call of a pool leads: at most one more tick, at most one more write. -/
structure Goes (N : Zone) (bp bd bl bm fro pages buffers sz : Nat) (w : World) (clock c : Nat) (M : List (Int × Buf)) (C : Int → Nat × List UInt8) (D : Nat → List UInt8) (L : LogV) (w' : World) (clock' c' : Nat) (M' : List (Int × Buf)) (D' : Nat → List UInt8) (L' : LogV) : Prop where
  run : Run N bp bd bl bm fro pages buffers sz w' clock' c' M' C D' L'
  tick : clock ≤ clock' ∧ clock' ≤ clock + 1
  more : c' ≤ c + 1
  wr : Wr fro pages C L D L' D'
  upd : Upd (FS N bm w) w w'
  clean : (∀ x ∈ M, x.2.first = 0) → c' = c ∧ ∀ x ∈ M', x.2.first = 0

section
variable {N : Zone} {bp bd bl bm fro pages buffers sz : Nat} {w w' : World} {clock c : Nat} {M : List (Int × Buf)} {C : Int → Nat × List UInt8} {D : Nat → List UInt8} {L : LogV}
theorem Run.below (h : Run N bp bd bl bm fro pages buffers sz w clock c M C D L) (hb : Below w.heap.size w w') : Run N bp bd bl bm fro pages buffers sz w' clock c M C D L :=
  ⟨h.st.below hb, h.pool.below hb, h.inv, h.small, h.log, h.force, h.len, h.buf⟩
/-- Blocks of types that are none of the pool's. -/
theorem Run.upd {T : Nat → Prop} (h : Run N bp bd bl bm fro pages buffers sz w clock c M C D L) (hu : Upd T w w') (hB : ∀ k, T k → N.B ≤ k) (hT : ∀ k, T k → ¬ FS N bm w k ∧ ¬ Typed w k 5) : Run N bp bd bl bm fro pages buffers sz w' clock c M C D L := by
  have hf : ∀ k, T k → (¬ DS N w k ∧ ¬ Typed w k 267 ∧ ¬ Typed w k 5) ∧ (¬ Typed w k 261 ∧ ¬ Typed w k 321 ∧ k ≠ bm) := fun k hk => by
    obtain ⟨h1, h2⟩ := hT k hk
    have hb := hB k hk
    refine ⟨⟨fun hd => h1 (FS.of_ds hd), fun ht => h1 ⟨hb, .inr (.inr (.inr (.inl ht)))⟩, h2⟩, fun ht => h1 ⟨hb, .inr (.inr (.inr (.inr (.inl ht))))⟩, fun ht => h1 ⟨hb, .inr (.inr (.inr (.inr (.inr (.inl ht)))))⟩, fun ht => h1 ⟨hb, .inr (.inr (.inr (.inr (.inr (.inr ht)))))⟩⟩
  exact ⟨h.st.upd hu hB (fun k hk => (hf k hk).1), h.pool.upd hu (fun k hk _ => (hf k hk).2) (fun k hk ht => absurd ht (hT k hk).2), h.inv, h.small, h.log, h.force, h.len, h.buf⟩
theorem Wr.run {D' : Nat → List UInt8} {L' : LogV} (h : Run N bp bd bl bm fro pages buffers sz w clock c M C D L) (hw : Wr fro pages C L D L' D') : L'.fro + L'.sectors ≤ fro ∧ (L'.forced = L'.last ∨ ForceC N bd bl sz) := by
  obtain ⟨e1, e2, e3, e4, -⟩ := hw.same
  refine ⟨by rw [e1, e2]; exact h.log, h.force.imp e4 id⟩

/-- A page is brought in. -/
theorem in_any (n : Int) (h : Run N bp bd bl bm fro pages buffers sz w clock c M C D L) (h0 : 0 ≤ n) (h1 : n < pages) (hc : clock < 2305843009213693952) (hcc : c < 1000000) :
    Calls Tryz.prog 209 #[.pointer (some ⟨bp, 0, none⟩), .int .i64 n] w fun e w' =>
      (e = .returned (.tuple #[.pointer none, .int .i64 50]) ∧ (∀ x ∈ M, x.2.pins ≠ 0) ∧ M ≠ [] ∧ Goes N bp bd bl bm fro pages buffers sz w clock c M C D L w' clock c M D L) ∨
      ∃ b' clock' c' M' D' L', e = .returned (.tuple #[.pointer (some ⟨b'.blk, 0, none⟩), .int .i64 0]) ∧ (n, b') ∈ M' ∧ (∀ k, pinsOf M' k = pinsOf M k) ∧ Goes N bp bd bl bm fro pages buffers sz w clock c M C D L w' clock' c' M' D' L' := by
  have key : ∀ e w', InQ N bp bd bl bm fro pages buffers clock sz c M C n D L w e w' → (e = .returned (.tuple #[.pointer none, .int .i64 50]) ∧ (∀ x ∈ M, x.2.pins ≠ 0) ∧ M ≠ [] ∧ Goes N bp bd bl bm fro pages buffers sz w clock c M C D L w' clock c M D L) ∨
      ∃ b' clock' c' M' D' L', e = .returned (.tuple #[.pointer (some ⟨b'.blk, 0, none⟩), .int .i64 0]) ∧ (n, b') ∈ M' ∧ (∀ k, pinsOf M' k = pinsOf M k) ∧ Goes N bp bd bl bm fro pages buffers sz w clock c M C D L w' clock' c' M' D' L' := by
    rintro e w' (⟨rfl, q1, q2, q3, q4, q5⟩ | ⟨c', M1, L', D', b', rfl, q1, q2, q3, q4, q5, q6, q7, q8, q9, q10, q11⟩)
    · exact .inl ⟨rfl, q2, fun hm => by have := h.buf.1; rw [hm] at q1; simp at q1; omega, ⟨⟨q3, q4, h.inv, h.small, h.log, h.force, h.len, h.buf⟩, ⟨Nat.le_refl _, by omega⟩, by omega, .inl ⟨rfl, rfl⟩, q5, fun hf => ⟨rfl, hf⟩⟩⟩
    · obtain ⟨r1, r2⟩ := q7.run h
      exact .inr ⟨b', clock + 1, c', M1, D', L', rfl, q3, q8, ⟨⟨q4, q5, q6, h.small, r1, r2, q9 h.len, h.buf⟩, ⟨by omega, Nat.le_refl _⟩, q1, q7, q11, fun hf => ⟨q2 hf, q10 hf⟩⟩⟩
  by_cases hm : n ∈ M.map (·.1)
  · obtain ⟨⟨n', b⟩, hb, rfl⟩ := List.mem_map.1 hm
    exact (in_held bp bd bl bm fro pages buffers clock sz c M C n' D L w b h.pool h.st h.inv hc hb).mono key
  · exact (in_new bp bd bl bm fro pages buffers clock sz c M C n D L w _ rfl h.pool h.st h.inv h0 h1 h.small hcc hc h.log h.force h.buf.2 hm).mono key
end


def GetQ (N : Zone) (bp bd bl bm fro pages buffers sz : Nat) (w : World) (clock c : Nat) (M : List (Int × Buf)) (C : Int → Nat × List UInt8) (D : Nat → List UInt8) (L : LogV) (n : Int) (e : Ending) (w' : World) : Prop :=
  (e = .returned (.tuple #[.slice none 0 0, .int .i64 0, .int .i64 50]) ∧ (∀ x ∈ M, x.2.pins ≠ 0) ∧ M ≠ [] ∧ Goes N bp bd bl bm fro pages buffers sz w clock c M C D L w' clock c M D L) ∨
  ∃ (q : Option Addr) (d clock' c' : Nat) (M' : List (Int × Buf)) (D' : Nat → List UInt8) (L' : LogV), e = .returned (.tuple #[.slice q 112 d, .int .i64 (C n).1, .int .i64 0]) ∧ w'.ownsRow w.heap.size 5 1 (.slice q 112 d) 112 (B8s (C n).2) ∧ (∀ k, pinsOf M' k = pinsOf M k) ∧ Goes N bp bd bl bm fro pages buffers sz w clock c M C D L w' clock' c' M' D' L'
theorem Goes.refl {N : Zone} {bp bd bl bm fro pages buffers sz : Nat} {clock c : Nat} {M : List (Int × Buf)} {C : Int → Nat × List UInt8} {D : Nat → List UInt8} {L : LogV} {w : World} (h : Run N bp bd bl bm fro pages buffers sz w clock c M C D L) : Goes N bp bd bl bm fro pages buffers sz w clock c M C D L w clock c M D L :=
  ⟨h, ⟨Nat.le_refl _, by omega⟩, by omega, .inl ⟨rfl, rfl⟩, Upd.refl _ _, fun hf => ⟨rfl, hf⟩⟩
theorem Goes.later {N : Zone} {bp bd bl bm fro pages buffers sz : Nat} {clock c clock' c' : Nat} {M M' : List (Int × Buf)} {C : Int → Nat × List UInt8} {D D' : Nat → List UInt8} {L L' : LogV} {w w1 w2 : World} (h : Goes N bp bd bl bm fro pages buffers sz w clock c M C D L w1 clock' c' M' D' L') (hb : Below w1.heap.size w1 w2) : Goes N bp bd bl bm fro pages buffers sz w clock c M C D L w2 clock' c' M' D' L' :=
  ⟨h.run.below hb, h.tick, h.more, h.wr, FS.trans h.upd (FS.of_below hb), h.clean⟩
theorem pinsOf_at {M : List (Int × Buf)} (hn : (M.map (·.1)).Nodup) {n : Int} {b : Buf} (hm : (n, b) ∈ M) : pinsOf M n = b.pins := by
  unfold pinsOf
  rw [look_of_mem hn hm]
  rfl

section
variable {N : Zone} {bp bd bl bm fro pages buffers sz : Nat} {clock c : Nat} {M : List (Int × Buf)} {C : Int → Nat × List UInt8} {D : Nat → List UInt8} {L : LogV} (w : World)
set_option maxRecDepth 20000 in
set_option maxHeartbeats 2000000 in
theorem get_any (n : Int) (h : Run N bp bd bl bm fro pages buffers sz w clock c M C D L) (h0 : 0 ≤ n) (h1 : n < pages) (hc : clock < 2305843009213693952) (hcc : c < 1000000) :
    Calls Tryz.prog 144 #[.pointer (some ⟨bp, 0, none⟩), .int .i64 n] w (GetQ N bp bd bl bm fro pages buffers sz w clock c M C D L n) := by
  have H := Lib.hid h
  have H0 := Lib.hid h0
  have H1 := Lib.hid h1
  have HC := Lib.hid hc
  have HCC := Lib.hid hcc
  clear h h0 h1 hc hcc
  go_enter Tryz.func144, Tryz.ntmps144
  go_wp2_with fail
  refine (plook_any bp bd bl bm fro pages buffers clock M n _ H.out.pool H0.out H1.out).mono ?_
  rintro e w1 ⟨rfl, rfl⟩
  go_wp2_with fail
  refine (in_any n H.out H0.out H1.out HC.out HCC.out).mono ?_
  rintro e w2 (⟨rfl, q1, q2, hg⟩ | ⟨b, clock', c', M', D', L', rfl, hm, hp, hg⟩)
  · have HG := Lib.hid hg
    have HQ := Lib.hid (And.intro q1 q2)
    clear q1 q2 hg
    dsimp only
    go_wp2_with fail
    go_returns
    unfold GetQ
    exact .inl ⟨rfl, HQ.out.1, HQ.out.2, HG.out⟩
  · have HG := Lib.hid hg
    have HM := Lib.hid hm
    have HP := Lib.hid hp
    obtain ⟨e1, e2, -⟩ := hg.run.inv.held _ hm
    simp only at e1 e2
    obtain ⟨⟨v0, c0, hby⟩, c1, -⟩ := (hg.run.pool.bufs _ hm).cell
    obtain ⟨q0, d0, rfl⟩ := hby.slice
    have h112 := (hg.run.pool.nums _ hm).load
    simp only at c0 c1 hby h112
    rw [h112] at c0 hby
    rw [e1] at c1
    have HE2 := Lib.hid e2
    have HRD := Lib.hid (hby.rd.1.drewN 1)
    have H112 := Lib.hid h112
    obtain ⟨l, hl⟩ : ∃ l, l = (C n).1 := ⟨_, rfl⟩
    rw [← hl] at c1
    have HLL := Lib.hid hl
    have hlt := cell_lt c1
    have HGD := Lib.hid (hg.later (Below.refl _ w2).drew)
    clear hg hm hp e1 e2 hby h112 hl
    dsimp only
    go_wp2_with fail
    go_region_law (first
      | (go_simp; go_at_call 75; refine (clone_any q0 112 d0 b.load _ H112.out (by omega) HRD.out).mono ?_; rintro e w3 ⟨v3, rfl, ho3, hb3⟩; obtain ⟨q3, d3, rfl, -⟩ := own_slice ho3; have c13 := keepC hb3 (show w2.drew.cell? _ = _ from c1); have HO3 := Lib.hid ho3; have HB3 := Lib.hid hb3; clear ho3 hb3))
    all_goals go_wp2_with fail
    all_goals go_returns
    all_goals
      unfold GetQ
      refine .inr ⟨q3, d3, clock', c', M', D', L', congrArg (fun x : Nat => Ending.returned (.tuple #[.slice q3 112 d3, .int .i64 (x : Int), .int .i64 0])) HLL.out, ?_, HP.out, HGD.out.later HB3.out⟩
      rw [← HE2.out]
      exact own_mono HO3.out HG.out.upd.size
end
end Go.Proofs.YtheeomjfpnijbaaGreatDoor
