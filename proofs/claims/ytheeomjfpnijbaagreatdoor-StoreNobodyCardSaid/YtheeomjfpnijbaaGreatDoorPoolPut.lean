/- Put over a pool in use. -/
import Derived.Test.YtheeomjfpnijbaaGreatDoorPoolAll
namespace Go.Proofs.YtheeomjfpnijbaaGreatDoor
open Go.RowKit Go.Shelf
set_option linter.unusedVariables false

/-- One page is another one. -/
def updC (C : Int → Nat × List UInt8) (n : Int) (l : Nat) (xs : List UInt8) : Int → Nat × List UInt8 := fun k => if k = n then (l, xs) else C k
theorem updC_same (C : Int → Nat × List UInt8) (n : Int) (l : Nat) (xs : List UInt8) : updC C n l xs n = (l, xs) := if_pos rfl
theorem updC_other (C : Int → Nat × List UInt8) {n k : Int} (l : Nat) (xs : List UInt8) (h : k ≠ n) : updC C n l xs k = C k := if_neg h
theorem PInv.put {fro pages : Nat} {D : Nat → List UInt8} {M : List (Int × Buf)} {C : Int → Nat × List UInt8} {n : Int} {b b' : Buf} {l : Nat} {xs : List UInt8} (h : PInv fro pages D M C) (hm : (n, b) ∈ M) (h1 : b'.lsn = l) (h2 : b'.load = xs) (h3 : b'.first ≠ 0) (hl : l ≤ 4611686018427387904) (hx : xs.length = 112) : PInv fro pages D (setM M n b') (updC C n l xs) := by
  refine ⟨fun x hx => ?_, fun k h0 h1 hk1 => ?_, fun k h0 h1 => ?_⟩
  · rcases mem_setM hx with rfl | ⟨hx, hx1⟩
    · rw [updC_same]
      exact ⟨h1, h2, fun hf => absurd hf h3⟩
    · rw [updC_other _ _ _ hx1]
      exact h.held x hx
  · rw [setM_keys] at hk1
    have hkn : k ≠ n := fun e => hk1 (by rw [e]; exact List.mem_map.2 ⟨_, hm, rfl⟩)
    rw [updC_other _ _ _ hkn]
    exact h.not k h0 h1 hk1
  · by_cases e : k = n
    · subst e
      rw [updC_same]
      exact ⟨hl, hx⟩
    · rw [updC_other _ _ _ e]
      exact h.ok k h0 h1
theorem Wr.pages {fro pages : Nat} {C : Int → Nat × List UInt8} {L L' : LogV} {D D' : Nat → List UInt8} (h : Wr fro pages C L D L' D') (hL : L.fro + L.sectors ≤ fro) (n : Int) (h0 : 0 ≤ n) (h1 : n < pages) : D' (fro + n.toNat) = D (fro + n.toNat) ∨ D' (fro + n.toNat) = encV (C n).1 (C n).2 := by
  rcases h with ⟨-, rfl⟩ | ⟨k, D1, hk0, hk1, hf, rfl⟩
  · exact .inl rfl
  · by_cases e : n = k
    · subst e
      right
      unfold updD
      rw [if_pos rfl]
    · left
      unfold updD
      rw [if_neg (by omega)]
      exact hf.disk (by omega)

def PutPQ (N : Zone) (bp bd bl bm fro pages buffers sz : Nat) (w : World) (clock c : Nat) (M : List (Int × Buf)) (C : Int → Nat × List UInt8) (D : Nat → List UInt8) (L : LogV) (n : Int) (l : Nat) (xs : List UInt8) (e : Ending) (w' : World) : Prop :=
  (e = .returned (.int .i64 50) ∧ (∀ x ∈ M, x.2.pins ≠ 0) ∧ M ≠ [] ∧ Goes N bp bd bl bm fro pages buffers sz w clock c M C D L w' clock c M D L) ∨
  ∃ (clock' c' : Nat) (M' : List (Int × Buf)) (D' : Nat → List UInt8) (L' : LogV), e = .returned (.int .i64 0) ∧ (∀ k, pinsOf M' k = pinsOf M k) ∧ Run N bp bd bl bm fro pages buffers sz w' clock' c' M' (updC C n l xs) D' L' ∧ (clock ≤ clock' ∧ clock' ≤ clock + 1) ∧ c' ≤ c + 1 ∧ Wr fro pages C L D L' D' ∧ Upd (FS N bm w) w w'

theorem put_end {N : Zone} {bp bd bl bm fro pages buffers sz : Nat} {w2 w3 W : World} {clock c : Nat} {M : List (Int × Buf)} {C : Int → Nat × List UInt8} {D : Nat → List UInt8} {L : LogV} {n : Int} {b : Buf} {l f : Nat} {xs : List UInt8} {q3 : Option Addr} {d3 : Nat}
    (hr : Run N bp bd bl bm fro pages buffers sz w2 clock c M C D L) (hm : (n, b) ∈ M) (ho : w3.ownsRow w2.heap.size 5 1 (.slice q3 112 d3) 112 (B8s xs)) (hb : Below w2.heap.size w2 w3) (hu : Upd (fun k => k = b.blk) w3 W)
    (hW : W.heap[b.blk]? = some (.cells #[.slice q3 112 d3, .int .i64 l, .int .i64 f, .int .i64 b.pins, .int .i64 b.used] 321 (0, 0))) (hx : xs.length = 112) (hl : l ≤ 4611686018427387904) (hf : f ≠ 0) (hf2 : f ≤ 4611686018427387904) :
    Run N bp bd bl bm fro pages buffers sz W clock c (setM M n { b with load := xs, lsn := l, first := f }) (updC C n l xs) D L ∧ Upd (FS N bm w2) w2 W ∧ ∀ k, pinsOf (setM M n { b with load := xs, lsn := l, first := f }) k = pinsOf M k := by
  have hr3 := hr.below hb
  have hpool := hr3.pool
  have hT : ∀ k, k = b.blk → N.B ≤ k ∧ (Typed w3 k 261 ∨ Typed w3 k 321 ∨ k = bm) := fun k hk => by subst hk; exact ⟨hpool.low.2.2 _ hm, .inr (.inl (hpool.bufs _ hm).typed)⟩
  have hne : bp ≠ b.blk := fun e => absurd ((hpool.bufs _ hm).typed.one (e ▸ hpool.typed)) (by decide)
  have hok := hpool.nums _ hm
  have hby : Byt w3 N (.slice q3 112 d3) xs := Byt.own ho (fun k hk => hr.st.no k hk)
  obtain ⟨Q, hQ⟩ : ∃ Q : Buf, Q = { b with load := xs, lsn := l, first := f } := ⟨_, rfl⟩
  rw [← hQ]
  have hturn : PoolAt W N bp bd bl bm fro pages buffers clock (setM M n Q) := by
    refine hpool.turn hm (hu.mono fun k _ hk => .inr hk) (by rw [hQ]) ⟨_, by rw [hQ]; exact hW, ?_⟩ ?_ (Nat.le_refl _) ?_
    · rw [hQ]
      exact hby.upd hu (fun k hk ht => by subst hk; exact absurd (ht.one (hpool.bufs _ hm).typed) (by decide))
    · rw [hQ]
      exact ⟨hx, hl, hf2, hok.pins, hok.used⟩
    · exact (hu.block bp (Array.getElem?_eq_some_iff.1 hpool.cells).1 hne).trans hpool.cells
  refine ⟨⟨hr3.st.pooled hpool hu hT, hturn, hr3.inv.put hm (by rw [hQ]) (by rw [hQ]) (by rw [hQ]; exact hf) hl hx, hr3.small, hr3.log, hr3.force, by rw [setM_length]; exact hr3.len, hr3.buf⟩, FS.trans (FS.of_below hb) (FS.of_pool hu hT), fun k => pinsOf_setM hpool.nodup hm (by rw [hQ]) k⟩

section
variable {N : Zone} {bp bd bl bm fro pages buffers sz : Nat} {clock c : Nat} {M : List (Int × Buf)} {C : Int → Nat × List UInt8} {D : Nat → List UInt8} {L : LogV} (w : World)
set_option maxRecDepth 20000 in
set_option maxHeartbeats 2000000 in
theorem putP_any (n : Int) (l : Nat) (p : Option Addr) (m cc : Nat) (xs : List UInt8) (h : Run N bp bd bl bm fro pages buffers sz w clock c M C D L) (h0 : 0 ≤ n) (h1 : n < pages) (hc : clock < 2305843009213693952) (hcc : c < 1000000) (hl : 1 ≤ l ∧ l ≤ 4611686018427387904) (hm : m = 112) (hx : xs.length = 112) (hr : Rd w p xs) (hN : ∀ b o s, p = some ⟨b, o, s⟩ → ¬ FS N bm w b) :
    Calls Tryz.prog 199 #[.pointer (some ⟨bp, 0, none⟩), .int .i64 n, .int .i64 l, .slice p m cc] w (PutPQ N bp bd bl bm fro pages buffers sz w clock c M C D L n l xs) := by
  subst hm
  have H := Lib.hid h
  have H0 := Lib.hid h0
  have H1 := Lib.hid h1
  have HC := Lib.hid hc
  have HCC := Lib.hid hcc
  have HL := Lib.hid hl
  have HX := Lib.hid hx
  have HR := Lib.hid hr
  have HN := Lib.hid hN
  have hd1 : decide ((l : Int) < 1) = false := decide_eq_false (by omega)
  have hd2 : decide ((l : Int) > 4611686018427387904) = false := decide_eq_false (by omega)
  have hd3 : ((l : Int) == 0) = false := beq_eq_false_iff_ne.mpr (by omega)
  clear h h0 h1 hc hcc hl hx hr hN
  go_enter Tryz.func199, Tryz.ntmps199
  go_wp2_with fail
  refine (plook_any bp bd bl bm fro pages buffers clock M n _ H.out.pool H0.out H1.out).mono ?_
  rintro e w1 ⟨rfl, rfl⟩
  go_wp2_with fail
  refine (in_any n H.out H0.out H1.out HC.out HCC.out).mono ?_
  rintro e w2 (⟨rfl, q1, q2, hg⟩ | ⟨b, clock', c', M', D', L', rfl, hm, hp, hg⟩)
  · have HG := Lib.hid hg
    have HQ := Lib.hid (And.intro q1 q2)
    clear q1 q2 hg
    dsimp only
    go_wp2_with fail
    go_returns
    unfold PutPQ
    exact .inl ⟨rfl, HQ.out.1, HQ.out.2, HG.out⟩
  · have HG := Lib.hid hg
    have HM := Lib.hid hm
    have HP := Lib.hid hp
    have HR2 := Lib.hid (HR.out.upd hg.upd HN.out)
    obtain ⟨v0, hh, -⟩ := hg.run.pool.bufs _ hm
    simp only at hh
    have HOK := Lib.hid (hg.run.pool.nums _ hm)
    have HH := Lib.hid hh
    clear hg hm hp hh
    dsimp only
    go_wp2_with fail
    refine (clone_any p 112 cc xs _ HX.out (by omega) HR2.out).mono ?_
    rintro e w3 ⟨v3, rfl, ho3, hb3⟩
    obtain ⟨q3, d3, rfl, -⟩ := own_slice ho3
    have h3 := (hb3.block b.blk (Array.getElem?_eq_some_iff.1 HH.out).1).trans HH.out
    have h4 := heap_setCell_same w3 b.blk 0 _ _ (.slice q3 112 d3) h3
    have h5 := heap_setCell_same (w3.setCell ⟨b.blk, 0, none⟩ (.slice q3 112 d3)) b.blk 1 _ _ (.int .i64 l) h4
    have h6 := heap_setCell_same ((w3.setCell ⟨b.blk, 0, none⟩ (.slice q3 112 d3)).setCell ⟨b.blk, 1, none⟩ (.int .i64 l)) b.blk 2 _ _ (.int .i64 l) h5
    have k30 : w3.cell? ⟨b.blk, 0, none⟩ = some v0 := by simp [World.cell?, h3]
    have f30 : w3.frozen? ⟨b.blk, 0, none⟩ = false := frozenC h3
    have k41 : (w3.setCell ⟨b.blk, 0, none⟩ (.slice q3 112 d3)).cell? ⟨b.blk, 1, none⟩ = some (.int .i64 b.lsn) := by simp [World.cell?, h4]
    have f41 : (w3.setCell ⟨b.blk, 0, none⟩ (.slice q3 112 d3)).frozen? ⟨b.blk, 1, none⟩ = false := frozenC h4
    have k52 : ((w3.setCell ⟨b.blk, 0, none⟩ (.slice q3 112 d3)).setCell ⟨b.blk, 1, none⟩ (.int .i64 l)).cell? ⟨b.blk, 2, none⟩ = some (.int .i64 b.first) := by simp [World.cell?, h5]
    have f52 : ((w3.setCell ⟨b.blk, 0, none⟩ (.slice q3 112 d3)).setCell ⟨b.blk, 1, none⟩ (.int .i64 l)).frozen? ⟨b.blk, 2, none⟩ = false := frozenC h5
    have HO3 := Lib.hid ho3
    have HB3 := Lib.hid hb3
    have HH5 := Lib.hid h5
    have HH6 := Lib.hid h6
    have hU5 := (Upd.setC w3 b.blk 0 (.slice q3 112 d3)).trans' (Upd.setC _ b.blk 1 (.int .i64 l)) (fun j _ hj => hj)
    have HU5 := Lib.hid hU5
    have HU6 := Lib.hid (hU5.trans' (Upd.setC _ b.blk 2 (.int .i64 l)) (fun j _ hj => hj))
    clear ho3 hb3 h3 h4 h5 h6 hU5
    obtain ⟨f, hf⟩ : ∃ f, f = b.first := ⟨_, rfl⟩
    rw [← hf] at k52
    have HFF := Lib.hid hf
    clear hf
    by_cases hf0 : f = 0
    · have hd4 : ((f : Int) == 0) = true := by rw [beq_iff_eq]; omega
      have HF0 := Lib.hid hf0
      clear hf0
      go_wp2_with fail
      go_returns
      unfold PutPQ
      obtain ⟨r1, r2, r3⟩ := put_end (f := l) HG.out.run HM.out HO3.out HB3.out HU6.out (HH6.out.trans rfl) HX.out HL.out.2 (by have := HL.out; omega) HL.out.2
      exact .inr ⟨clock', c', _, D', L', rfl, fun k => (r3 k).trans (HP.out k), r1, HG.out.tick, HG.out.more, HG.out.wr, FS.trans HG.out.upd r2⟩
    · have hd4 : ((f : Int) == 0) = false := by rw [beq_eq_false_iff_ne]; omega
      have HF0 := Lib.hid hf0
      clear hf0
      go_wp2_with fail
      go_returns
      unfold PutPQ
      obtain ⟨r1, r2, r3⟩ := put_end (f := b.first) HG.out.run HM.out HO3.out HB3.out HU5.out (HH5.out.trans rfl) HX.out HL.out.2 (by rw [← HFF.out]; exact HF0.out) HOK.out.first
      exact .inr ⟨clock', c', _, D', L', rfl, fun k => (r3 k).trans (HP.out k), r1, HG.out.tick, HG.out.more, HG.out.wr, FS.trans HG.out.upd r2⟩
end
end Go.Proofs.YtheeomjfpnijbaaGreatDoor

namespace Go.Proofs.YtheeomjfpnijbaaGreatDoor
open Go.RowKit Go.Shelf
set_option linter.unusedVariables false

section
variable {N : Zone} {bp bd bl bm fro pages buffers sz : Nat} {clock c : Nat} {M : List (Int × Buf)} {C : Int → Nat × List UInt8} {D : Nat → List UInt8} {L : LogV} {w w' : World}
/-- Flush of a page that is held, over a pool in use. -/
theorem pflushR_any (n : Int) (b : Buf) (h : Run N bp bd bl bm fro pages buffers sz w clock c M C D L) (hm : (n, b) ∈ M) (hc : c < 1000000) :
    Calls Tryz.prog 156 #[.pointer (some ⟨bp, 0, none⟩), .int .i64 n] w fun e w' => e = .returned (.int .i64 0) ∧ ∃ c' D' L', c' ≤ c + 1 ∧ Run N bp bd bl bm fro pages buffers sz w' clock c' (setM M n { b with first := 0 }) C D' L' ∧ Wr fro pages C L D L' D' ∧ Upd (FS N bm w) w w' := by
  refine (pflush_any bp bd bl bm fro pages buffers clock sz c M C n b D L w h.pool h.st h.inv h.small hc hm h.log h.force).mono ?_
  rintro e w' ⟨rfl, L', D', hs, hp, hi, hw, hu⟩
  obtain ⟨r1, r2⟩ := hw.run h
  exact ⟨rfl, _, D', L', by split <;> omega, ⟨hs, hp, hi, h.small, r1, r2, by rw [setM_length]; exact h.len, h.buf⟩, hw, hu⟩
theorem firstOf_set {M : List (Int × Buf)} (hn : (M.map (·.1)).Nodup) {n : Int} {b b' : Buf} (hm : (n, b) ∈ M) (k : Int) : firstOf (setM M n b') k = if k = n then b'.first else firstOf M k := by
  unfold firstOf
  rw [look_setM]
  by_cases h : k = n
  · subst h
    rw [if_pos rfl, look_of_mem hn hm]
    simp
  · rw [if_neg h]
    cases look M k <;> simp [h]
end
theorem flat_at {α : Type} (f : α → List Value) (c : Nat) (hl : ∀ x, (f x).length = c) : ∀ (ds : List α) (k j : Nat) (x : α) (v : Value), ds[k]? = some x → (f x)[j]? = some v → (ds.flatMap f)[k * c + j]? = some v := by
  intro ds
  induction ds with
  | nil => intro k j d v h; simp at h
  | cons x ds ih =>
    intro k j d v h hv
    have hj : j < c := by have := (List.getElem?_eq_some_iff.1 hv).1; rwa [hl] at this
    rw [List.flatMap_cons]
    cases k with
    | zero =>
      simp only [List.getElem?_cons_zero, Option.some.injEq] at h
      subst h
      rw [List.getElem?_append_left (by rw [hl]; omega), Nat.zero_mul, Nat.zero_add]
      exact hv
    | succ k =>
      rw [List.getElem?_append_right (by rw [hl, Nat.succ_mul]; omega), hl, show (k + 1) * c + j - c = k * c + j by rw [Nat.succ_mul]; omega]
      exact ih k j d v (by simpa using h) hv
/-- Cells of a row of its own whose elements have k cells. -/
theorem own_atN {w : World} {base n c z : Nat} {e : TypeId} {p : Option Addr} {xs : List Value} (h : w.ownsRow base e z (.slice p n c) n xs) (hn : 0 < n) : ∃ g, p = some ⟨g, 0, none⟩ ∧ base ≤ g ∧ Typed w g e ∧ ∀ (j : Nat) (x : Value), xs[j]? = some x → w.cell? ⟨g, j, none⟩ = some x := by
  rcases h.2 with ⟨e', h0⟩ | ⟨g, cap, cur, e', hb, hg, h1, h2, h3, h4⟩
  · omega
  · cases e'
    refine ⟨g, rfl, hb, ⟨_, hg⟩, fun j x hx => ?_⟩
    have hl : xs.length = n * z := h.1
    have hj : j < n * z := by rw [← hl]; exact (List.getElem?_eq_some_iff.1 hx).1
    rw [← h4, List.getElem?_take_of_lt hj] at hx
    simp only [World.cell?, hg]
    simpa using hx

/-- What All has done so far. -/
structure AllI (N : Zone) (bp bd bl bm fro pages buffers sz : Nat) (w : World) (clock c : Nat) (M : List (Int × Buf)) (C : Int → Nat × List UInt8) (ds : List Int) (k : Nat) (wr : World) (ck : Nat) (Mk : List (Int × Buf)) (Dk : Nat → List UInt8) (Lk : LogV) : Prop where
  run : Run N bp bd bl bm fro pages buffers sz wr clock ck Mk C Dk Lk
  upd : Upd (FS N bm w) w wr
  less : ck ≤ c + k
  keys : Mk.map (·.1) = M.map (·.1)
  first : ∀ n, firstOf Mk n = if n ∈ ds.take k then 0 else firstOf M n
  pins : ∀ n, pinsOf Mk n = pinsOf M n
section
variable {N : Zone} {bp bd bl bm fro pages buffers sz : Nat} {clock c : Nat} {M : List (Int × Buf)} {C : Int → Nat × List UInt8} {D : Nat → List UInt8} {L : LogV} (w : World)
set_option maxRecDepth 20000 in
set_option maxHeartbeats 2000000 in
theorem allP_any (h : Run N bp bd bl bm fro pages buffers sz w clock c M C D L) (hc : clock < 2305843009213693952) (hcc : c < 900000) :
    Calls Tryz.prog 111 #[.pointer (some ⟨bp, 0, none⟩)] w fun e w' => e = .returned (.int .i64 0) ∧ ∃ M' D' L', Run N bp bd bl bm fro pages buffers sz w' clock 0 M' C D' L' ∧ (∀ x ∈ M', x.2.first = 0) ∧ M'.map (·.1) = M.map (·.1) ∧ (∀ n, pinsOf M' n = pinsOf M n) ∧ Upd (FS N bm w) w w' := by
  have H := Lib.hid h
  have HC := Lib.hid hc
  have HCC := Lib.hid hcc
  have k0 := h.pool.load.1
  have heq := fun (W : World) (m : Option Nat) => run_eql_map_nil (P := Tryz.prog) W 257 3 317 m Tryz.underlying257
  clear h hc hcc
  go_enter Tryz.func111, Tryz.ntmps111
  go_wp2_with fail
  refine (table_any _ H.out.pool (by have := HC.out; omega)).mono ?_
  rintro e w1 ⟨v1, ts, rfl, hpt, ho, hb1⟩
  obtain ⟨ds, hds⟩ : ∃ ds, ds = dirtyOf M ts := ⟨_, rfl⟩
  rw [← hds] at ho
  obtain ⟨l, hl⟩ : ∃ l, l = ds.length := ⟨_, rfl⟩
  rw [← hl] at ho
  obtain ⟨q1, c1, rfl⟩ := own_zero ho
  have HPT := Lib.hid hpt
  have HDS := Lib.hid hds
  have HL := Lib.hid hl
  have HO := Lib.hid ho
  have HL64 : Hid (l ≤ 64) := Lib.hid (by
    have e1 : ds.length ≤ ts.length := by rw [hds]; exact List.length_filter_le _ _
    have e2 := hpt.length_eq
    have := H.out.len
    have := H.out.buf
    rw [List.length_map] at e2
    omega)
  have HB1 := Lib.hid hb1
  have HR1 := Lib.hid (H.out.below hb1)
  clear hpt hds hl ho hb1 k0
  go_wp2_with fail
  go_loopw [19] (fun i wr => ∃ (k : Nat), k ≤ l ∧ i = .int .i64 k ∧ Hid (∃ ck Mk Dk Lk, AllI N bp bd bl bm fro pages buffers sz w1 clock c M C ds k wr ck Mk Dk Lk)) (fun i _ => l - (intOf i).toNat)
  case atStart => exact ⟨0, Nat.zero_le _, rfl, Lib.hid ⟨c, M, D, L, HR1.out, Upd.refl _ _, by omega, rfl, fun n => by simp, fun n => rfl⟩⟩
  case round =>
    obtain ⟨k, hk, rfl, hrel⟩ := hrel
    obtain ⟨ck, Mk, Dk, Lk, hI⟩ := hrel.out
    have HI := Lib.hid hI
    have k0 := hI.run.pool.load.1
    have k2 := hI.run.pool.load.2.2.1
    clear hI hrel
    by_cases hlt : k < l
    · obtain ⟨x, hx⟩ : ∃ x, ds[k]? = some x := ⟨_, List.getElem?_eq_getElem (by rw [← HL.out]; exact hlt)⟩
      have hxm : x ∈ M.map (·.1) := by
        have h1 : x ∈ dirtyOf M ts := by rw [← HDS.out]; exact List.mem_of_getElem? hx
        exact HPT.out.mem_iff.1 (List.mem_filter.1 h1).1
      rw [← HI.out.keys] at hxm
      obtain ⟨⟨x', b⟩, hb, hxe⟩ := List.mem_map.1 hxm
      obtain rfl : x' = x := hxe
      have how := own_upd HO.out HI.out.upd (fun k hk ht => fs_not8 HR1.out.pool (.inr (.inr (.inl rfl))) k hk ht)
      obtain ⟨g, rfl, hgb, hgt, hcell⟩ := own_atN how (by omega)
      have c0 := hcell (k * 2) _ (flat_at (fun n => [Value.int .i64 n, Value.int .i64 (firstOf M n)]) 2 (fun _ => rfl) ds k 0 x' _ hx rfl)
      have c1 := hcell (k * 2 + 1) _ (flat_at (fun n => [Value.int .i64 n, Value.int .i64 (firstOf M n)]) 2 (fun _ => rfl) ds k 1 x' _ hx rfl)
      obtain ⟨f, hf⟩ : ∃ f, f = firstOf M x' := ⟨_, rfl⟩
      rw [← hf] at c1
      have HX := Lib.hid hx
      have HB := Lib.hid hb
      have HLT := Lib.hid hlt
      have hgl := cell_lt c0
      clear how hcell hxm hx hb hgt hgb hf k2
      have HBA := Lib.hid ((Below.refl _ wr).alloc (Nat.le_refl _) (.cells #[.int .i64 x', .int .i64 f] 265))
      go_wp2_with fail
      refine (pflushR_any x' b (HI.out.run.below HBA.out) HB.out (by have := HI.out.less; have := HCC.out; have := HL64.out; omega)).mono ?_
      rintro e w3 ⟨rfl, c3, D3, L3, hc3, hr3, -, hu3⟩
      have HI3 : Hid (AllI N bp bd bl bm fro pages buffers sz w1 clock c M C ds (k + 1) w3 c3 (setM Mk x' { b with first := 0 }) D3 L3) := Lib.hid (by
        have hi := HI.out
        refine ⟨hr3, FS.trans hi.upd (FS.trans (FS.of_below HBA.out) hu3), by have := hi.less; omega, by rw [setM_keys, hi.keys], fun n => ?_, fun n => (pinsOf_setM (b' := { b with first := 0 }) hi.run.pool.nodup HB.out rfl n).trans (hi.pins n)⟩
        rw [firstOf_set hi.run.pool.nodup HB.out, hi.first, List.take_add_one, HX.out]
        by_cases e : n = x'
        · subst e
          simp
        · rw [if_neg e]
          simp [e])
      clear hc3 hr3 hu3 c0 c1 hgl k0
      go_wp2_with fail
      go_roundw
      case rel => exact ⟨k + 1, by omega, by rw [wrapK hlt (by have := HL64.out; omega)], Lib.hid ⟨_, _, _, _, HI3.out⟩⟩
      case measure => rw [wrapK hlt (by have := HL64.out; omega)]; simp [intOf]; omega
    · obtain rfl : k = l := by omega
      go_wp2_with fail
      refine (disIs_flush bd sz ck Dk wr HI.out.run.st.disk HI.out.run.st.no (by have := HI.out.less; have := HCC.out; have := HL64.out; omega)).mono ?_
      rintro e w3 ⟨rfl, hd3, hu3⟩
      have HS3 := Lib.hid (HI.out.run.st.disked hu3 hd3)
      have HP3 := Lib.hid (HI.out.run.pool.disked hu3)
      have HU3 := Lib.hid (FS.trans (FS.of_below HB1.out) (FS.trans HI.out.upd (FS.of_disk hu3)))
      clear hd3 hu3 k0 k2
      go_wp2_with fail
      go_returns
      have hi := HI.out
      have hr := hi.run
      refine ⟨rfl, Mk, Dk, Lk, ⟨HS3.out, HP3.out, hr.inv, hr.small, hr.log, hr.force, hr.len, hr.buf⟩, fun x hx => ?_, hi.keys, hi.pins, HU3.out⟩
      have h1 : firstOf Mk x.1 = x.2.first := by
        unfold firstOf
        rw [look_of_mem hr.pool.nodup (show (x.1, x.2) ∈ Mk from hx)]
        rfl
      rw [← h1, hi.first, show ds.take k = ds from by rw [HL.out, List.take_length]]
      by_cases hd : x.1 ∈ ds
      · rw [if_pos hd]
      · rw [if_neg hd]
        have hk : x.1 ∈ ts := HPT.out.mem_iff.2 (by rw [← hi.keys]; exact List.mem_map.2 ⟨x, hx, rfl⟩)
        rw [HDS.out] at hd
        have : ¬ 0 < firstOf M x.1 := fun hp => hd (List.mem_filter.2 ⟨hk, by simpa using hp⟩)
        omega
end
end Go.Proofs.YtheeomjfpnijbaaGreatDoor
