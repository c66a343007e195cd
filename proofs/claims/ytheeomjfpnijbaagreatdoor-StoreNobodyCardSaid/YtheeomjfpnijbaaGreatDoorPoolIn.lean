/- The pool's in: a page is brought in. -/
import Derived.Test.YtheeomjfpnijbaaGreatDoorPoolInv
namespace Go.Proofs.YtheeomjfpnijbaaGreatDoor
open Go.RowKit Go.Shelf
set_option linter.unusedVariables false

/-- What 'in' answers and leaves. -/
def InQ (N : Zone) (bp bd bl bm fro pages buffers clock sz c : Nat) (M : List (Int × Buf)) (C : Int → Nat × List UInt8) (n : Int) (D : Nat → List UInt8) (L : LogV) (w : World) (e : Ending) (w' : World) : Prop :=
  (e = .returned (.tuple #[.pointer none, .int .i64 50]) ∧ buffers ≤ M.length ∧ (∀ x ∈ M, x.2.pins ≠ 0) ∧ St w' N bd bl sz c D L ∧ PoolAt w' N bp bd bl bm fro pages buffers clock M ∧ Upd (FS N bm w) w w') ∨
  ∃ c' M1 L' D' b', e = .returned (.tuple #[.pointer (some ⟨b'.blk, 0, none⟩), .int .i64 0]) ∧ c' ≤ c + 1 ∧ ((∀ x ∈ M, x.2.first = 0) → c' = c) ∧ (n, b') ∈ M1 ∧ St w' N bd bl sz c' D' L' ∧ PoolAt w' N bp bd bl bm fro pages buffers (clock + 1) M1 ∧ PInv fro pages D' M1 C ∧ Wr fro pages C L D L' D' ∧
    (∀ k, pinsOf M1 k = pinsOf M k) ∧ (M.length ≤ buffers → M1.length ≤ buffers) ∧ ((∀ x ∈ M, x.2.first = 0) → ∀ x ∈ M1, x.2.first = 0) ∧ Upd (FS N bm w) w w'
theorem clean_setM {M : List (Int × Buf)} {n : Int} {b : Buf} (hb : (∀ x ∈ M, x.2.first = 0) → b.first = 0) (h : ∀ x ∈ M, x.2.first = 0) : ∀ x ∈ setM M n b, x.2.first = 0 := fun x hx => by
  rcases mem_setM hx with rfl | ⟨hx, -⟩
  · exact hb h
  · exact h x hx
theorem FS.touched {N : Zone} {bp bd bl bm fro pages buffers clock : Nat} {M : List (Int × Buf)} {w w' : World} {n : Int} {b : Buf} (h : PoolAt w N bp bd bl bm fro pages buffers clock M) (hm : (n, b) ∈ M) (hu : Upd (fun k => k = bp ∨ k = b.blk) w w') : ∀ k, (k = bp ∨ k = b.blk) → N.B ≤ k ∧ (Typed w k 261 ∨ Typed w k 321 ∨ k = bm) := fun k hk => by
  rcases hk with rfl | rfl
  · exact ⟨h.low.1, .inl h.typed⟩
  · exact ⟨h.low.2.2 _ hm, .inr (.inl (h.bufs _ hm).typed)⟩
theorem FS.mapped {N : Zone} {bp bd bl bm fro pages buffers clock : Nat} {M : List (Int × Buf)} {w : World} (h : PoolAt w N bp bd bl bm fro pages buffers clock M) : ∀ k, k = bm → N.B ≤ k ∧ (Typed w k 261 ∨ Typed w k 321 ∨ k = bm) := fun k hk => by
  subst hk
  exact ⟨h.low.2.1, .inr (.inr rfl)⟩
/-- A new buffer, laid and entered. -/
theorem in_enter {N : Zone} {bp bd bl bm fro pages buffers clock sz c : Nat} {M : List (Int × Buf)} {C : Int → Nat × List UInt8} {n : Int} {D : Nat → List UInt8} {L : LogV} {w w5 : World} {v : Value} {base l : Nat} {xs : List UInt8}
    (h : PoolAt w N bp bd bl bm fro pages buffers clock M) (hs : St w N bd bl sz c D L) (hi : PInv fro pages D M C) (h0 : 0 ≤ n) (h1 : n < pages) (hn : n ∉ M.map (·.1)) (hc : clock < 4611686018427387904) (ho : w.ownsRow base 5 1 v 112 (B8s xs)) (hN : ∀ k, N k → k < base) (e1 : l = (C n).1) (e2 : xs = (C n).2)
    (hm : MapZ w5 bm (mapP M ++ [(n, .pointer (some ⟨w.heap.size, 0, none⟩))])) (hu : Upd (fun k => k = bm) (w.alloc (.cells #[v, .int .i64 l, .int .i64 0, .int .i64 0, .int .i64 0] 321)) w5) :
    ∃ b : Buf, b.blk = w.heap.size ∧ b.first = 0 ∧ b.pins = 0 ∧ PoolAt w5 N bp bd bl bm fro pages buffers clock (M ++ [(n, b)]) ∧ St w5 N bd bl sz c D L ∧ PInv fro pages D (M ++ [(n, b)]) C ∧ Upd (FS N bm w) w w5 ∧ (∀ k, pinsOf (M ++ [(n, b)]) k = pinsOf M k) := by
  have hba : Below w.heap.size w (w.alloc (.cells #[v, .int .i64 l, .int .i64 0, .int .i64 0, .int .i64 0] 321)) := (Below.refl _ w).alloc (Nat.le_refl _) _
  have ha := h.below hba
  have hok := hi.ok n h0 h1
  have hb : BufAt (w.alloc (.cells #[v, .int .i64 l, .int .i64 0, .int .i64 0, .int .i64 0] 321)) N ⟨w.heap.size, xs, l, 0, 0, 0⟩ := ⟨v, heap_alloc_new w _, Byt.own (ho.alloc _) hN⟩
  have hfr : w.heap.size ∉ M.map (·.2.blk) := fun hm => by
    obtain ⟨x, hx, hxe⟩ := List.mem_map.1 hm
    obtain ⟨u, hu, -⟩ := h.bufs x hx
    have := (Array.getElem?_eq_some_iff.1 hu).1
    omega
  refine ⟨⟨w.heap.size, xs, l, 0, 0, 0⟩, rfl, rfl, rfl, ha.inserted hu hm hb hfr hs.base ⟨?_, ?_, by simp, by simp, Nat.zero_le _⟩ h0 h1, (hs.below hba).pooled ha hu (FS.mapped ha), hi.come h0 h1 hn e1 e2, FS.trans (FS.of_below hba) (FS.of_pool hu (FS.mapped ha)), pinsOf_come hn rfl⟩
  · show xs.length = 112
    rw [e2]; exact hok.2
  · show l ≤ _
    rw [e1]; exact hok.1

theorem in_evict {N : Zone} {bp bd bl bm fro pages buffers clock sz c base : Nat} {M : List (Int × Buf)} {C : Int → Nat × List UInt8} {n out : Int} {b : Buf} {D : Nat → List UInt8} {L : LogV} {w W4 W5 : World} {v : Value} {xs : List UInt8}
    (h4 : PoolAt W4 N bp bd bl bm fro pages buffers clock (setM M out { b with first := 0 })) (hs4 : St W4 N bd bl sz c D L) (hi4 : PInv fro pages D (setM M out { b with first := 0 }) C) (hu : Upd (fun k => k = bm) W4 W5) (hmz : MapZ W5 bm (del (mapP (setM M out { b with first := 0 })) out))
    (ho : W4.ownsRow base 5 1 v 112 (B8s xs)) (hn : n ∉ M.map (·.1)) (hob : (out, b) ∈ M) (hp0 : b.pins = 0) (hnd : (M.map (·.1)).Nodup) (hml : M.length ≤ 100000) (huw : Upd (FS N bm w) w W4) :
    ∃ MX, Hid (PoolAt W5 N bp bd bl bm fro pages buffers clock MX) ∧ Hid (St W5 N bd bl sz c D L) ∧ Hid (Upd (FS N bm w) w W5) ∧ Hid (PInv fro pages D MX C) ∧ Hid (W5.ownsRow base 5 1 v 112 (B8s xs)) ∧ Hid (∀ k, pinsOf MX k = pinsOf M k) ∧ Hid (MX.length + 1 = M.length) ∧
      Hid ((∀ x ∈ M, x.2.first = 0) → ∀ x ∈ MX, x.2.first = 0) ∧ Hid (n ∉ MX.map (·.1)) ∧ Hid (look (mapP MX) n = none) ∧ Hid ((mapP MX).length < 100000) ∧ W5.cell? ⟨bp, 0, none⟩ = some (.map (some bm)) ∧ bp < W5.heap.size := by
  have h5 := h4.deleted hu hmz
  have hT5 := FS.mapped h4
  have hmem5 := mem_setM_self (b' := { b with first := 0 }) hob
  have hl : (del (setM M out { b with first := 0 }) out).length + 1 = M.length := by rw [del_length (look_of_mem h4.nodup hmem5), setM_length]
  have hnx : n ∉ (del (setM M out { b with first := 0 }) out).map (·.1) := fun hx => by
    obtain ⟨x, hx, hxe⟩ := List.mem_map.1 hx
    have h2 : x.1 ∈ (setM M out { b with first := 0 }).map (·.1) := List.mem_map.2 ⟨x, del_mem hx, rfl⟩
    rw [setM_keys] at h2
    exact hn (hxe ▸ h2)
  exact ⟨_, Lib.hid h5, Lib.hid (hs4.pooled h4 hu hT5), Lib.hid (FS.trans huw (FS.of_pool hu hT5)), Lib.hid (hi4.gone h4.nodup hmem5 rfl), Lib.hid (own_upd ho hu (fun k hk ht => h4.map.notTyped ht hk)), Lib.hid (fun k => (pinsOf_del h4.nodup hmem5 hp0 k).trans (pinsOf_setM (b' := { b with first := 0 }) hnd hob rfl k)), Lib.hid hl,
    Lib.hid (fun hf x hx => clean_setM (fun _ => rfl) hf x (del_mem hx)), Lib.hid hnx, Lib.hid (by rw [look_mapP, look_none_iff.2 hnx]; rfl), Lib.hid (by simp only [mapP, List.length_map]; omega), h5.load.1, cell_lt h5.load.1⟩

section
variable {N : Zone} (bp bd bl bm fro pages buffers clock sz c : Nat) (M : List (Int × Buf)) (C : Int → Nat × List UInt8) (n : Int) (D : Nat → List UInt8) (L : LogV) (w : World)
set_option maxRecDepth 20000 in
set_option maxHeartbeats 2000000 in
theorem in_held (b : Buf) (h : PoolAt w N bp bd bl bm fro pages buffers clock M) (hs : St w N bd bl sz c D L) (hi : PInv fro pages D M C) (hc : clock < 2305843009213693952) (hm : (n, b) ∈ M) :
    Calls Tryz.prog 209 #[.pointer (some ⟨bp, 0, none⟩), .int .i64 n] w (InQ N bp bd bl bm fro pages buffers clock sz c M C n D L w) := by
  have H := Lib.hid h
  have HS := Lib.hid hs
  have HI := Lib.hid hi
  have HM := Lib.hid hm
  have HC := Lib.hid hc
  have k0 := h.load.1
  have HL : Hid (look (mapP M) n = some (.pointer (some ⟨b.blk, 0, none⟩))) := Lib.hid (by rw [look_mapP, look_of_mem h.nodup hm]; rfl)
  clear h hs hi hc hm
  go_enter Tryz.func209, Tryz.ntmps209
  go_wp2_with (at_lookup; refine wpList_look_ok (KK := intKeys) rfl _ _ 257 rfl 3 317 Tryz.underlying257 Tryz.underlying3 _ zbuf n rfl rfl H.out.map.is ?_; rw [HL.out, Option.getD_some, Option.isSome_some])
  refine (touch_any bp bd bl bm fro pages buffers clock M n b _ H.out HM.out (by have := HC.out; omega)).mono ?_
  rintro e w1 ⟨⟨x, rfl⟩, hp, hu⟩
  have HP := Lib.hid hp
  have HU := Lib.hid hu
  clear hp hu
  go_wp2_with fail
  go_returns
  have hT := FS.touched H.out HM.out HU.out
  exact .inr ⟨c, _, L, D, { b with used := clock + 1 }, rfl, by omega, fun _ => rfl, mem_setM_self HM.out, HS.out.pooled H.out HU.out hT, HP.out, HI.out.used HM.out rfl rfl rfl, .inl ⟨rfl, rfl⟩, pinsOf_setM H.out.nodup HM.out rfl, fun hl => by rw [setM_length]; exact hl, fun hf => clean_setM (fun h => h _ HM.out) hf, FS.of_pool HU.out hT⟩

set_option maxRecDepth 20000 in
set_option maxHeartbeats 4000000 in
theorem in_new (J : Nat) (hJ : fro + n.toNat = J) (h : PoolAt w N bp bd bl bm fro pages buffers clock M) (hs : St w N bd bl sz c D L) (hi : PInv fro pages D M C) (h0 : 0 ≤ n) (h1 : n < pages) (h3 : fro + pages ≤ sz) (hcc : c < 1000000) (hc : clock < 2305843009213693952) (hL : L.fro + L.sectors ≤ fro) (hF : L.forced = L.last ∨ ForceC N bd bl sz) (hbuf : buffers ≤ 64) (hm : n ∉ M.map (·.1)) :
    Calls Tryz.prog 209 #[.pointer (some ⟨bp, 0, none⟩), .int .i64 n] w (InQ N bp bd bl bm fro pages buffers clock sz c M C n D L w) := by
  have H := Lib.hid h
  have HS := Lib.hid hs
  have HI := Lib.hid hi
  have HM := Lib.hid hm
  have HC := Lib.hid hc
  have HCC := Lib.hid hcc
  have H0 := Lib.hid h0
  have H1 := Lib.hid h1
  have H3 := Lib.hid h3
  have HJ := Lib.hid hJ
  have HLL := Lib.hid hL
  have HF := Lib.hid hF
  have HBU := Lib.hid hbuf
  have k0 := h.load.1
  have k6 := h.load.2.2.2.2.2.2
  have hwr : IntKind.i64.wrap ((fro : Int) + n) = (J : Int) := by rw [flush_wrap hs h0 h1 h3, hJ]
  have HWR := Lib.hid hwr
  have hlen := (h.below (Below.refl _ w).drew).map.len (P := Tryz.prog) Tryz.underlying257 3
  rw [show (mapP M).length = M.length by simp [mapP]] at hlen
  have HN : Hid (look (mapP M) n = none) := Lib.hid (by rw [look_mapP, look_none_iff.2 hm]; rfl)
  have HML : Hid (M.length ≤ 100000) := Lib.hid (by obtain ⟨_, _, _, _, _, h6, _⟩ := h.map; simpa [mapP] using h6)
  obtain ⟨m, hmm⟩ : ∃ m, m = M.length := ⟨_, rfl⟩
  rw [← hmm] at hlen
  have HMM := Lib.hid hmm
  clear h hs hi hc hm h0 h1 h3 hcc hJ hL hF hbuf hmm hwr
  go_enter Tryz.func209, Tryz.ntmps209
  go_wp2_with (at_lookup; refine wpList_look_ok (KK := intKeys) rfl _ _ 257 rfl 3 317 Tryz.underlying257 Tryz.underlying3 _ zbuf n rfl rfl H.out.map.is ?_; rw [HN.out, Option.getD_none, Option.isSome_none])
  go_region
  have HD := Lib.hid (H.out.below (Below.refl _ w).drew)
  have HSD := Lib.hid (HS.out.below (Below.refl _ w).drew)
  have HUD : Hid (Upd (FS N bm w) w w.drew) := Lib.hid (FS.of_below (Below.refl _ w).drew)
  clear hlen k0 k6
  generalize w.drew = W0 at *
  go_wp2_with fail
  refine (victim_any bp bd bl bm fro pages buffers clock M _ HD.out (by have := HC.out; omega)).mono ?_
  rintro e W1 ⟨hq, hb⟩
  have HP1 := Lib.hid (HD.out.below hb)
  have HS1 := Lib.hid (HSD.out.below hb)
  have HU1 : Hid (Upd (FS N bm w) w W1) := Lib.hid (FS.trans HUD.out (FS.of_below hb))
  clear hb
  by_cases hfull : buffers ≤ m
  · rcases hq with ⟨out, b, rfl, hb, hp0⟩ | ⟨rfl, hall⟩
    · have HOB := Lib.hid hb
      have HP0 := Lib.hid hp0
      clear hb hp0
      dsimp only
      go_wp2_with fail
      have k21 : W1.cell? ⟨bp, 2, none⟩ = some (.pointer (some ⟨bd, 0, none⟩)) := HP1.out.load.2.2.1
      have k41 : W1.cell? ⟨bp, 4, none⟩ = some (.int .i64 fro) := HP1.out.load.2.2.2.2.1
      have k21' : W1.drew.cell? ⟨bp, 2, none⟩ = some (.pointer (some ⟨bd, 0, none⟩)) := k21
      have k41' : W1.drew.cell? ⟨bp, 4, none⟩ = some (.int .i64 fro) := k41
      have HS1D := Lib.hid (HS1.out.below (Below.refl _ W1).drew)
      have HIN : Hid (J < sz) := Lib.hid (by have := H0.out; have := H1.out; have h5 := H3.out; have := HJ.out; omega)
      have hwr := HWR.out
      go_region_law (first
        | (go_simp; go_at_call 161; refine (disIs_read bd sz c J D _ HS1D.out.disk HS1D.out.no HIN.out (by have := HCC.out; omega)).mono ?_; rintro e W2 ⟨v2, rfl, ho2, hb2⟩; obtain ⟨q2, d2, rfl, hd2⟩ := own_slice ho2; have HO2 := Lib.hid ho2; have HB2 := Lib.hid hb2; have HD2 := Lib.hid hd2; clear ho2 hb2 hd2))
      all_goals
        clear k21 k41 k21' k41' hwr
        have HP2 := Lib.hid ((HP1.out.below (Below.refl _ W1).drew).below HB2.out)
        have HS2 := Lib.hid (HS1D.out.below HB2.out)
        have HU2 : Hid (Upd (FS N bm w) w W2) := Lib.hid (FS.trans HU1.out (FS.trans (FS.of_below (Below.refl _ W1).drew) (FS.of_below HB2.out)))
        have HRD : Hid (Rd W2 q2 (D J) ∧ (D J).length = 128 ∧ d2 ≤ maxLen) := Lib.hid (by
          obtain ⟨q, d, e', hr, hx, hm, -⟩ := own_rd HO2.out
          cases e'
          exact ⟨hr, hx, (own_cap HO2.out (by omega)).2⟩)
        have HDE : Hid (D J = encV (C n).1 (C n).2) := Lib.hid (by rw [← HJ.out]; exact HI.out.not n H0.out H1.out HM.out)
        have HCK := Lib.hid (HI.out.ok n H0.out H1.out)
        go_wp2_with fail
        refine (decode_any q2 128 d2 (D J) W2 HRD.out.2.1 HRD.out.1 HD2.out HRD.out.2.2 HS2.out.halves).mono ?_
        rintro e W3 ⟨hdq, hb3⟩
        obtain ⟨de1, de2, de3⟩ := dec_enc (l := (C n).1) HCK.out.2 HCK.out.1
        rcases hdq with ⟨-, v3, rfl, ho3⟩ | ⟨hne, -⟩
        case' inr => exact absurd (by rw [HDE.out]; exact de1) hne
        rw [HDE.out, de3] at ho3
        have hdl : decL (D J) = (C n).1 := by rw [HDE.out]; exact de2
        obtain ⟨l, hl⟩ : ∃ l, l = decL (D J) := ⟨_, rfl⟩
        rw [← hl]
        have HLC : Hid (l = (C n).1) := Lib.hid (by rw [hl, hdl])
        obtain ⟨q3, d3, rfl, -⟩ := own_slice ho3
        have HO3 := Lib.hid (own_mono ho3 HS2.out.base)
        have HNB : Hid (∀ k, N k → k < W2.heap.size) := Lib.hid HS2.out.no
        have HO3B := Lib.hid ho3
        have HP3 := Lib.hid (HP2.out.below hb3)
        have HS3 := Lib.hid (HS2.out.below hb3)
        have HU3 : Hid (Upd (FS N bm w) w W3) := Lib.hid (FS.trans HU2.out (FS.of_below hb3))
        clear ho3 hdl hl de1 de2 de3 hb3 HO2 HB2 HRD HP2 HS2 HU2 HP1 HS1 HU1 HS1D HD HSD HUD H HS
      all_goals
        go_wp2_with fail
        refine (pflush_any bp bd bl bm fro pages buffers clock sz c M C out b D L _ HP3.out HS3.out HI.out H3.out HCC.out HOB.out HLL.out HF.out).mono ?_
        rintro e W4 ⟨rfl, L', D', hs4, hp4, hi4, hw4, hu4⟩
        have HO4 : Hid (W4.ownsRow W2.heap.size 5 1 (.slice q3 112 d3) 112 (B8s (C n).2)) := Lib.hid (own_upd HO3B.out hu4 (fun k hk ht => fs_not8 HP3.out (.inl rfl) k hk ht))
        have HS4 := Lib.hid hs4
        have HP4 := Lib.hid hp4
        have HI4 := Lib.hid hi4
        have HW4 := Lib.hid hw4
        have HU4 : Hid (Upd (FS N bm w) w W4) := Lib.hid (FS.trans HU3.out hu4)
        have hmem4 := mem_setM_self (b' := { b with first := 0 }) HOB.out
        have HLO : Hid (look (mapP (setM M out { b with first := 0 })) out = some (.pointer (some ⟨b.blk, 0, none⟩))) := Lib.hid (by rw [look_mapP, look_of_mem hp4.nodup hmem4]; rfl)
        have k04 : W4.cell? ⟨bp, 0, none⟩ = some (.map (some bm)) := hp4.load.1
        clear hs4 hp4 hi4 hw4 hu4 hmem4
      all_goals
        have HKB : Hid (-9223372036854775808 ≤ n ∧ n < 9223372036854775808) := Lib.hid (by obtain ⟨_, _, hd, hn, -⟩ := HS3.out.disk; have := hd.small; have h5 := H0.out; have h6 := H1.out; have h7 := H3.out; omega)
        go_wp2_with (first | (at_delete; refine wpList_deleteZ rfl _ _ 257 3 rfl 317 Tryz.underlying257 Tryz.underlying3 out rfl rfl HP4.out.map HLO.out ?_; intro W5 hmz hu; obtain ⟨MX, HP5, HS5, HU5, HI5, HO5, HPX, HLX, HCX, HNX, HLK, HLT, hk05, hlt5⟩ := in_evict HP4.out HS4.out HI4.out hu hmz HO4.out HM.out HOB.out HP0.out HP3.out.nodup HML.out HU4.out; clear hu hmz; have HA5 := Lib.hid ((Below.refl W5.heap.size W5).alloc (Nat.le_refl _) (.cells #[.slice q3 112 d3, .int .i64 l, .int .i64 0, .int .i64 0, .int .i64 0] 321))) | (at_mapUpdate; refine wpList_insertZ rfl _ _ _ 257 rfl 3 317 Tryz.underlying257 Tryz.underlying3 n (.pointer (some ⟨W5.heap.size, 0, none⟩)) rfl rfl rfl (HP5.out.below HA5.out).map HLK.out HLT.out HKB.out.1 HKB.out.2 ?_; intro WY hmz2 hu2))
        obtain ⟨bn, hb1, hb2, hb3, hp6, hs6, hi6, hu6, hpi6⟩ := in_enter HP5.out HS5.out HI5.out H0.out H1.out HNX.out (by have := HC.out; omega) HO5.out HNB.out HLC.out rfl hmz2 hu2
        have HBN := Lib.hid (show (n, bn) ∈ MX ++ [(n, bn)] by simp)
        rw [← hb1]
        refine (touch_any bp bd bl bm fro pages buffers clock (MX ++ [(n, bn)]) n bn _ hp6 HBN.out (by have := HC.out; omega)).mono ?_
        rintro e W7 ⟨⟨x7, rfl⟩, hp7, hu7⟩
        have hT7 := FS.touched hp6 HBN.out hu7
        have HS7 := Lib.hid (hs6.pooled hp6 hu7 hT7)
        have HU7 : Hid (Upd (FS N bm w) w W7) := Lib.hid (FS.trans (FS.trans HU5.out hu6) (FS.of_pool hu7 hT7))
        have HP7 := Lib.hid hp7
        have HI7 := Lib.hid (hi6.used HBN.out (b' := { bn with used := clock + 1 }) rfl rfl rfl)
        have HPI7 : Hid (∀ k, pinsOf (setM (MX ++ [(n, bn)]) n { bn with used := clock + 1 }) k = pinsOf M k) := Lib.hid (fun k => (pinsOf_setM (b' := { bn with used := clock + 1 }) hp6.nodup HBN.out rfl k).trans ((hpi6 k).trans (HPX.out k)))
        have HCL7 : Hid ((∀ x ∈ M, x.2.first = 0) → ∀ x ∈ setM (MX ++ [(n, bn)]) n { bn with used := clock + 1 }, x.2.first = 0) := Lib.hid (fun hf => clean_setM (fun _ => hb2) (fun x hx => by
          rcases List.mem_append.1 hx with h | h
          · exact HCX.out hf x h
          · rw [List.mem_singleton.1 h]; exact hb2))
        have HLE7 : Hid (M.length ≤ buffers → (setM (MX ++ [(n, bn)]) n { bn with used := clock + 1 }).length ≤ buffers) := Lib.hid (fun hl => by rw [setM_length, List.length_append]; have h5 := HLX.out; have h7 := HMM.out; simp only [List.length_cons, List.length_nil]; omega)
        have HPT : Hid (({ bn with used := clock + 1 } : Buf).blk = bn.blk) := Lib.hid rfl
        clear hp6 hs6 hi6 hu6 hpi6 hp7 hu7 hT7 hmz2 hu2 hb2 hb3
        go_wp2_with fail
        go_returns
        exact .inr ⟨_, _, L', D', { bn with used := clock + 1 }, (by first | rfl | (show _ = Ending.returned (.tuple #[.pointer (some ⟨bn.blk, 0, none⟩), .int .i64 0]); rw [hb1]; rfl)), by split <;> omega, fun hf => if_pos (hf _ HOB.out), mem_setM_self HBN.out, HS7.out, HP7.out, HI7.out, HW4.out, HPI7.out, HLE7.out, HCL7.out, HU7.out⟩
    · have HAL := Lib.hid hall
      clear hall
      dsimp only
      go_wp2_with fail
      go_returns
      exact .inl ⟨rfl, by rw [← HMM.out]; exact hfull, HAL.out, HS1.out, HP1.out, HU1.out⟩
  · have hfull' : m < buffers := by omega
    have HFU := Lib.hid hfull'
    obtain ⟨out, may, rfl⟩ : ∃ out may, e = .returned (.tuple #[.int .i64 out, .bool may]) := by
      rcases hq with ⟨out, b, rfl, -, -⟩ | ⟨rfl, -⟩
      · exact ⟨_, _, rfl⟩
      · exact ⟨_, _, rfl⟩
    clear hq
    dsimp only
    go_wp2_with fail
    have k21 : W1.cell? ⟨bp, 2, none⟩ = some (.pointer (some ⟨bd, 0, none⟩)) := HP1.out.load.2.2.1
    have k41 : W1.cell? ⟨bp, 4, none⟩ = some (.int .i64 fro) := HP1.out.load.2.2.2.2.1
    have k21' : W1.drew.cell? ⟨bp, 2, none⟩ = some (.pointer (some ⟨bd, 0, none⟩)) := k21
    have k41' : W1.drew.cell? ⟨bp, 4, none⟩ = some (.int .i64 fro) := k41
    have HS1D := Lib.hid (HS1.out.below (Below.refl _ W1).drew)
    have HIN : Hid (J < sz) := Lib.hid (by have := H0.out; have := H1.out; have h5 := H3.out; have := HJ.out; omega)
    have hwr := HWR.out
    go_region_law (first
      | (go_simp; go_at_call 161; refine (disIs_read bd sz c J D _ HS1D.out.disk HS1D.out.no HIN.out (by have := HCC.out; omega)).mono ?_; rintro e W2 ⟨v2, rfl, ho2, hb2⟩; obtain ⟨q2, d2, rfl, hd2⟩ := own_slice ho2; have HO2 := Lib.hid ho2; have HB2 := Lib.hid hb2; have HD2 := Lib.hid hd2; clear ho2 hb2 hd2))
    all_goals
      clear k21 k41 k21' k41' hwr
      have HP2 := Lib.hid ((HP1.out.below (Below.refl _ W1).drew).below HB2.out)
      have HS2 := Lib.hid (HS1D.out.below HB2.out)
      have HU2 : Hid (Upd (FS N bm w) w W2) := Lib.hid (FS.trans HU1.out (FS.trans (FS.of_below (Below.refl _ W1).drew) (FS.of_below HB2.out)))
      have HRD : Hid (Rd W2 q2 (D J) ∧ (D J).length = 128 ∧ d2 ≤ maxLen) := Lib.hid (by
        obtain ⟨q, d, e', hr, hx, hm, -⟩ := own_rd HO2.out
        cases e'
        exact ⟨hr, hx, (own_cap HO2.out (by omega)).2⟩)
      have HDE : Hid (D J = encV (C n).1 (C n).2) := Lib.hid (by rw [← HJ.out]; exact HI.out.not n H0.out H1.out HM.out)
      have HCK := Lib.hid (HI.out.ok n H0.out H1.out)
      go_wp2_with fail
      refine (decode_any q2 128 d2 (D J) W2 HRD.out.2.1 HRD.out.1 HD2.out HRD.out.2.2 HS2.out.halves).mono ?_
      rintro e W3 ⟨hdq, hb3⟩
      obtain ⟨de1, de2, de3⟩ := dec_enc (l := (C n).1) HCK.out.2 HCK.out.1
      rcases hdq with ⟨-, v3, rfl, ho3⟩ | ⟨hne, -⟩
      case' inr => exact absurd (by rw [HDE.out]; exact de1) hne
      rw [HDE.out, de3] at ho3
      have hdl : decL (D J) = (C n).1 := by rw [HDE.out]; exact de2
      obtain ⟨l, hl⟩ : ∃ l, l = decL (D J) := ⟨_, rfl⟩
      rw [← hl]
      have HLC : Hid (l = (C n).1) := Lib.hid (by rw [hl, hdl])
      obtain ⟨q3, d3, rfl, -⟩ := own_slice ho3
      have HO3 := Lib.hid (own_mono ho3 HS2.out.base)
      have HNB : Hid (∀ k, N k → k < W2.heap.size) := Lib.hid HS2.out.no
      have HO3B := Lib.hid ho3
      have HP3 := Lib.hid (HP2.out.below hb3)
      have HS3 := Lib.hid (HS2.out.below hb3)
      have HU3 : Hid (Upd (FS N bm w) w W3) := Lib.hid (FS.trans HU2.out (FS.of_below hb3))
      clear ho3 hdl hl de1 de2 de3 hb3 HO2 HB2 HRD HP2 HS2 HU2 HP1 HS1 HU1 HS1D HD HSD HUD H HS
    all_goals
      have hk05 := HP3.out.load.1
      have hlt5 := cell_lt hk05
    all_goals
      have HKB : Hid (-9223372036854775808 ≤ n ∧ n < 9223372036854775808) := Lib.hid (by obtain ⟨_, _, hd, hn, -⟩ := HS3.out.disk; have := hd.small; have h5 := H0.out; have h6 := H1.out; have h7 := H3.out; omega)
      have HA5 := Lib.hid ((Below.refl W3.heap.size W3).alloc (Nat.le_refl _) (.cells #[.slice q3 112 d3, .int .i64 l, .int .i64 0, .int .i64 0, .int .i64 0] 321))
      have HLK : Hid (look (mapP M) n = none) := Lib.hid (by rw [look_mapP, look_none_iff.2 HM.out]; rfl)
      have HLT : Hid ((mapP M).length < 100000) := Lib.hid (by have h5 := HFU.out; have h6 := HMM.out; simp only [mapP, List.length_map]; have := HBU.out; omega)
      go_wp2_with (at_mapUpdate; refine wpList_insertZ rfl _ _ _ 257 rfl 3 317 Tryz.underlying257 Tryz.underlying3 n (.pointer (some ⟨W3.heap.size, 0, none⟩)) rfl rfl rfl (HP3.out.below HA5.out).map HLK.out HLT.out HKB.out.1 HKB.out.2 ?_; intro WY hmz2 hu2)
      obtain ⟨bn, hb1, hb2, hb3, hp6, hs6, hi6, hu6, hpi6⟩ := in_enter HP3.out HS3.out HI.out H0.out H1.out HM.out (by have := HC.out; omega) HO3B.out HNB.out HLC.out rfl hmz2 hu2
      have HBN := Lib.hid (show (n, bn) ∈ M ++ [(n, bn)] by simp)
      rw [← hb1]
      refine (touch_any bp bd bl bm fro pages buffers clock (M ++ [(n, bn)]) n bn _ hp6 HBN.out (by have := HC.out; omega)).mono ?_
      rintro e W7 ⟨⟨x7, rfl⟩, hp7, hu7⟩
      have hT7 := FS.touched hp6 HBN.out hu7
      have HS7 := Lib.hid (hs6.pooled hp6 hu7 hT7)
      have HU7 : Hid (Upd (FS N bm w) w W7) := Lib.hid (FS.trans (FS.trans HU3.out hu6) (FS.of_pool hu7 hT7))
      have HP7 := Lib.hid hp7
      have HI7 := Lib.hid (hi6.used HBN.out (b' := { bn with used := clock + 1 }) rfl rfl rfl)
      have HPI7 : Hid (∀ k, pinsOf (setM (M ++ [(n, bn)]) n { bn with used := clock + 1 }) k = pinsOf M k) := Lib.hid (fun k => (pinsOf_setM (b' := { bn with used := clock + 1 }) hp6.nodup HBN.out rfl k).trans ((hpi6 k).trans rfl))
      have HCL7 : Hid ((∀ x ∈ M, x.2.first = 0) → ∀ x ∈ setM (M ++ [(n, bn)]) n { bn with used := clock + 1 }, x.2.first = 0) := Lib.hid (fun hf => clean_setM (fun _ => hb2) (fun x hx => by
        rcases List.mem_append.1 hx with h | h
        · exact hf x h
        · rw [List.mem_singleton.1 h]; exact hb2))
      have HLE7 : Hid (M.length ≤ buffers → (setM (M ++ [(n, bn)]) n { bn with used := clock + 1 }).length ≤ buffers) := Lib.hid (fun hl => by rw [setM_length, List.length_append]; have h5 := HFU.out; have h7 := HMM.out; simp only [List.length_cons, List.length_nil]; omega)
      have HPT : Hid (({ bn with used := clock + 1 } : Buf).blk = bn.blk) := Lib.hid rfl
      clear hp6 hs6 hi6 hu6 hpi6 hp7 hu7 hT7 hmz2 hu2 hb2 hb3
      go_wp2_with fail
      go_returns
      exact .inr ⟨c, _, L, D, { bn with used := clock + 1 }, (by first | rfl | (show _ = Ending.returned (.tuple #[.pointer (some ⟨bn.blk, 0, none⟩), .int .i64 0]); rw [hb1]; rfl)), by omega, fun _ => rfl, mem_setM_self HBN.out, HS7.out, HP7.out, HI7.out, .inl ⟨rfl, rfl⟩, HPI7.out, HLE7.out, HCL7.out, HU7.out⟩
end
end Go.Proofs.YtheeomjfpnijbaaGreatDoor
