/- Texts of one claim, one behind the other: Bt19, Bt20. -/
import Derived.Test.YtheeomjfpnijbaaGreatDoorMBe
section
namespace Go.Proofs.YtheeomjfpnijbaaGreatDoor
open Go.RowKit Go.Shelf
set_option linter.unusedVariables false

theorem gather_all : ∀ n : Nat, n ≤ 20 → GatherAt n
  | 0, _ => gather_zero
  | n + 1, h => gather_inner (gather_all n (by omega)) (by omega)
def RangeQ (p : Par) (tx cap : Nat) (s : ASt) (w : World) (k : Nat) (l : List (Key × Key)) (e : Ending) (w' : World) : Prop :=
  ∃ q c s', e = .returned (.tuple #[.slice q l.length c, .int .i64 0]) ∧ w'.ownsRow w.heap.size 42 2 (.slice q l.length c) l.length (l.flatMap pairV) ∧ TM p tx cap w' s' ∧ pst s' = pst s ∧ s'.t ≤ s.t + 1 + k ∧ s'.N = s.N ∧ Step p s.N w s'.N w'
set_option maxRecDepth 20000 in
set_option maxHeartbeats 8000000 in
theorem trange_any {p : Par} {tx cap : Nat} {s : ASt} {n : Nat} (t : Tr n) (from_ : Key) (most : Int) (z : Met) (w : World) (h : TM p tx cap w s) (ht : s.t + 1 + t.nds.length ≤ 700000) (hz : (pst s).F 0 = pad z.load) (ho : MetOk p.pages z) (hr : z.root = t.pg) (hl : z.levels = n + 1) (hh : ∀ d ∈ t.nds, Holds p.pages (pst s).F d) (hord : t.Ord [] none) (hsz : t.flat.length ≤ 100000) :
    Calls Tryz.prog 11 #[.pointer (some ⟨p.bg, 0, none⟩), .int .i64 tx, .string (bstr from_), .int .i64 most] w (RangeQ p tx cap s w t.nds.length (upTo most [] (fromK from_ t.flat))) := by
  have H := Lib.hid h
  have HT := Lib.hid ht
  have HZ := Lib.hid hz
  have HO := Lib.hid ho
  have HR := Lib.hid hr
  have HL := Lib.hid hl
  have HH := Lib.hid hh
  have HOR := Lib.hid hord
  have HSZ := Lib.hid hsz
  clear h ht hz ho hr hl hh hord hsz
  go_enter Tryz.func11, Tryz.ntmps11
  go_wp2_with fail
  refine (made_any w H.out).mono ?_
  rintro e w1 ⟨rfl, hb1⟩
  unfold treeV
  have HB1 := Lib.hid hb1
  clear hb1
  go_upto_region 4 with fail
  obtain ⟨W2, hW2⟩ : ∃ W, W = w1.alloc (.cells #[.pointer (some ⟨p.bg, 0, none⟩), .int .i64 tx] 117) := ⟨_, rfl⟩
  obtain ⟨N, hN⟩ : ∃ N, N = w1.heap.size := ⟨_, rfl⟩
  have n2 : W2.heap[N]? = some (.cells #[.pointer (some ⟨p.bg, 0, none⟩), .int .i64 tx] 117 (0, 0)) := by rw [hW2, hN]; exact heap_alloc_new w1 _
  have HB2 : Hid (Below w.heap.size w W2) := Lib.hid (by rw [hW2]; exact HB1.out.alloc HB1.out.size _)
  rw [← hW2, ← hN]
  have N2 := Lib.hid n2
  have k0 : W2.cell? ⟨N, 0, none⟩ = some (.pointer (some ⟨p.bg, 0, none⟩)) := by simp [World.cell?, n2]
  have k1 : W2.cell? ⟨N, 1, none⟩ = some (.int .i64 tx) := by simp [World.cell?, n2]
  have hlt := cell_lt k0
  have HM2 := Lib.hid (H.out.below HB2.out)
  clear hW2 hN n2
  go_wp2_with fail
  refine (tmeta_any z W2 HM2.out (by have := HT.out; omega) HZ.out HO.out).mono ?_
  rintro e w3 ⟨s3, rfl, hm3, hp3, ht3, hn3, hs3⟩
  unfold metV
  rw [hn3] at hs3
  have HN3' := Lib.hid (HM2.out.keep hs3 N2.out (by decide))
  have HM3 := Lib.hid hm3
  have HP3 := Lib.hid hp3
  have HT3 := Lib.hid ht3
  have HN3 := Lib.hid hn3
  have HS3 := Lib.hid ((Step.of_below HB2.out).trans hs3)
  clear hm3 hp3 ht3 hn3 hs3 k0 k1 hlt
  go_upto_region 5 with fail
  obtain ⟨X, hX⟩ : ∃ X, X = w3.heap.size := ⟨_, rfl⟩
  obtain ⟨W4, hW4⟩ : ∃ W3, W3 = w3.alloc (.cells #[.int .i64 z.root, .int .i64 z.unused, .int .i64 z.free, .int .i64 z.levels] 133) := ⟨_, rfl⟩
  have x4 : W4.heap[X]? = some (.cells #[.int .i64 z.root, .int .i64 z.unused, .int .i64 z.free, .int .i64 z.levels] 133 (0, 0)) := by rw [hW4, hX]; exact heap_alloc_new w3 _
  have HB4 : Hid (Below w3.heap.size w3 W4) := Lib.hid (by rw [hW4]; exact (Below.refl _ w3).alloc (Nat.le_refl _) _)
  rw [← hW4, ← hX]
  obtain ⟨⟨a0, a1, a2, a3⟩, -, hXl⟩ := four_cells x4
  have n4 := met_old HN3'.out HB4.out
  have k0 : W4.cell? ⟨N, 0, none⟩ = some (.pointer (some ⟨p.bg, 0, none⟩)) := by simp [World.cell?, n4]
  have k1 : W4.cell? ⟨N, 1, none⟩ = some (.int .i64 tx) := by simp [World.cell?, n4]
  have hNl := cell_lt k0
  have HM4 := Lib.hid (HM3.out.below HB4.out)
  have HS4 := Lib.hid (HS3.out.trans (Step.of_below HB4.out))
  clear hW4 hX x4 n4
  by_cases hm : most ≤ 0
  · have hmd : decide (most ≤ 0) = true := decide_eq_true hm
    have he : upTo most [] (fromK from_ t.flat) = [] := by
      unfold upTo
      have : most.toNat = 0 := by omega
      rw [this]; simp
    have HE := Lib.hid he
    clear hm he
    go_wp2
    go_ret2
    rw [HE.out]
    refine ⟨none, 0, s3, rfl, ⟨rfl, .inl ⟨rfl, rfl⟩⟩, HM4.out, HP3.out, by have := HT3.out; omega, HN3.out, by rw [HN3.out]; exact HS4.out⟩
  · have hmd : decide (most ≤ 0) = false := decide_eq_false hm
    clear hm
    have hroot : (z.root : Int) = ((t.pg : Nat) : Int) := by rw [HR.out]
    have hlev : (z.levels : Int) = ((n + 1 : Nat) : Int) := by rw [HL.out]
    rw [hroot] at a0
    rw [hlev] at a3
    have GA : Hid (Calls Tryz.prog 43 #[.agg #[.pointer (some ⟨p.bg, 0, none⟩), .int .i64 tx], .int .i64 t.pg, .int .i64 ((n + 1 : Nat) : Int), .string (bstr from_), .slice none 0 0, .int .i64 most] W4 (GatherQ p tx cap s3 w W4.heap.size W4 t.nds.length (upTo most [] (fromK from_ t.flat)))) := Lib.hid (by
      refine gather_all n (by have := HO.out.levels; have := HL.out; omega) p tx cap s3 t [] none from_ most [] none 0 0 w W4.heap.size W4 HM4.out (by have := HT3.out; have := HT.out; omega) (by rw [HP3.out]; exact HH.out) HOR.out rfl (by have := HSZ.out; simp; omega) ⟨rfl, .inl ⟨rfl, rfl⟩⟩ (by rw [HN3.out]; exact HS4.out) HS4.out.upd.size (Nat.le_refl _) HM4.out.base)
    obtain ⟨LV, hLV⟩ : ∃ L, L = ((n + 1 : Nat) : Int) := ⟨_, rfl⟩
    rw [← hLV] at a3 GA
    clear hroot hlev hLV
    go_wp2_with fail
    refine GA.out.mono ?_
    rintro e w6 ⟨q6, c6, s6, rfl, hg6⟩
    have HG6 := Lib.hid hg6
    clear hg6 GA a0 a1 a2 a3 hXl k0 k1 hNl
    go_wp2
    go_ret2
    have hg := HG6.out
    refine ⟨q6, c6, s6, rfl, own_mono hg.row ?_, hg.tm, hg.pst.trans HP3.out, by have := hg.t; have := HT3.out; omega, hg.N.trans HN3.out, ?_⟩
    · have := HS4.out.upd.size; exact this
    · have h1 := hg.step
      rw [HN3.out] at h1
      rw [hg.N, HN3.out]
      exact h1
end Go.Proofs.YtheeomjfpnijbaaGreatDoor
end

section
namespace Go.Proofs.YtheeomjfpnijbaaGreatDoor
open Go.RowKit Go.Shelf
set_option linter.unusedVariables false

set_option maxRecDepth 20000 in
set_option maxHeartbeats 8000000 in
theorem tfree_any {p : Par} {tx cap : Nat} {s : ASt} (z : Met) (fl : List Nat) (w : World) (h : TM p tx cap w s) (ht : s.t + fl.length ≤ 600000) (hz : (pst s).F 0 = pad z.load) (ho : MetOk p.pages z) (hc : Chain (pst s).F z.free fl) (hf : ∀ k ∈ fl, 1 ≤ k ∧ k < z.unused) (hn : fl.length < z.unused) :
    Calls Tryz.prog 17 #[.pointer (some ⟨p.bg, 0, none⟩), .int .i64 tx] w fun e w' => ∃ s', e = .returned (.tuple #[.int .i64 (p.pages - z.unused + fl.length : Nat), .int .i64 0]) ∧ TM p tx cap w' s' ∧ pst s' = pst s ∧ s'.t = s.t + 1 + fl.length ∧ s'.N = s.N ∧ Step p s.N w s'.N w' := by
  have H := Lib.hid h
  have HT := Lib.hid ht
  have HZ := Lib.hid hz
  have HO := Lib.hid ho
  have HC := Lib.hid hc
  have HF := Lib.hid hf
  have HFN := Lib.hid hn
  have HPG : Hid (1 ≤ p.pages ∧ p.pages ≤ 4096) := Lib.hid h.pages
  obtain ⟨R, hR⟩ : ∃ R, R = p.pages - z.unused + fl.length := ⟨_, rfl⟩
  rw [← hR]
  have HR := Lib.hid hR
  clear h ht hz ho hc hf hn hR
  go_enter Tryz.func17, Tryz.ntmps17
  go_wp2_with fail
  refine (made_any w H.out).mono ?_
  rintro e w1 ⟨rfl, hb1⟩
  unfold treeV
  have HB1 := Lib.hid hb1
  clear hb1
  go_upto_region 4 with fail
  obtain ⟨W2, hW2⟩ : ∃ W, W = w1.alloc (.cells #[.pointer (some ⟨p.bg, 0, none⟩), .int .i64 tx] 117) := ⟨_, rfl⟩
  have k0 : W2.cell? ⟨w1.heap.size, 0, none⟩ = some (.pointer (some ⟨p.bg, 0, none⟩)) := by rw [hW2]; exact cellNew rfl
  have k1 : W2.cell? ⟨w1.heap.size, 1, none⟩ = some (.int .i64 tx) := by rw [hW2]; exact cellNew rfl
  have HB2 : Hid (Below w.heap.size w W2) := Lib.hid (by rw [hW2]; exact HB1.out.alloc HB1.out.size _)
  rw [← hW2]
  have hlt := cell_lt k0
  have HM2 := Lib.hid (H.out.below HB2.out)
  clear hW2
  go_wp2_with fail
  refine (tmeta_any z W2 HM2.out (by have := HT.out; omega) HZ.out HO.out).mono ?_
  rintro e w3 ⟨s3, rfl, hm3, hp3, ht3, hn3, hs3⟩
  unfold metV
  rw [hn3] at hs3
  have HM3 := Lib.hid hm3
  have HP3 := Lib.hid hp3
  have HT3 := Lib.hid ht3
  have HN3 := Lib.hid hn3
  have HS3 := Lib.hid ((Step.of_below HB2.out).trans hs3)
  clear hm3 hp3 ht3 hn3 hs3 k0 k1 hlt
  go_upto_region 5 with fail
  obtain ⟨X, hX⟩ : ∃ X, X = w3.heap.size := ⟨_, rfl⟩
  obtain ⟨W4, hW4⟩ : ∃ W3, W3 = w3.alloc (.cells #[.int .i64 z.root, .int .i64 z.unused, .int .i64 z.free, .int .i64 z.levels] 133) := ⟨_, rfl⟩
  have x4 : W4.heap[X]? = some (.cells #[.int .i64 z.root, .int .i64 z.unused, .int .i64 z.free, .int .i64 z.levels] 133 (0, 0)) := by rw [hW4, hX]; exact heap_alloc_new w3 _
  have HB4 : Hid (Below w3.heap.size w3 W4) := Lib.hid (by rw [hW4]; exact (Below.refl _ w3).alloc (Nat.le_refl _) _)
  rw [← hW4, ← hX]
  obtain ⟨⟨a0, a1, a2, a3⟩, -, hXl⟩ := four_cells x4
  have HM4 := Lib.hid (HM3.out.below HB4.out)
  have HS4 := Lib.hid (HS3.out.trans (Step.of_below HB4.out))
  have X4 := Lib.hid x4
  have HMN : Hid (∀ n, TM p tx cap (W4.drewN n) s3) := Lib.hid (fun n => HM4.out.below (below_drewN' W4 n))
  clear hW4 hX x4
  have hw9 : wrap64 ((p.pages : Int) - (z.unused : Int)) = ((p.pages - z.unused : Nat) : Int) := by have := HO.out.unused; have := HPG.out; unfold wrap64; omega
  have HW9 := Lib.hid hw9
  clear hw9
  go_wp2_with fail
  go_quiet ((go_at_call 50; exact Calls.quiet_of_same (pages_any (HMN.out _))))
  go_wp2
  have HA0 : Hid (W4.drewN nq = W4.drewN nq) := Lib.hid rfl
  clear a0 a1 a2 a3 hXl HA0
  obtain ⟨B, hB⟩ : ∃ B, B = p.pages - z.unused := ⟨_, rfl⟩
  have HBE := Lib.hid hB
  have HW9' : Hid (IntKind.i64.wrap ((p.pages : Int) - (z.unused : Int)) = (B : Int)) := Lib.hid (by rw [IntKind.wrap_i64, hB]; have := HO.out.unused; have := HPG.out; omega)
  have HW9'' : Hid (wrap64 ((p.pages : Int) - (z.unused : Int)) = (B : Int)) := Lib.hid (by rw [HW9.out, hB])
  (first | rw [HW9'.out] | rw [HW9''.out] | skip)
  clear hB
  go_loopw [9, 10, 11, 12] (fun v i b e wr => ∃ (j k : Nat) (s5 : ASt), v = .int .i64 (B + j : Nat) ∧ i = .int .i64 k ∧ Hid (j ≤ fl.length ∧ Chain (pst s).F k (fl.drop j)) ∧
      Hid (TM p tx cap wr s5 ∧ pst s5 = pst s ∧ s5.t = s.t + 1 + j ∧ s5.N = s.N ∧ Step p s.N w s.N wr) ∧ Hid (wr.heap[X]? = some (.cells #[.int .i64 z.root, .int .i64 z.unused, .int .i64 z.free, .int .i64 z.levels] 133 (0, 0)))) (fun v _ _ _ _ => B + fl.length - (intOf v).toNat)
  case atStart =>
    exact ⟨0, z.free, s3, rfl, rfl, Lib.hid ⟨Nat.zero_le _, HC.out⟩, Lib.hid ⟨HMN.out nq, HP3.out, HT3.out, HN3.out, HS4.out.trans (Step.of_below (below_drewN' W4 nq))⟩, Lib.hid X4.out⟩
  case round =>
    obtain ⟨j, k, s5, rfl, rfl, HI, HM5, HX5⟩ := hrel
    obtain ⟨⟨a0, a1, a2, a3⟩, -, hXl⟩ := four_cells HX5.out
    cases hfl : fl.drop j with
    | nil =>
      have hk0 : k = 0 := by have := HI.out.2; rw [hfl] at this; exact this
      have hjl : j = fl.length := by have := congrArg List.length hfl; rw [List.length_drop, List.length_nil] at this; have := HI.out.1; omega
      subst hk0
      have HJ := Lib.hid hjl
      have hBR : B + j = R := by rw [HR.out, hjl, HBE.out]
      rw [hBR]
      clear hfl hjl hBR
      go_wp2
      go_ret2
      obtain ⟨h1, h2, h3, h4, h5⟩ := HM5.out
      exact ⟨s5, rfl, h1, h2, by rw [← HJ.out]; exact h3, h4, by rw [h4]; exact h5⟩
    | cons k' l =>
      obtain ⟨rfl, hk0, f, tl, hFk, hf, hch⟩ : k = k' ∧ 0 < k' ∧ ∃ f tl, (pst s).F k' = le2 f ++ tl ∧ f < 65536 ∧ Chain (pst s).F f l := by have := HI.out.2; rw [hfl] at this; exact this
      have hmem : k ∈ fl := List.mem_of_mem_drop (by rw [hfl]; simp)
      have hjl : j < fl.length := by have := congrArg List.length hfl; rw [List.length_drop, List.length_cons] at this; omega
      obtain ⟨hk1, hk2⟩ := HF.out k hmem
      have hkn : ((k : Int) != 0) = true := by rw [bne_iff_ne]; omega
      have hkd : decide ((k : Int) ≥ (z.unused : Int)) = false := decide_eq_false (by omega)
      have hkd' : decide (z.unused ≤ k) = false := decide_eq_false (by omega)
      obtain ⟨Q, hQ⟩ : ∃ Q, Q = B + j := ⟨_, rfl⟩
      have hqd : decide ((Q : Int) ≥ (p.pages : Int)) = false := decide_eq_false (by have := HBE.out; have := HO.out.unused; have := HFN.out; omega)
      have hqd' : decide (p.pages ≤ Q) = false := decide_eq_false (by have := HBE.out; have := HO.out.unused; have := HFN.out; omega)
      rw [← hQ]
      have HQ := Lib.hid hQ
      have HK := Lib.hid (And.intro hk1 (And.intro hk2 hjl))
      have HFK := Lib.hid hFk
      have HF5 := Lib.hid hf
      have HCH := Lib.hid hch
      have HFL := Lib.hid hfl
      clear hQ hk1 hk2 hjl hFk hf hch hfl hmem hk0
      go_wp2_with fail
      refine (pages_any HM5.out.1).mono ?_
      rintro e w5 ⟨rfl, rfl⟩
      go_wp2_with fail
      obtain ⟨h1, h2, h3, h4, h5⟩ := HM5.out
      have hF : (s5.C (k : Int)).2 = le2 f ++ tl := by have := congrArg (fun P => P.F k) h2; exact this.trans HFK.out
      have hlen := h1.len k (by have := HO.out.unused; have := HK.out.2.1; omega)
      have htl : tl.length + 2 = 112 := by rw [hF, List.length_append] at hlen; simp [le2] at hlen; omega
      refine (tread_any k h1 (by have := HO.out.unused; have := HK.out.2.1; omega) (by have := HT.out; have := HK.out.2.2; omega)).mono ?_
      rintro e w6 ⟨q6, d6, s6, rfl, ho6, hm6, hp6, ht6, hn6, hs6⟩
      rw [hn6, h4] at hs6
      rw [hF] at ho6
      have X6 := Lib.hid (h1.keep (by rw [h4]; exact hs6) HX5.out (by decide))
      have HR6 : Hid (Rd w6 q6 (UInt8.ofNat f :: UInt8.ofNat (f / 256) :: tl)) := Lib.hid (own_rdv ho6)
      have HTL := Lib.hid htl
      have HM6 := Lib.hid hm6
      have HP6 := Lib.hid (hp6.trans h2)
      have HT6 : Hid (s6.t = s.t + 1 + (j + 1)) := Lib.hid (by omega)
      have HN6 := Lib.hid (hn6.trans h4)
      have HS6 := Lib.hid (h5.trans hs6)
      clear h1 h2 h3 h4 h5 hF hlen htl ho6 hm6 hp6 ht6 hn6 hs6 a0 a1 a2 a3 hXl
      dsimp only
      go_wp2_with fail
      refine (get16_any q6 112 d6 (UInt8.ofNat f) (UInt8.ofNat (f / 256)) tl w6 HTL.out HR6.out).mono ?_
      rintro e w7 ⟨rfl, hb7⟩
      rw [num2_le2 HF5.out]
      have HB7 := Lib.hid hb7
      have hw1 : wrap64 ((Q : Int) + 1) = ((Q + 1 : Nat) : Int) := by have := HQ.out; have := HBE.out; have := HPG.out; have := HK.out.2.2; have := HFN.out; have := HO.out.unused; unfold wrap64; omega
      have HW1 := Lib.hid hw1
      clear hb7 hw1
      go_wp2
      (first | rw [HW1.out] | skip)
      go_roundw
      case rel =>
        refine ⟨j + 1, f, s6, by rw [HQ.out]; rfl, rfl, Lib.hid ⟨HK.out.2.2, ?_⟩, Lib.hid ⟨HM6.out.below HB7.out, HP6.out, HT6.out, HN6.out, HS6.out.trans (Step.of_below HB7.out)⟩, Lib.hid (met_old X6.out HB7.out)⟩
        have : fl.drop (j + 1) = l := by
          have := congrArg (List.drop 1) HFL.out
          rw [List.drop_drop] at this
          exact this
        rw [this]
        exact HCH.out
      case measure => simp only [intOf, Int.toNat_natCast]; have := HQ.out; have := HK.out.2.2; omega
end Go.Proofs.YtheeomjfpnijbaaGreatDoor
end
