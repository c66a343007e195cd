/- A reply's message: the document's. -/
import Derived.Test.YtefalhnllkkkhaaDoorReply
import Derived.Deep.RegionLaw
import Derived.Deep.DeepCutAuto
namespace Go.Proofs.YtefalhnllkkkhaaDoor
open Go.RowKit
set_option linter.unusedVariables false

theorem chain2 {w W1 W2 : World} (h1 : Below w.heap.size w W1) (h2 : Below W1.heap.size W1 W2) : Below w.heap.size w W2 := h1.trans (h2.mono h1.size)
theorem chain3 {w W0 W1 W2 W3 W4 : World} (h1 : Below w.heap.size w W0) (h2 : Below W1.heap.size W1 W2) (h3 : Below W2.heap.size W2 W3) (h4 : Below W3.heap.size W3 W4) (he : W1.heap = W0.heap := by rfl) (ho : W1.os = W0.os := by rfl) (ht : W1.tape = W0.tape := by rfl) (hu : W1.output = W0.output := by rfl) : Below w.heap.size w W4 := by
  have h2' : Below W0.heap.size W0 W2 := ⟨h2.os.trans ho, h2.tape.trans ht, h2.output.trans hu, by rw [← he]; exact h2.size, fun k hk => by rw [← he] at hk ⊢; exact h2.block k hk⟩
  exact chain2 (chain2 (chain2 h1 h2') h3) h4
theorem kept {w w' : World} {p : Addr} {v : Value} (hb : Below w.heap.size w w') (h : w.cell? p = some v) : w'.cell? p = some v := (hb.cell (cell_lt h)).trans h

set_option maxHeartbeats 1000000 in
set_option maxRecDepth 20000 in
theorem refreply_any (id text : ByteArray) (st se wh : Int) (w : World) (h1 : id.size ≤ maxLen) (h2 : text.size ≤ maxLen) :
    Calls Tryd.prog 42 #[.agg #[.string id, .int .i64 st, .int .i64 se, .int .i64 wh, .string text]] w fun e w' => ReplyQ id text st se wh w w' e := by
  have H1 := Lib.hid h1
  have H2 := Lib.hid h2
  clear h1 h2
  cases hI : mayR id text st se wh with
  | false =>
    have HI := Lib.hid hI
    clear hI
    go_enter Tryd.func42, Tryd.ntmps42
    go_wp2_with fail
    refine (refmayReply_any id text st se wh _ H1.out H2.out).mono ?_
    rintro e w1 ⟨rfl, hb⟩
    rw [HI.out]
    go_wp2
    go_ret2
    exact .inl ⟨HI.out, rfl, ((Below.refl _ w).alloc (Nat.le_refl _) _).trans (hb.mono (by simp))⟩
  | true =>
    obtain ⟨a, b, c, rfl, rfl, rfl, ha, hb, hc, hi, ht⟩ := mayR_facts hI
    have HI := Lib.hid hI
    have HA := Lib.hid ha
    have HB := Lib.hid hb
    have HC := Lib.hid hc
    have HII := Lib.hid hi
    have HTT := Lib.hid ht
    clear hI ha hb hc hi ht
    go_enter Tryd.func42, Tryd.ntmps42
    go_wp2_with fail
    refine (refmayReply_any id text a b c _ H1.out H2.out).mono ?_
    rintro e w1 ⟨rfl, hb⟩
    rw [HI.out]
    have k0 : w1.cell? ⟨w.heap.size, 0, none⟩ = some (.string id) := cell_after hb rfl
    have k1 : w1.cell? ⟨w.heap.size, 1, none⟩ = some (.int .i64 a) := cell_after hb rfl
    have k2 : w1.cell? ⟨w.heap.size, 2, none⟩ = some (.int .i64 b) := cell_after hb rfl
    have k3 : w1.cell? ⟨w.heap.size, 3, none⟩ = some (.int .i64 c) := cell_after hb rfl
    have k4 : w1.cell? ⟨w.heap.size, 4, none⟩ = some (.string text) := cell_after hb rfl
    have hlt : w.heap.size < w1.heap.size := size_after hb
    have hb01 : Below w.heap.size w w1 := ((Below.refl _ w).alloc (Nat.le_refl _) _).trans (hb.mono (by simp))
    have HB1 := Lib.hid hb01
    have HP : Hid (Rd (w1.alloc (.cells #[.int .u8 2] 5)) (some ⟨w1.heap.size, 0, none⟩) [2]) := Lib.hid (rd_new w1 [2])
    have hal : Below w1.heap.size w1 (w1.alloc (.cells #[.int .u8 2] 5)) := (Below.refl _ w1).alloc (Nat.le_refl _) _
    have KA0 := Lib.hid (kept hal k0)
    have KA2 := Lib.hid (kept hal k2)
    have KA3 := Lib.hid (kept hal k3)
    have KA4 := Lib.hid (kept hal k4)
    have HBA : Hid (Below w.heap.size w (w1.alloc (.cells #[.int .u8 2] 5))) := Lib.hid (hb01.alloc hb01.size _)
    have HL1 : Hid ((([2] : List UInt8) ++ varN a).length + 9 ≤ 140737488355328) := Lib.hid (by have := varN_le9 (n := a) (by have := HA.out; omega); simp; omega)
    have HL2 : Hid ((([2] : List UInt8) ++ varN a ++ varN b).length + 9 ≤ 140737488355328) := Lib.hid (by have := varN_le9 (n := a) (by have := HA.out; omega); have := varN_le9 (n := b) (by have := HB.out; omega); simp; omega)
    obtain ⟨y1, hy1⟩ : ∃ y, y = ([2] : List UInt8) ++ varN a := ⟨_, rfl⟩
    rw [← hy1] at HL1 HL2
    obtain ⟨y2, hy2⟩ : ∃ y, y = y1 ++ varN b := ⟨_, rfl⟩
    rw [← hy2] at HL2
    obtain ⟨L1, hL1⟩ : ∃ L, L = y1.length := ⟨_, rfl⟩
    obtain ⟨L2, hL2⟩ : ∃ L, L = y2.length := ⟨_, rfl⟩
    rw [← hL1] at HL1
    rw [← hL2] at HL2
    obtain ⟨y3, hy3⟩ : ∃ y, y = y2 ++ varN c := ⟨_, rfl⟩
    obtain ⟨L3, hL3⟩ : ∃ L, L = y3.length := ⟨_, rfl⟩
    have HY3 := Lib.hid hy3
    have HE3 := Lib.hid hL3
    have HY1 := Lib.hid hy1
    have HY2 := Lib.hid hy2
    have HE1 := Lib.hid hL1
    have HE2 := Lib.hid hL2
    clear hb hb01 hal hy1 hy2 hL1 hL2 hy3 hL3
    go_upto_region 3 with fail
    go_cut [4] (fun v wx => ∃ p3 c3, v = .slice p3 L3 c3 ∧ Hid (Rd wx p3 y3) ∧ Hid (Below w.heap.size w wx) ∧ wx.cell? ⟨w.heap.size, 0, none⟩ = some (.string id) ∧ wx.cell? ⟨w.heap.size, 4, none⟩ = some (.string text))
    case first =>
      go_region_law (first
      | (go_simp; go_at_call 39; refine (refput_any _ L2 c2 y2 c _ HE2.out.symm HL2.out (by have := HC.out; omega) ?_).mono ?_; exact HRb.out; rintro e w4 ⟨v4, rfl, hown4, hb4⟩; rw [← HY3.out, ← HE3.out] at hown4; obtain ⟨p3, c3, rfl, hr4, hx4, _, _⟩ := own_rd hown4; have HRc := Lib.hid hr4; have HBc := Lib.hid hb4; have KC0 := Lib.hid (kept hb4 KB0.out); have KC4 := Lib.hid (kept hb4 KB4.out); clear hown4 hr4 hx4 hb4)
      | (go_simp; go_at_call 39; refine (refput_any _ L1 c1 y1 b _ HE1.out.symm HL1.out (by have := HB.out; omega) ?_).mono ?_; exact HRa.out; rintro e w3 ⟨v3, rfl, hown3, hb3⟩; rw [← HY2.out, ← HE2.out] at hown3; have HOb := Lib.hid hown3; obtain ⟨p2, c2, rfl, hr3, hx3, _, _⟩ := own_rd hown3; have HRb := Lib.hid hr3; have HBb := Lib.hid hb3; have KB0 := Lib.hid (kept hb3 KP0.out); have k3b := kept hb3 KP3.out; have KB4 := Lib.hid (kept hb3 KP4.out); clear hown3 hr3 hx3 hb3)
      | (go_simp; go_at_call 39; refine (refput_any _ 1 1 [2] a _ rfl (by omega) (by have := HA.out; omega) ?_).mono ?_; exact HP.out; rintro e w2 ⟨v2, rfl, hown2, hb2⟩; rw [← HY1.out, ← HE1.out] at hown2; obtain ⟨p1, c1, rfl, hr2, hx2, _, _⟩ := own_rd hown2; have HRa := Lib.hid hr2; have HBa := Lib.hid hb2; have KP0 := Lib.hid (kept hb2 KA0.out); have k2a := kept hb2 KA2.out; have k3a := kept hb2 KA3.out; have KP3 := Lib.hid k3a; have KP4 := Lib.hid (kept hb2 KA4.out); clear hown2 hr2 hx2 hb2))
      all_goals (go_wp2_with fail; go_meet; exact ⟨_, _, rfl, HRc, Lib.hid (chain3 HBA.out HBa.out HBb.out HBc.out), KC0.out, KC4.out⟩)
    case rest =>
    obtain ⟨p3, c3, rfl, HR3, HB3, k0, k4⟩ := hcut
    have hv := varN_le9 (n := a) (by have := HA.out; omega)
    have hv2 := varN_le9 (n := b) (by have := HB.out; omega)
    have hv3 := varN_le9 (n := c) (by have := HC.out; omega)
    have hv4 := varN_le9 (n := id.size) (by have := HII.out; omega)
    have hv5 := varN_le9 (n := text.size) (by have := HTT.out; omega)
    have hL3 : y3.length ≤ 28 := by rw [HY3.out, HY2.out, HY1.out]; simp; omega
    obtain ⟨y4, hy4⟩ : ∃ y, y = y3 ++ varN id.size ++ strB id := ⟨_, rfl⟩
    obtain ⟨y5, hy5⟩ : ∃ y, y = y4 ++ varN text.size ++ strB text := ⟨_, rfl⟩
    have hL4 : y4.length ≤ 1000 := by rw [hy4]; simp [strB_length]; have := HII.out; omega
    have hL5 : y5.length ≤ 2500 := by rw [hy5]; simp [strB_length]; have := HTT.out; omega
    obtain ⟨L4, hE4⟩ : ∃ L, L = y4.length := ⟨_, rfl⟩
    obtain ⟨L5, hE5⟩ : ∃ L, L = y5.length := ⟨_, rfl⟩
    have HLA : Hid (L3 + 9 + id.size ≤ 140737488355328) := Lib.hid (by have := HE3.out; have := HII.out; omega)
    have HLB : Hid (L4 + 9 + text.size ≤ 140737488355328) := Lib.hid (by have := HTT.out; omega)
    have HLC : Hid (L5 ≤ 140737488351232) := Lib.hid (by omega)
    have HLD : Hid (y5.length ≤ 65536) := Lib.hid (by omega)
    have HY4 := Lib.hid hy4
    have HY5 := Lib.hid hy5
    have HE4 := Lib.hid hE4
    have HE5 := Lib.hid hE5
    have HM : Hid (y5 = msgB 2 [a, b, c] id text) := Lib.hid (by rw [hy5, hy4, HY3.out, HY2.out, HY1.out]; simp [msgB, numsB])
    have K4 := Lib.hid k4
    clear hv hv2 hv3 hv4 hv5 hL3 hL4 hL5 hy4 hy5 hE4 hE5
    go_upto_region 4 with fail
    go_region_law (first
      | (go_simp; go_at_call 57; refine (refframe_any _ L5 c5 y5 _ HE5.out.symm ?_ HLC.out).mono ?_; exact HR5.out; rintro e w6 hq6; obtain ⟨p6, L6, c6, rfl, hl6, hr6, hb6⟩ := hq6.ok HLD.out; have HQ6 := Lib.hid hl6; have HR6 := Lib.hid hr6; have HB6 := Lib.hid hb6; clear hq6 hl6 hr6 hb6)
      | (go_simp; go_at_call 58; refine (reftext_any _ L4 c4 y4 text _ HE4.out.symm HLB.out ?_).mono ?_; exact HR4.out; rintro e w5 ⟨v5, rfl, hown5, hb5⟩; rw [← HY5.out, ← HE5.out] at hown5; obtain ⟨p5, c5, rfl, hr5, hx5, _, _⟩ := own_rd hown5; have HR5 := Lib.hid hr5; have HB5 := Lib.hid hb5; clear hown5 hr5 hx5 hb5)
      | (go_simp; go_at_call 58; refine (reftext_any _ L3 c3 y3 id _ HE3.out.symm HLA.out ?_).mono ?_; exact HR3.out; rintro e w4 ⟨v4, rfl, hown4, hb4⟩; rw [← HY4.out, ← HE4.out] at hown4; obtain ⟨p4, c4, rfl, hr4, hx4, _, _⟩ := own_rd hown4; have HR4 := Lib.hid hr4; have HB4 := Lib.hid hb4; have k4a := kept hb4 K4.out; clear hown4 hr4 hx4 hb4))
    all_goals (go_wp2_with fail; go_ret2; exact .inr ⟨HI.out, ⟨_, L6, _, rfl, by rw [HM.out] at HQ6; exact HQ6.out, by rw [HM.out] at HR6; exact HR6.out, chain3 HB3.out HB4.out HB5.out HB6.out⟩⟩)
end Go.Proofs.YtefalhnllkkkhaaDoor
