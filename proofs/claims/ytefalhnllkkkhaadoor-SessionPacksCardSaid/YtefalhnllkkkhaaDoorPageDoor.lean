/- The walks of the laws PageBack and PageTurned. -/
import Derived.Test.YtefalhnllkkkhaaDoorPageMath
namespace Go.Proofs.YtefalhnllkkkhaaDoor
open Go.RowKit
set_option linter.unusedVariables false

theorem eok_nat {lsn : Int} {n : Nat} (h : eok lsn n) : ∃ l : Nat, lsn = l ∧ l ≤ 4611686018427387904 ∧ n = 112 := by
  obtain ⟨h1, h2, h3⟩ := h
  exact ⟨lsn.toNat, by omega, by omega, h3⟩

set_option maxHeartbeats 1000000 in
set_option maxRecDepth 20000 in
theorem pageBack_walk (lsn : Int) (a1 : Option Addr) (n1 c1 : Nat) (xs : List UInt8) (w : World) (hT : Halves w)
    (hx : xs.length = n1) (hr : Rd w a1 xs) (hc : n1 ≤ c1) (hm : c1 ≤ maxLen) :
    Calls Tryd.prog 4 #[.int .i64 lsn, .slice a1 n1 c1] w fun e w' => e = .returned (.bool true) ∧ Below w.heap.size w w' := by
  have HX := Lib.hid hx
  have HM := Lib.hid hm
  have HT := Lib.hid hT
  by_cases h : eok lsn n1
  · obtain ⟨l, rfl, hl, rfl⟩ := eok_nat h
    have HOK := Lib.hid h
    obtain ⟨hd1, hd2, hd3⟩ := dec_enc hx hl
    have HD1 := Lib.hid hd1
    have HD2 := Lib.hid hd2
    have HD3 := Lib.hid hd3
    clear hx hm hT h hl hd1 hd2 hd3
    go_enter Tryd.func4, Tryd.ntmps4
    go_wp2_with fail
    refine (encode_ok l a1 112 c1 xs _ HX.out hr hc HM.out HT.out HOK.out).mono ?_
    rintro e w1 ⟨v1, rfl, hown1, hb1⟩
    obtain ⟨p1, cap1, rfl, hr1, hx1, _, _⟩ := own_rd hown1
    have hcap1 := own_cap hown1 (by omega)
    have HX1 := Lib.hid hx1
    clear hown1 hx1
    go_wp2_with fail
    refine (refencode_ok l a1 112 c1 xs _ HX.out (hr.below hb1) hc HM.out HOK.out).mono ?_
    rintro e w2 ⟨v2, rfl, _, hb2⟩
    have hb02 : Below w.heap.size w w2 := hb1.trans (hb2.mono hb1.size)
    have hr12 := hr1.below hb2
    clear hr1
    go_wp2_with fail
    refine (decode_any p1 128 cap1 (encV l xs) _ HX1.out hr12 hcap1.1 hcap1.2 (HT.out.below hb02)).mono ?_
    rintro e w3 ⟨hq, hb3⟩
    have hb03 : Below w.heap.size w w3 := hb02.trans (hb3.mono hb02.size)
    rcases hq with ⟨_, v3, rfl, hown3⟩ | ⟨hne, _⟩
    · rw [HD2.out]
      rw [HD3.out] at hown3
      obtain ⟨p3, cap3, rfl, hr3, hx3, _, _⟩ := own_rd hown3
      have hcap3 := own_cap hown3 (by omega)
      have hr13 := hr12.below hb3
      have HX3 := Lib.hid hx3
      clear hown3 hr12 hx3
      go_wp2_with fail
      refine (equal_same p3 a1 112 cap3 112 c1 xs _ HX3.out HX3.out hr3 (hr.below hb03)).mono ?_
      rintro e w4 ⟨rfl, rfl⟩
      go_wp2_with fail
      refine (encode_ok l p3 112 cap3 xs _ HX.out hr3 hcap3.1 hcap3.2 (HT.out.below hb03) HOK.out).mono ?_
      rintro e w5 ⟨v5, rfl, hown5, hb5⟩
      obtain ⟨p5, cap5, rfl, hr5, hx5, _, _⟩ := own_rd hown5
      have HX5 := Lib.hid hx5
      have hb05 : Below w.heap.size w _ := hb03.trans (hb5.mono hb03.size)
      clear hown5 hx5
      go_wp2_with fail
      refine (equal_same p1 p5 128 cap1 128 cap5 (encV l xs) _ HX1.out HX5.out (hr13.below hb5) hr5).mono ?_
      rintro e w6 ⟨rfl, rfl⟩
      go_wp2
      go_ret
      exact ⟨rfl, hb05⟩
    · exact absurd HD1.out hne
  · go_enter Tryd.func4, Tryd.ntmps4
    go_wp2_with fail
    refine (encode_bad lsn a1 n1 c1 _ h).mono ?_
    rintro e w1 ⟨rfl, rfl⟩
    go_wp2_with fail
    refine (refencode_bad lsn a1 n1 c1 _ h).mono ?_
    rintro e w2 ⟨rfl, rfl⟩
    go_wp2
    go_ret
    exact ⟨rfl, Below.refl _ _⟩
end Go.Proofs.YtefalhnllkkkhaaDoor
