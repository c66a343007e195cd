/- The document's Frame; who is a request's name. -/
import Derived.Test.YtefalhnllkkkhaaDoorFrame
import Derived.Test.YtefalhnllkkkhaaDoorDecode
namespace Go.Proofs.YtefalhnllkkkhaaDoor
open Go.RowKit
set_option linter.unusedVariables false

set_option maxHeartbeats 1000000 in
set_option maxRecDepth 20000 in
theorem refframe_any (p : Option Addr) (n c : Nat) (xs : List UInt8) (w : World) (hx : xs.length = n) (hr : Rd w p xs) (hm : n ≤ 140737488351232) :
    Calls Tryd.prog 57 #[.slice p n c] w fun e w' => FrameQ xs w w' e := by
  have HX := Lib.hid hx
  by_cases h : n ≤ 65536
  · have HQ : Hid (¬ 65536 < xs.length) := Lib.hid (by omega)
    have hd : decide (65536 < (n : Int)) = false := by simp; omega
    have H := Lib.hid h
    clear hx h hm
    go_enter Tryd.func57, Tryd.ntmps57
    go_wp2_with fail
    refine (refput_any none 0 0 [] n w rfl (by omega) (by have := H.out; omega) (Rd.nil _ _)).mono ?_
    rintro e w1 ⟨v1, rfl, hown, hb⟩
    have HO := Lib.hid hown
    have HR := Lib.hid (hr.below hb)
    have HR0 := Lib.hid hr
    have hL9 : (varN n).length ≤ 9 := varN_le9 (n := n) (by have := H.out; omega)
    have HL : Hid (([] ++ varN n).length + n ≤ 140737488355328) := Lib.hid (by have := H.out; simp; omega)
    have HL2 : Hid (([] ++ varN n).length + n + 4 ≤ 140737488355328) := Lib.hid (by have := H.out; simp; omega)
    obtain ⟨y1, hy1⟩ : ∃ y1, y1 = [] ++ varN n := ⟨_, rfl⟩
    rw [← hy1] at HO HL HL2
    have HY1 := Lib.hid hy1
    clear hown hr hL9 hy1
    go_wp2_with (at_builtin; refine wp_appx (w0 := w) (base := w.heap.size) (n := y1.length) (m := n) (c := c) rfl (.tmp 9) (.tmp 10) rfl _ y1 xs p rfl rfl HX.out HR.out HO.out hb hb.size HL.out ?_)
    intro v2 w2 hown2 hb2
    have HO2 := Lib.hid hown2
    have hr2 : Rd w2 p xs := HR0.out.below hb2
    clear hown2
    go_wp2_with fail
    refine (refsum_any p n c xs _ HX.out hr2 (by have := H.out; unfold maxLen; omega)).mono ?_
    rintro e w3 ⟨rfl, rfl⟩
    have HSl := Lib.hid (sumN_lt xs)
    obtain ⟨S, hS⟩ : ∃ S, S = sumN xs := ⟨_, rfl⟩
    rw [← hS] at HSl
    have HS := Lib.hid hS
    rw [← hS]
    clear hS
    go_wp2_with fail
    refine (four_any S _ HSl.out).mono ?_
    rintro e w4 ⟨v4, rfl, hown4, hb4⟩
    rw [leB_length] at hown4
    obtain ⟨p4, k4, rfl, hr4, hx4, _, _⟩ := own_rd hown4
    have HR4 := Lib.hid hr4
    have HX4 := Lib.hid hx4
    have HO4 := Lib.hid (own_later HO2.out hb4)
    have hb04 : Below w.heap.size w w4 := hb2.trans (hb4.mono hb2.size)
    clear hown4 hr4 hx4
    obtain ⟨y2, hy2⟩ : ∃ y2, y2 = y1 ++ xs := ⟨_, rfl⟩
    rw [← hy2] at HO4
    have HY2 := Lib.hid hy2
    clear hy2
    go_wp2_with (at_builtin; refine wp_appx (w0 := w) (base := w.heap.size) (n := y1.length + n) (m := 4) (c := k4) rfl (.tmp 11) (.tmp 14) rfl _ y2 (leB S 4) p4 rfl rfl HX4.out HR4.out HO4.out hb04 hb04.size HL2.out ?_)
    intro v5 w5 hown5 hb5
    obtain ⟨p5, k5, rfl, hr5, hx5, _, _⟩ := own_rd hown5
    have HR5 := Lib.hid hr5
    have HX5 := Lib.hid hx5
    have HE : Hid (y2 ++ leB S 4 = frameB xs) := Lib.hid (by rw [HY2.out, HY1.out, HS.out]; unfold frameB; rw [HX.out, List.nil_append])
    clear hown5 hr5 hx5
    go_wp2
    go_ret2
    exact ⟨p5, _, k5, by rw [if_neg HQ.out]; rfl, by rw [if_neg HQ.out, ← HE.out]; exact HX5.out, by rw [if_neg HQ.out, ← HE.out]; exact HR5.out, hb5⟩
  · have HQ : Hid (65536 < xs.length) := Lib.hid (by omega)
    have hd : decide (65536 < (n : Int)) = true := by simp; omega
    clear hx h hm
    go_enter Tryd.func57, Tryd.ntmps57
    go_wp2
    go_ret2
    exact ⟨none, 0, 0, by rw [if_pos HQ.out]; rfl, by rw [if_pos HQ.out]; rfl, by rw [if_pos HQ.out]; exact Rd.nil _ _, Below.refl _ _⟩
end Go.Proofs.YtefalhnllkkkhaaDoor
