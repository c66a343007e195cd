/- The walks of the laws PageWith and PageApart out of the contracts. -/
import Derived.Test.YtefalhnllkkkhaaPageApart
namespace Go.Proofs.Ytefalhnllkkkhaa
open Go.RowKit
set_option linter.unusedVariables false

theorem Parts.zero {xs ys : List UInt8} {a : Nat} (h : Parts xs ys a 0) : a = 0 ∧ xs = ys := by
  rcases h with ⟨rfl, _, h⟩ | ⟨h, _⟩
  · exact ⟨rfl, List.ext_getElem? h⟩
  · exact absurd h (Nat.lt_irrefl 0)

theorem Parts.pos {xs ys : List UInt8} {a b : Nat} (h : Parts xs ys a b) (hb : 0 < b) (hx : xs.length = 112) (hy : ys.length = 112) :
    a + b ≤ 112 ∧ xs[a]? ≠ ys[a]? ∧ xs[a + b - 1]? ≠ ys[a + b - 1]? ∧ xs.take a ++ (ys.drop a).take b ++ xs.drop (a + b) = ys := by
  rcases h with ⟨_, rfl, _⟩ | ⟨_, h1, h2, h3, h4⟩
  · exact absurd hb (Nat.lt_irrefl 0)
  · have hab : a + b ≤ 112 := by
      rcases Nat.lt_or_ge (a + b - 1) 112 with h | h
      · omega
      · exact absurd (by rw [List.getElem?_eq_none (by omega), List.getElem?_eq_none (by omega)]) h2
    refine ⟨hab, h1, h2, List.ext_getElem? fun i => ?_⟩
    rw [List.append_assoc]
    rcases Nat.lt_or_ge i a with h | h
    · rw [List.getElem?_append_left (by simp; omega), List.getElem?_take, if_pos h]
      exact h3 i h
    · rw [List.getElem?_append_right (by simp; omega)]
      have e : (xs.take a).length = a := by simp; omega
      rw [e]
      rcases Nat.lt_or_ge i (a + b) with h' | h'
      · rw [List.getElem?_append_left (by simp; omega), List.getElem?_take, if_pos (by omega), List.getElem?_drop]
        congr 1; omega
      · rw [List.getElem?_append_right (by simp; omega)]
        have e2 : ((ys.drop a).take b).length = b := by simp; omega
        rw [e2, List.getElem?_drop, show a + b + (i - a - b) = i from by omega]
        exact h4 i h'
theorem own_rd {w : World} {base : Nat} {v : Value} {n : Nat} {xs : List UInt8} (h : w.ownsRow base 5 1 v n (B8s xs)) :
    ∃ p c, v = .slice p n c ∧ Rd w p xs ∧ xs.length = n ∧ n ≤ maxLen ∧ (∀ b o s, p = some ⟨b, o, s⟩ → base ≤ b ∧ b < w.heap.size) := by
  rcases Nat.eq_zero_or_pos n with hn | hn
  · subst hn
    have hx : xs = [] := by
      have := h.1
      rw [B8s_length] at this
      exact List.eq_nil_of_length_eq_zero (by omega)
    subst hx
    rcases h.2 with ⟨rfl, _⟩ | ⟨g, cap, cur, rfl, hb, hh, _⟩
    · exact ⟨none, 0, rfl, Rd.nil _ _, rfl, Nat.zero_le _, fun b o s h => by cases h⟩
    · exact ⟨_, cap, rfl, Rd.nil _ _, rfl, Nat.zero_le _, fun b o s h => by cases h; exact ⟨hb, (Array.getElem?_eq_some_iff.1 hh).1⟩⟩
  · obtain ⟨g, cap, cur, rfl, hb, hh, hx, hc, hm⟩ := own8 h hn
    refine ⟨_, cap, rfl, fun _ => ⟨g, 0, rfl, fun i v hv => ?_⟩, hx, by omega, fun b o s h => by cases h; exact ⟨hb, (Array.getElem?_eq_some_iff.1 hh).1⟩⟩
    have hi : i < (B8s xs).length := (List.getElem?_eq_some_iff.1 hv).1
    simp only [World.cell?, hh, Nat.zero_add]
    simp [List.getElem?_append_left hi, hv]

set_option maxHeartbeats 1000000 in
theorem pageWith_walk (a0 : Option Addr) (n0 c0 : Nat) (xs0 : List UInt8) (off : Int) (a2 : Option Addr) (n2 c2 : Nat) (xs2 : List UInt8) (a3 : Option Addr) (n3 c3 : Nat) (xs3 : List UInt8) (w : World)
    (hx0 : xs0.length = n0) (hr0 : Rd w a0 xs0) (hc0 : n0 ≤ c0) (hm0 : c0 ≤ maxLen) (hz0 : n0 ≤ 140737488351232)
    (wf1 : (Lit.int .i64 off).wf = true)
    (hx2 : xs2.length = n2) (hr2 : Rd w a2 xs2) (hc2 : n2 ≤ c2) (hm2 : c2 ≤ maxLen) (hz2 : n2 ≤ 140737488351232)
    (hx3 : xs3.length = n3) (hr3 : Rd w a3 xs3) (hc3 : n3 ≤ c3) (hm3 : c3 ≤ maxLen) (hz3 : n3 ≤ 140737488351232) :
    Calls Try.prog 4 #[.slice a0 n0 c0, .int .i64 off, .slice a2 n2 c2, .slice a3 n3 c3] w fun e w' => e = .returned (.bool true) ∧ Below w.heap.size w w' := by
  have bl : ∀ n : Nat, n ≤ 140737488351232 → n ≤ maxLen := fun n h => by unfold maxLen; omega
  by_cases hok : wok n0 off n2
  · go_enter Try.func4, Try.ntmps4
    go_wp2_with fail
    refine (clone_any a0 n0 c0 xs0 _ hx0 (by omega) hr0).mono ?_
    rintro e w1 ⟨v', rfl, hown, hb1⟩
    obtain ⟨p1, cap1, rfl, hr1, _, _, _⟩ := own_rd hown
    go_wp2_with fail
    refine (with_ok p1 a2 n0 cap1 n2 c2 off xs0 xs2 _ hx0 hx2 hr1 (hr2.below hb1) hok).mono ?_
    rintro e w2 ⟨v2, rfl, hown2, hb2⟩
    obtain ⟨p2, cap2, rfl, hr2', hx2', _, _⟩ := own_rd hown2
    have hb02 : Below w.heap.size w w2 := hb1.trans (hb2.mono hb1.size)
    go_wp2_with fail
    refine (refwith_ok a0 a2 n0 c0 n2 c2 off xs0 xs2 _ hx0 hx2 (hr0.below hb02) (hr2.below hb02) hok).mono ?_
    rintro e w3 ⟨v3, rfl, hown3, hb3⟩
    obtain ⟨p3, cap3, rfl, hr3', hx3', _, _⟩ := own_rd hown3
    have hb03 : Below w.heap.size w w3 := hb02.trans (hb3.mono hb02.size)
    have hr13 : Rd w3 p1 xs0 := (hr1.below hb2).below hb3
    go_wp2_with fail
    refine (apart_any p1 a3 n0 cap1 n3 c3 xs0 xs3 _ hx0 hx3 hr13 (hr3.below hb03) (bl _ hz0) (bl _ hz3)).mono ?_
    rintro e w4 ⟨⟨a, b, rfl, hP⟩, hb4⟩
    have hb04 : Below w.heap.size w w4 := hb03.trans (hb4.mono hb03.size)
    go_wp2_with fail
    refine (refapart_any a0 a3 n0 c0 n3 c3 xs0 xs3 _ hx0 hx3 (hr0.below hb04) (hr3.below hb04) (bl _ hz0) (bl _ hz3)).mono ?_
    rintro e w5 ⟨⟨a', b', rfl, hP'⟩, rfl⟩
    obtain ⟨rfl, rfl⟩ := hP.unique hP'
    go_wp2_with fail
    refine (equal_any p2 p3 112 cap2 112 cap3 _ _ _ hx2' hx3' ((hr2'.below hb3).below hb4) (hr3'.below hb4)).mono ?_
    rintro e w6 ⟨rfl, rfl⟩
    rw [beq_self_eq_true]
    go_wp2_with fail
    refine (equal_any p1 a0 n0 cap1 n0 c0 _ _ _ hx0 hx0 (hr13.below hb4) (hr0.below hb04)).mono ?_
    rintro e w6 ⟨rfl, rfl⟩
    rw [beq_self_eq_true]
    go_wp2
    go_ret
    exact ⟨rfl, hb04⟩
  · go_enter Try.func4, Try.ntmps4
    go_wp2_with fail
    refine (clone_any a0 n0 c0 xs0 _ hx0 (by omega) hr0).mono ?_
    rintro e w1 ⟨v', rfl, hown, hb1⟩
    obtain ⟨p1, cap1, rfl, hr1, _, _, _⟩ := own_rd hown
    go_wp2_with fail
    refine (with_bad p1 a2 n0 cap1 n2 c2 off _ (by omega) hok).mono ?_
    rintro e w2 ⟨rfl, rfl⟩
    go_wp2_with fail
    refine (refwith_bad a0 a2 n0 c0 n2 c2 off _ (by omega) hok).mono ?_
    rintro e w3 ⟨rfl, rfl⟩
    go_wp2_with fail
    refine (apart_any p1 a3 n0 cap1 n3 c3 xs0 xs3 _ hx0 hx3 hr1 (hr3.below hb1) (bl _ hz0) (bl _ hz3)).mono ?_
    rintro e w4 ⟨⟨a, b, rfl, hP⟩, hb4⟩
    have hb04 : Below w.heap.size w w4 := hb1.trans (hb4.mono hb1.size)
    go_wp2_with fail
    refine (refapart_any a0 a3 n0 c0 n3 c3 xs0 xs3 _ hx0 hx3 (hr0.below hb04) (hr3.below hb04) (bl _ hz0) (bl _ hz3)).mono ?_
    rintro e w5 ⟨⟨a', b', rfl, hP'⟩, rfl⟩
    obtain ⟨rfl, rfl⟩ := hP.unique hP'
    go_wp2_with fail
    refine (equal_any none none 0 0 0 0 [] [] _ rfl rfl (Rd.nil _ _) (Rd.nil _ _)).mono ?_
    rintro e w6 ⟨rfl, rfl⟩
    go_wp2_with fail
    refine (equal_any p1 a0 n0 cap1 n0 c0 _ _ _ hx0 hx0 (hr1.below hb4) (hr0.below hb04)).mono ?_
    rintro e w6 ⟨rfl, rfl⟩
    rw [beq_self_eq_true]
    go_wp2
    go_ret
    exact ⟨rfl, hb04⟩
theorem Rd.sub {w : World} {b o : Nat} {xs : List UInt8} (h : Rd w (some ⟨b, o, none⟩) xs) (i n : Nat) : Rd w (some ⟨b, o + i, none⟩) ((xs.drop i).take n) := fun hne => by
  have hpos : 0 < xs.length := by
    rcases xs with _ | ⟨x, xs⟩
    · simp [B8s] at hne
    · simp
  obtain ⟨b', o', e, hc⟩ := h.at hpos
  cases e
  refine ⟨b, o + i, rfl, fun j v hv => ?_⟩
  have hj : j < n ∧ i + j < xs.length := by
    have := (List.getElem?_eq_some_iff.1 hv).1
    simp [B8s] at this
    omega
  have hcj := hc (i + j) hj.2
  rw [show o + i + j = o + (i + j) from by omega, hcj, ← hv]
  simp [B8s, hj.1, List.getElem?_drop, List.getElem?_eq_getElem hj.2]

theorem Rd.drewN {w : World} {p : Option Addr} {xs : List UInt8} (h : Rd w p xs) (n : Nat) : Rd (w.drewN n) p xs := fun hne => by
  obtain ⟨b, o, rfl, hc⟩ := h hne
  exact ⟨b, o, rfl, hc⟩

theorem drewN_below {B : Nat} {w w' : World} (h : Below B w w') (n : Nat) : Below B w (w'.drewN n) := ⟨h.os, h.tape, h.output, h.size, h.block⟩

theorem equal_same (p q : Option Addr) (n c m d : Nat) (xs : List UInt8) (w : World) (hx : xs.length = n) (hy : xs.length = m) (h1 : Rd w p xs) (h2 : Rd w q xs) :
    Calls Try.prog 13 #[.slice p n c, .slice q m d] w fun e w' => e = .returned (.bool true) ∧ w' = w :=
  (equal_any p q n c m d xs xs w hx hy h1 h2).mono fun e w' h => ⟨by rw [h.1, beq_self_eq_true], h.2.symm⟩

set_option maxHeartbeats 1000000 in
theorem pageApart_walk (a0 : Option Addr) (n0 c0 : Nat) (xs0 : List UInt8) (a1 : Option Addr) (n1 c1 : Nat) (xs1 : List UInt8) (w : World)
    (hx0 : xs0.length = n0) (hr0 : Rd w a0 xs0) (hc0 : n0 ≤ c0) (hm0 : c0 ≤ maxLen) (hz0 : n0 ≤ 140737488351232)
    (hx1 : xs1.length = n1) (hr1 : Rd w a1 xs1) (hc1 : n1 ≤ c1) (hm1 : c1 ≤ maxLen) (hz1 : n1 ≤ 140737488351232) :
    Calls Try.prog 5 #[.slice a0 n0 c0, .slice a1 n1 c1] w fun e w' => e = .returned (.bool true) ∧ Below w.heap.size w w' := by
  have bl : ∀ n : Nat, n ≤ 140737488351232 → n ≤ maxLen := fun n h => by unfold maxLen; omega
  by_cases h112 : n0 = 112 ∧ n1 = 112
  · obtain ⟨rfl, rfl⟩ := h112
    go_enter Try.func5, Try.ntmps5
    go_wp2_with fail
    refine (apart_any a0 a1 112 c0 112 c1 xs0 xs1 _ hx0 hx1 hr0 hr1 (bl _ hz0) (bl _ hz1)).mono ?_
    rintro e w1 ⟨⟨a, b, rfl, hP⟩, hb1⟩
    rcases Nat.eq_zero_or_pos b with hb | hb
    · subst hb
      obtain ⟨rfl, rfl⟩ := hP.zero
      go_wp2_with fail
      refine (equal_any a0 a1 112 c0 112 c1 _ _ _ hx0 hx0 (hr0.below hb1) (hr1.below hb1)).mono ?_
      rintro e w6 ⟨rfl, rfl⟩
      rw [beq_self_eq_true]
      go_wp2
      go_ret
      exact ⟨rfl, hb1⟩
    · obtain ⟨hab, hd1, hd2, heq⟩ := hP.pos hb hx0 hx1
      obtain ⟨b0, o0, rfl, hcell0⟩ := hr0.at (by omega)
      obtain ⟨b1, o1, rfl, hcell1⟩ := hr1.at (by omega)
      have hbz : ((b : Int) == 0) = false := by simp; omega
      have hx0' := Lib.hid hx0
      have hx1' := Lib.hid hx1
      have k0 := hcell0 a (by omega)
      have k1 := hcell1 a (by omega)
      have k2 := hcell0 (a + b - 1) (by omega)
      have k3 := hcell1 (a + b - 1) (by omega)
      have d1 : ((xs0[a]'(by omega)).toNat : Int) ≠ ((xs1[a]'(by omega)).toNat : Int) := fun h => hd1 (by rw [List.getElem?_eq_getElem (by omega), List.getElem?_eq_getElem (by omega), UInt8.toNat_inj.1 (Int.ofNat_inj.1 h)])
      have d2 : ((xs0[a + b - 1]'(by omega)).toNat : Int) ≠ ((xs1[a + b - 1]'(by omega)).toNat : Int) := fun h => hd2 (by rw [List.getElem?_eq_getElem (by omega), List.getElem?_eq_getElem (by omega), UInt8.toNat_inj.1 (Int.ofNat_inj.1 h)])
      unfold B8 at k0 k1 k2 k3
      generalize ((xs0[a]'(by omega)).toNat : Int) = u0 at *
      generalize ((xs1[a]'(by omega)).toNat : Int) = u1 at *
      generalize ((xs0[a + b - 1]'(by omega)).toNat : Int) = u2 at *
      generalize ((xs1[a + b - 1]'(by omega)).toNat : Int) = u3 at *
      have e01 : (u0 != u1) = true := by rw [bne_iff_ne]; exact d1
      have e23 : (u2 != u3) = true := by rw [bne_iff_ne]; exact d2
      have K0 := Lib.hid k0
      have K1 := Lib.hid k1
      have K2 := Lib.hid k2
      have K3 := Lib.hid k3
      clear hx0 hx1 hcell0 hcell1 hd1 hd2 d1 d2 k0 k1 k2 k3
      have hmb : 112 ≤ c1 := hc1
      have HE := Lib.hid heq
      clear heq
      have hsub := (hr1.below hb1).sub a b
      have hsl : ((xs1.drop a).take b).length = b := by simp; have := hx1'.out; omega
      have HS := Lib.hid hsl
      clear hsl
      go_wp2_with fail
      refine (with_ok (some ⟨b0, o0, none⟩) (some ⟨b1, o1 + a, none⟩) 112 c0 b (c1 - a) a xs0 _ _ hx0'.out HS.out (hr0.below hb1) hsub ⟨rfl, by omega, by omega, by omega⟩).mono ?_
      rintro e w2 ⟨v2, rfl, hown2, hb2⟩
      rw [HS.out, Int.toNat_natCast, HE.out] at hown2
      obtain ⟨p2, cap2, rfl, hr2', hx2', _, _⟩ := own_rd hown2
      have hb02 : Below w.heap.size w w2 := hb1.trans (hb2.mono hb1.size)
      have K0' : w2.cell? ⟨b0, o0 + a, none⟩ = some (.int .u8 u0) := (hb02.cell (cell_lt K0.out)).trans K0.out
      have K1' : w2.cell? ⟨b1, o1 + a, none⟩ = some (.int .u8 u1) := (hb02.cell (cell_lt K1.out)).trans K1.out
      have K2' : w2.cell? ⟨b0, o0 + (a + b - 1), none⟩ = some (.int .u8 u2) := (hb02.cell (cell_lt K2.out)).trans K2.out
      have K3' : w2.cell? ⟨b1, o1 + (a + b - 1), none⟩ = some (.int .u8 u3) := (hb02.cell (cell_lt K3.out)).trans K3.out
      have HX2 := Lib.hid hx2'
      clear hx2'
      have i1 : IntKind.i64.wrap ((a : Int) + b) = a + b := IntWalk.i64_in _ (by omega)
      have i2 : IntKind.i64.wrap ((a : Int) + b - 1) = a + b - 1 := IntWalk.i64_in _ (by omega)
      have i3 : (0 : Int) ≤ (a : Int) + b - 1 := by omega
      have i4 : (1 : Int) ≤ (a : Int) + b := by omega
      have i5 : (a : Int) + b - 1 < 112 := by omega
      have i6 : ((a : Int) + b - 1).toNat = a + b - 1 := by omega
      go_wp2_with fail
      go_quiet ((go_at_call 13; exact Calls.quiet_of_same (equal_same p2 (some ⟨b1, o1, none⟩) 112 cap2 112 c1 _ _ HX2.out hx1'.out (hr2'.drewN _) ((hr1.below hb02).drewN _))))
      go_wp2
      go_ret
      exact ⟨rfl, drewN_below hb02 _⟩
  · by_cases h0 : n0 = 112
    · have h1 : ¬ n1 = 112 := fun h => h112 ⟨h0, h⟩
      obtain rfl : n0 = 112 := h0
      clear h112
      have h1b : ((n1 : Int) != 112) = true := by rw [bne_iff_ne]; omega
      clear h1
      go_enter Try.func5, Try.ntmps5
      go_wp2_with fail
      refine (apart_any a0 a1 112 c0 n1 c1 xs0 xs1 _ hx0 hx1 hr0 hr1 (bl _ hz0) (bl _ hz1)).mono ?_
      rintro e w1 ⟨⟨a, b, rfl, hP⟩, hb1⟩
      go_wp2_with fail
      refine (refapart_any a0 a1 112 c0 n1 c1 xs0 xs1 _ hx0 hx1 (hr0.below hb1) (hr1.below hb1) (bl _ hz0) (bl _ hz1)).mono ?_
      rintro e w5 ⟨⟨a', b', rfl, hP'⟩, rfl⟩
      obtain ⟨rfl, rfl⟩ := hP.unique hP'
      go_wp2
      go_ret
      exact ⟨rfl, hb1⟩
    · clear h112
      have h0b : ((n0 : Int) != 112) = true := by rw [bne_iff_ne]; omega
      clear h0
      go_enter Try.func5, Try.ntmps5
      go_wp2_with fail
      refine (apart_any a0 a1 n0 c0 n1 c1 xs0 xs1 _ hx0 hx1 hr0 hr1 (bl _ hz0) (bl _ hz1)).mono ?_
      rintro e w1 ⟨⟨a, b, rfl, hP⟩, hb1⟩
      go_wp2_with fail
      refine (refapart_any a0 a1 n0 c0 n1 c1 xs0 xs1 _ hx0 hx1 (hr0.below hb1) (hr1.below hb1) (bl _ hz0) (bl _ hz1)).mono ?_
      rintro e w5 ⟨⟨a', b', rfl, hP'⟩, rfl⟩
      obtain ⟨rfl, rfl⟩ := hP.unique hP'
      go_wp2
      go_ret
      exact ⟨rfl, hb1⟩
end Go.Proofs.Ytefalhnllkkkhaa
