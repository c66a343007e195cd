/- The walk of the law PageSectors. -/
import Derived.Test.YtefalhnllkkkhaaDoorPageTurned
import Derived.Test.YtefalhnllkkkhaaDoorRefDecode
namespace Go.Proofs.YtefalhnllkkkhaaDoor
open Go.RowKit
set_option linter.unusedVariables false

def encB (lsn : Int) (n : Nat) (xs : List UInt8) : List UInt8 := if 0 ≤ lsn ∧ lsn ≤ 4611686018427387904 ∧ n = 112 then encV lsn.toNat xs else []
def encE (lsn : Int) (n : Nat) : Int := if 0 ≤ lsn ∧ lsn ≤ 4611686018427387904 ∧ n = 112 then 0 else 1
def EncQ (lsn : Int) (n : Nat) (xs : List UInt8) (w w' : World) (e : Ending) : Prop :=
  ∃ p m c, e = .returned (.tuple #[.slice p m c, .int .i64 (encE lsn n)]) ∧ (encB lsn n xs).length = m ∧ Rd w' p (encB lsn n xs)
theorem eok_iff (lsn : Int) (n : Nat) : eok lsn n ↔ (0 ≤ lsn ∧ lsn ≤ 4611686018427387904 ∧ n = 112) := Iff.rfl

theorem encode_any (lsn : Int) (p : Option Addr) (n c : Nat) (xs : List UInt8) (w : World) (hx : xs.length = n) (hr : Rd w p xs) (hc : n ≤ c) (hm : c ≤ maxLen) (hT : Halves w) :
    Calls Tryd.prog 8 #[.int .i64 lsn, .slice p n c] w fun e w' => EncQ lsn n xs w w' e ∧ Below w.heap.size w w' := by
  by_cases h : eok lsn n
  · obtain ⟨l, rfl, hl, rfl⟩ := eok_nat h
    refine (encode_ok l p 112 c xs w hx hr hc hm hT h).mono ?_
    rintro e w' ⟨v', rfl, ho, hb⟩
    obtain ⟨p1, c1, rfl, hr1, hx1, _, _⟩ := own_rd ho
    have e1 : encB l 112 xs = encV l xs := by unfold encB; rw [if_pos ⟨by omega, by omega, rfl⟩]; rfl
    have e2 : encE l 112 = 0 := by unfold encE; rw [if_pos ⟨by omega, by omega, rfl⟩]
    exact ⟨⟨p1, 128, c1, by rw [e2], by rw [e1]; exact hx1, by rw [e1]; exact hr1⟩, hb⟩
  · refine (encode_bad lsn p n c w h).mono ?_
    rintro e w' ⟨rfl, rfl⟩
    have e1 : encB lsn n xs = [] := by unfold encB; exact if_neg h
    have e2 : encE lsn n = 1 := by unfold encE; exact if_neg h
    exact ⟨⟨none, 0, 0, by rw [e2], by rw [e1]; rfl, by rw [e1]; exact Rd.nil _ _⟩, Below.refl _ _⟩
theorem refencode_any (lsn : Int) (p : Option Addr) (n c : Nat) (xs : List UInt8) (w : World) (hx : xs.length = n) (hr : Rd w p xs) (hc : n ≤ c) (hm : c ≤ maxLen) :
    Calls Tryd.prog 9 #[.int .i64 lsn, .slice p n c] w fun e w' => EncQ lsn n xs w w' e ∧ Below w.heap.size w w' := by
  by_cases h : eok lsn n
  · obtain ⟨l, rfl, hl, rfl⟩ := eok_nat h
    refine (refencode_ok l p 112 c xs w hx hr hc hm h).mono ?_
    rintro e w' ⟨v', rfl, ho, hb⟩
    obtain ⟨p1, c1, rfl, hr1, hx1, _, _⟩ := own_rd ho
    have e1 : encB l 112 xs = encV l xs := by unfold encB; rw [if_pos ⟨by omega, by omega, rfl⟩]; rfl
    have e2 : encE l 112 = 0 := by unfold encE; rw [if_pos ⟨by omega, by omega, rfl⟩]
    exact ⟨⟨p1, 128, c1, by rw [e2], by rw [e1]; exact hx1, by rw [e1]; exact hr1⟩, hb⟩
  · refine (refencode_bad lsn p n c w h).mono ?_
    rintro e w' ⟨rfl, rfl⟩
    have e1 : encB lsn n xs = [] := by unfold encB; exact if_neg h
    have e2 : encE lsn n = 1 := by unfold encE; exact if_neg h
    exact ⟨⟨none, 0, 0, by rw [e2], by rw [e1]; rfl, by rw [e1]; exact Rd.nil _ _⟩, Below.refl _ _⟩

/-- What a Decode answers, both arms in one: the place, the bytes, the code. -/
noncomputable def decB (bs : List UInt8) : List UInt8 := if decE bs = 0 then decP bs else []
noncomputable def decN (bs : List UInt8) : Int := if decE bs = 0 then (decL bs : Int) else 0
def RowAt (w' : World) (base : Nat) (p : Option Addr) (m c : Nat) (ys : List UInt8) : Prop :=
  ys.length = m ∧ m ≤ 112 ∧ m ≤ c ∧ (0 < m → ∃ g cur, p = some ⟨g, 0, none⟩ ∧ base ≤ g ∧ w'.heap[g]? = some (.cells (B8s ys ++ cur).toArray 5 (0, 0)))
theorem RowAt.rd {w' : World} {base : Nat} {p : Option Addr} {m c : Nat} {ys : List UInt8} (h : RowAt w' base p m c ys) : Rd w' p ys := by
  obtain ⟨hx, _, _, h⟩ := h
  rcases Nat.eq_zero_or_pos m with hm | hm
  · obtain rfl : ys = [] := List.eq_nil_of_length_eq_zero (by omega)
    exact Rd.nil _ _
  · obtain ⟨g, cur, rfl, _, hh⟩ := h hm
    exact fun _ => ⟨g, 0, rfl, fun i v hv => by
      have hi : i < (B8s ys).length := (List.getElem?_eq_some_iff.1 hv).1
      simp only [World.cell?, hh, Nat.zero_add]
      simp [List.getElem?_append_left hi, hv]⟩
theorem RowAt.below {w w' : World} {base : Nat} {p : Option Addr} {m c : Nat} {ys : List UInt8} (h : RowAt w base p m c ys) (hb : Below w.heap.size w w') : RowAt w' base p m c ys := by
  obtain ⟨hx, h1, h2, h⟩ := h
  refine ⟨hx, h1, h2, fun hm => ?_⟩
  obtain ⟨g, cur, rfl, hg, hh⟩ := h hm
  exact ⟨g, cur, rfl, hg, by rw [hb.block g (Array.getElem?_eq_some_iff.1 hh).1]; exact hh⟩
theorem DecQ.all {bs : List UInt8} {w w' : World} {e : Ending} (h : DecQ bs w w' e) :
    ∃ p m c, e = .returned (.tuple #[.int .i64 (decN bs), .slice p m c, .int .i64 (decE bs)]) ∧ RowAt w' w.heap.size p m c (decB bs) := by
  rcases h with ⟨h0, v', rfl, ho⟩ | ⟨hne, rfl⟩
  · obtain ⟨g, cap, cur, rfl, hg, hh, hx, hc, hm⟩ := own8 ho (by omega)
    have e1 : decB bs = decP bs := by unfold decB; rw [if_pos h0]
    have e2 : decN bs = decL bs := by unfold decN; rw [if_pos h0]
    exact ⟨_, 112, cap, by rw [e2, h0]; rfl, by rw [e1]; exact hx, by omega, by omega, fun _ => ⟨g, cur, rfl, hg, by rw [e1]; exact hh⟩⟩
  · have e1 : decB bs = [] := by unfold decB; rw [if_neg hne]
    have e2 : decN bs = 0 := by unfold decN; rw [if_neg hne]
    exact ⟨none, 0, 0, by rw [e2], by rw [e1]; rfl, by omega, by omega, fun h => by omega⟩

theorem own_cap' {w : World} {base n cap : Nat} {p : Option Addr} {xs : List UInt8} (h : w.ownsRow base 5 1 (.slice p n cap) n (B8s xs)) : n ≤ cap ∧ cap ≤ maxLen := by
  rcases Nat.eq_zero_or_pos n with hn | hn
  · subst hn
    obtain ⟨hl, h | ⟨g, cap', cur, e, hb, hh, h1, h2, h3, h4⟩⟩ := h
    · obtain ⟨e, _⟩ := h
      cases e
      exact ⟨Nat.le_refl _, by decide⟩
    · cases e
      exact ⟨Nat.zero_le _, h2⟩
  · exact own_cap h hn
theorem xor255_ex (x : UInt8) : ∃ y : UInt8, bits .xor .u8 (x.toNat : Int) 255 = (y.toNat : Int) := by
  obtain ⟨y, hy, _⟩ := flip_ex x 255 (by omega) (by omega)
  exact ⟨y, hy⟩

set_option maxHeartbeats 2000000 in
set_option maxRecDepth 20000 in
theorem pageSectors_walk (lsn : Int) (a1 : Option Addr) (n1 c1 : Nat) (xs : List UInt8) (a2 : Option Addr) (n2 c2 : Nat) (ys : List UInt8) (w : World) (hT : Halves w)
    (hx : xs.length = n1) (hr : Rd w a1 xs) (hc : n1 ≤ c1) (hm : c1 ≤ maxLen) (hs : n1 ≤ 140737488351232)
    (hy : ys.length = n2) (hr2 : Rd w a2 ys) (hc2 : n2 ≤ c2) (hm2 : c2 ≤ maxLen) (hs2 : n2 ≤ 140737488351232) :
    Calls Tryd.prog 3 #[.int .i64 lsn, .slice a1 n1 c1, .slice a2 n2 c2] w fun e w' => e = .returned (.bool true) ∧ Below w.heap.size w w' := by
  have HX := Lib.hid hx
  have HY := Lib.hid hy
  have HM := Lib.hid hm
  have HM2 := Lib.hid hm2
  have HT := Lib.hid hT
  have HS1 := Lib.hid hs
  have HS2 := Lib.hid hs2
  clear hx hy hm hm2 hT hs hs2
  go_enter Tryd.func3, Tryd.ntmps3
  go_wp2_with fail
  refine (clone_any a1 n1 c1 xs _ HX.out (by have := HS1.out; omega) hr).mono ?_
  rintro e w1 ⟨v1, rfl, ho1, hb1⟩
  obtain ⟨g1, k1, rfl, hg1, _, _, _⟩ := own_rd ho1
  have hk1 := own_cap' ho1
  clear ho1
  have h2 := hr2.below hb1
  go_wp2_with fail
  refine (clone_any a2 n2 c2 ys _ HY.out (by have := HS2.out; omega) h2).mono ?_
  rintro e w2 ⟨v2, rfl, ho2, hb2⟩
  obtain ⟨g2, k2, rfl, hg2, _, _, hg2b⟩ := own_rd ho2
  have hk2 := own_cap' ho2
  have hb02 : Below w.heap.size w w2 := hb1.trans (hb2.mono hb1.size)
  have hg12 := hg1.below hb2
  clear ho2 h2 hg1 hb1 hb2
  go_wp2_with fail
  refine (encode_any lsn g1 n1 k1 xs _ HX.out hg12 hk1.1 hk1.2 (HT.out.below hb02)).mono ?_
  rintro e w3 ⟨⟨p3, m3, c3, rfl, hl3, hr3⟩, hb3⟩
  have hb03 : Below w.heap.size w w3 := hb02.trans (hb3.mono hb02.size)
  have hg13 := hg12.below hb3
  have hg23 := hg2.below hb3
  clear hg12 hg2 hb02 hb3
  go_wp2_with fail
  refine (refencode_any lsn a1 n1 c1 xs _ HX.out (hr.below hb03) hc HM.out).mono ?_
  rintro e w4 ⟨⟨p4, m4, c4, rfl, hl4, hr4⟩, hb4⟩
  have hb04 : Below w.heap.size w w4 := hb03.trans (hb4.mono hb03.size)
  have hg14 := hg13.below hb4
  have hg24 := hg23.below hb4
  have hr34 := hr3.below hb4
  clear hg13 hg23 hb03 hb4 hr3
  go_wp2_with fail
  refine (decode_any g2 n2 k2 ys _ HY.out hg24 hk2.1 hk2.2 (HT.out.below hb04)).mono ?_
  rintro e w5 ⟨hq5, hb5⟩
  obtain ⟨p5, m5, c5, rfl, hrow5⟩ := hq5.all
  have hb05 : Below w.heap.size w w5 := hb04.trans (hb5.mono hb04.size)
  clear hq5
  go_wp2_with fail
  refine (refdecode_any a2 n2 c2 ys _ HY.out (hr2.below hb05) hc2 HM2.out).mono ?_
  rintro e w6 ⟨hq6, hb6⟩
  obtain ⟨p6, m6, c6, rfl, hrow6⟩ := hq6.all
  have hrow56 := hrow5.below hb6
  have hb46 : Below w4.heap.size w4 w6 := hb5.trans (hb6.mono hb5.size)
  have hb06 : Below w.heap.size w w6 := hb04.trans (hb46.mono hb04.size)
  clear hq6 hrow5
  have E1 : (encE lsn n1 != encE lsn n1) = false := by simp
  have E2 : (decN ys != decN ys) = false := by simp
  have E3 : (decE ys != decE ys) = false := by simp
  have hr36 := hr34.below hb46
  have hr46 := hr4.below hb46
  have hl5 := hrow56.1
  have hr56 := hrow56.rd
  have hl6 := hrow6.1
  have hr66 := hrow6.rd
  obtain rfl : m3 = m4 := hl3.symm.trans hl4
  obtain rfl : m5 = m6 := hl5.symm.trans hl6
  clear hrow6 hr34 hr4
  have HL3 := Lib.hid hl3
  have HL5 := Lib.hid hl5
  clear hl3 hl4 hl5 hl6
  generalize hE : encE lsn n1 = E at *
  generalize hN : decN ys = N at *
  generalize hF : (decE ys : Int) = F at *
  clear hE hN hF
  go_wp2_with fail
  refine (equal_same p3 p4 m3 c3 m3 c4 (encB lsn n1 xs) _ HL3.out HL3.out hr36 hr46).mono ?_
  rintro e w7 ⟨rfl, rfl⟩
  go_wp2_with fail
  refine (equal_same p5 p6 m5 c5 m5 c6 (decB ys) _ HL5.out HL5.out hr56 hr66).mono ?_
  rintro e w7 ⟨rfl, rfl⟩
  go_wp2_with fail
  have hm5 : m5 ≤ 112 := hrow56.2.1
  have HR := Lib.hid hrow56.2.2.2
  have hg17 := hg14.below hb46
  have hg27 := hg24.below hb46
  have hmc5 : m5 ≤ c5 := hrow56.2.2.1
  have HG1 := Lib.hid hg14
  have HG2 := Lib.hid hg24
  have HB := Lib.hid hb06
  have HR1 := Lib.hid (hr.below hb04)
  have HR2 := Lib.hid (hr2.below hb04)
  have HB4 := Lib.hid hb04
  clear hr36 hr46 hr56 hr66 hrow56 hb6 hb5 hb05 hg14 hg24 hg17 hg27 hb06 hr hr2 hb04
  go_loopw [75] (fun i wr => ∃ k : Nat, k ≤ m5 ∧ i = .int .i64 k ∧ Below w4.heap.size w4 wr ∧ Hid (0 < m5 → ∃ zs g cur, p5 = some ⟨g, 0, none⟩ ∧ zs.length = m5 ∧ w4.heap.size ≤ g ∧ wr.heap[g]? = some (.cells (B8s zs ++ cur).toArray 5 (0, 0)))) (fun i _ => m5 - (intOf i).toNat)
  case atStart => exact ⟨0, Nat.zero_le _, rfl, hb46, Lib.hid fun hp => by
    obtain ⟨g, cur, e, hg, hh⟩ := HR.out hp
    exact ⟨decB ys, g, cur, e, HL5.out, hg, hh⟩⟩
  case round =>
    obtain ⟨k, hk, rfl, hb, HC⟩ := hrel
    by_cases hlt : k < m5
    · obtain ⟨zs, g, cur, rfl, hzl, hg, hh⟩ := HC.out (by omega)
      have hkz : k < zs.length := by omega
      have kI : wr.cell? ⟨g, k, none⟩ = some (.int .u8 ((zs[k]).toNat : Int)) := cell_of hh hkz
      have fI : wr.frozen? ⟨g, k, none⟩ = false := frozen_of hh
      obtain ⟨y, hy⟩ := xor255_ex zs[k]
      have hset := set_cells (y := y) hh hkz
      have HSET := Lib.hid hset
      have hbs : Below w4.heap.size w4 (wr.setCell ⟨g, k, none⟩ (B8 y)) := hb.setCell (p := ⟨g, k, none⟩) hg _
      have HZ := Lib.hid hzl
      clear hset hh HC hzl HR
      go_wp2
      go_roundw
      case rel => exact ⟨k + 1, by omega, by go_num, hbs, Lib.hid fun hp => ⟨zs.set k y, g, cur, rfl, by rw [List.length_set]; exact HZ.out, hg, HSET.out⟩⟩
      case measure => simp [intOf]; omega
    · obtain rfl : k = m5 := by omega
      clear HC HR
      go_wp2_with fail
      refine (equal_same g1 a1 n1 k1 n1 c1 xs _ HX.out HX.out (HG1.out.below hb) (HR1.out.below hb)).mono ?_
      rintro e w8 ⟨rfl, rfl⟩
      go_wp2_with fail
      refine (equal_same g2 a2 n2 k2 n2 c2 ys _ HY.out HY.out (HG2.out.below hb) (HR2.out.below hb)).mono ?_
      rintro e w8 ⟨rfl, rfl⟩
      go_wp2
      go_ret
      exact ⟨rfl, HB4.out.trans (hb.mono HB4.out.size)⟩
end Go.Proofs.YtefalhnllkkkhaaDoor
