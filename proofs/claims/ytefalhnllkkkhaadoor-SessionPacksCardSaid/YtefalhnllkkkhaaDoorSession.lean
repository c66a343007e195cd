/- rostrumlaw20.SessionPacks: the walk. -/
import Derived.Test.YtefalhnllkkkhaaDoorRefPack
import Derived.Test.YtefalhnllkkkhaaDoorRefCache
import Derived.Test.YtefalhnllkkkhaaDoorRefRoot
import Derived.Deep.RegionHeld3
namespace Go.Proofs.YtefalhnllkkkhaaDoor
open Go.RowKit
set_option linter.unusedVariables false

def chV (K : ByteArray) (p : Option Addr) (n c : Nat) : Value := .agg #[.string K, .slice p n c, .bool false]
def chO (K : ByteArray) (p : Option Addr) (n c : Nat) : Obj := .cells #[.string K, .slice p n c, .bool false] 40
/-- A change in a box: its three cells. -/
def BoxCh (w : World) (g : Nat) (K : ByteArray) (p : Option Addr) (n c : Nat) : Prop :=
  w.cell? ⟨g, 0, none⟩ = some (.string K) ∧ w.cell? ⟨g, 1, none⟩ = some (.slice p n c) ∧ w.cell? ⟨g, 2, none⟩ = some (.bool false)
theorem BoxCh.below {w w' : World} {g : Nat} {K : ByteArray} {p : Option Addr} {n c : Nat} (h : BoxCh w g K p n c) (hb : Below w.heap.size w w') : BoxCh w' g K p n c :=
  ⟨kept hb h.1, kept hb h.2.1, kept hb h.2.2⟩
theorem BoxCh.new (w : World) (K : ByteArray) (p : Option Addr) (n c : Nat) : BoxCh (w.alloc (chO K p n c)) w.heap.size K p n c := ⟨cell_alloc rfl, cell_alloc rfl, cell_alloc rfl⟩

set_option maxHeartbeats 1000000 in
theorem one_any (K : ByteArray) (p : Option Addr) (n c : Nat) (xs : List UInt8) (w : World) (hx : xs.length = n) (hr : Rd w p xs) :
    Calls Tryd.prog 21 #[.agg #[.string K, .slice p n c, .bool false]] w fun e w' => ∃ g, e = .returned (.slice (some ⟨g, 0, none⟩) 1 1) ∧ ChsAt w' (.slice (some ⟨g, 0, none⟩) 1 1) [(K, xs)] ∧ Below w.heap.size w w' := by
  have HX := Lib.hid hx
  have hb1 : Below w.heap.size w ((w.alloc (chO K p n c)).alloc (chO K p n c)) := ((Below.refl _ w).alloc (Nat.le_refl _) _).alloc (by simp) _
  have HB1 := Lib.hid hb1
  have HR := Lib.hid (hr.below hb1)
  have HBX := Lib.hid (BoxCh.new (w.alloc (chO K p n c)) K p n c)
  unfold chO at HB1 HR HBX
  rw [World.size_alloc] at HBX
  clear hx hr hb1
  go_enter Tryd.func21, Tryd.ntmps21
  go_wp2
  go_ret
  refine ⟨_, rfl, ⟨_, 1, 1, rfl, rfl, Nat.le_refl _, by decide, fun _ => ⟨w.heap.size + 1, 0, rfl, fun i K' xs' hi => ?_⟩⟩, HB1.out⟩
  have hi0 : i = 0 := by have := (List.getElem?_eq_some_iff.1 hi).1; simp at this; omega
  subst hi0
  cases hi
  exact ⟨p, n, c, HX.out, HR.out, HBX.out.1, HBX.out.2.1, HBX.out.2.2⟩

theorem BoxCh.grow {w : World} {g : Nat} {K : ByteArray} {p : Option Addr} {n c : Nat} (h : BoxCh w g K p n c) (o : Obj) : BoxCh (w.alloc o) g K p n c := h.below ((Below.refl _ w).alloc (Nat.le_refl _) _)
def RBox (w : World) (g : Nat) (rid : ByteArray) (st se wh : Int) (text : ByteArray) : Prop :=
  w.cell? ⟨g, 0, none⟩ = some (.string rid) ∧ w.cell? ⟨g, 1, none⟩ = some (.int .i64 st) ∧ w.cell? ⟨g, 2, none⟩ = some (.int .i64 se) ∧ w.cell? ⟨g, 3, none⟩ = some (.int .i64 wh) ∧ w.cell? ⟨g, 4, none⟩ = some (.string text)
theorem RBox.below {w w' : World} {g : Nat} {rid text : ByteArray} {st se wh : Int} (h : RBox w g rid st se wh text) (hb : Below w.heap.size w w') : RBox w' g rid st se wh text :=
  ⟨kept hb h.1, kept hb h.2.1, kept hb h.2.2.1, kept hb h.2.2.2.1, kept hb h.2.2.2.2⟩
theorem RBox.new (w : World) (rid text : ByteArray) (st se wh : Int) : RBox (w.alloc (.cells #[.string rid, .int .i64 st, .int .i64 se, .int .i64 wh, .string text] 35)) w.heap.size rid st se wh text :=
  ⟨cell_alloc rfl, cell_alloc rfl, cell_alloc rfl, cell_alloc rfl, cell_alloc rfl⟩
theorem below_box {w w1 : World} (h : Below w.heap.size w w1) (o : Obj) : Below w.heap.size w (w1.alloc o) := h.alloc h.size _
theorem Blur.of_below {w w' : World} (h : Below w.heap.size w w') : Blur w w' := ⟨fun a v hv => ⟨v, kept h hv, .inl rfl⟩, fun a v hv => by
  have := h.block a.block (cell_lt hv)
  simp only [World.frozen?, this]⟩
theorem keepS {U w w' : World} {g4 : Nat} {K4 : ByteArray} {p4 : Option Addr} {n4 c4 : Nat} {g5 : Nat} {K5 : ByteArray} {p5 : Option Addr} {n5 c5 : Nat} {g6 : Nat} {K6 : ByteArray} {p6 : Option Addr} {n6 c6 : Nat} {g7 : Nat} {K7 : ByteArray} {p7 : Option Addr} {n7 c7 : Nat} {g8 : Nat} {K8 : ByteArray} {p8 : Option Addr} {n8 c8 : Nat} {g9 : Nat} {K9 : ByteArray} {p9 : Option Addr} {n9 c9 : Nat}
    (h : Hid (Below U.heap.size U w) ∧ w.cell? ⟨g4, 0, none⟩ = some (.string (K4)) ∧ w.cell? ⟨g4, 1, none⟩ = some (.slice p4 n4 c4) ∧ w.cell? ⟨g4, 2, none⟩ = some (.bool false) ∧ w.cell? ⟨g5, 0, none⟩ = some (.string (K5)) ∧ w.cell? ⟨g5, 1, none⟩ = some (.slice p5 n5 c5) ∧ w.cell? ⟨g5, 2, none⟩ = some (.bool false) ∧ w.cell? ⟨g6, 0, none⟩ = some (.string (K6)) ∧ w.cell? ⟨g6, 1, none⟩ = some (.slice p6 n6 c6) ∧ w.cell? ⟨g6, 2, none⟩ = some (.bool false) ∧ w.cell? ⟨g7, 0, none⟩ = some (.string (K7)) ∧ w.cell? ⟨g7, 1, none⟩ = some (.slice p7 n7 c7) ∧ w.cell? ⟨g7, 2, none⟩ = some (.bool false) ∧ w.cell? ⟨g8, 0, none⟩ = some (.string (K8)) ∧ w.cell? ⟨g8, 1, none⟩ = some (.slice p8 n8 c8) ∧ w.cell? ⟨g8, 2, none⟩ = some (.bool false) ∧ w.cell? ⟨g9, 0, none⟩ = some (.string (K9)) ∧ w.cell? ⟨g9, 1, none⟩ = some (.slice p9 n9 c9) ∧ w.cell? ⟨g9, 2, none⟩ = some (.bool false))
    (hb : Below w.heap.size w w') : Hid (Below U.heap.size U w') ∧ w'.cell? ⟨g4, 0, none⟩ = some (.string (K4)) ∧ w'.cell? ⟨g4, 1, none⟩ = some (.slice p4 n4 c4) ∧ w'.cell? ⟨g4, 2, none⟩ = some (.bool false) ∧ w'.cell? ⟨g5, 0, none⟩ = some (.string (K5)) ∧ w'.cell? ⟨g5, 1, none⟩ = some (.slice p5 n5 c5) ∧ w'.cell? ⟨g5, 2, none⟩ = some (.bool false) ∧ w'.cell? ⟨g6, 0, none⟩ = some (.string (K6)) ∧ w'.cell? ⟨g6, 1, none⟩ = some (.slice p6 n6 c6) ∧ w'.cell? ⟨g6, 2, none⟩ = some (.bool false) ∧ w'.cell? ⟨g7, 0, none⟩ = some (.string (K7)) ∧ w'.cell? ⟨g7, 1, none⟩ = some (.slice p7 n7 c7) ∧ w'.cell? ⟨g7, 2, none⟩ = some (.bool false) ∧ w'.cell? ⟨g8, 0, none⟩ = some (.string (K8)) ∧ w'.cell? ⟨g8, 1, none⟩ = some (.slice p8 n8 c8) ∧ w'.cell? ⟨g8, 2, none⟩ = some (.bool false) ∧ w'.cell? ⟨g9, 0, none⟩ = some (.string (K9)) ∧ w'.cell? ⟨g9, 1, none⟩ = some (.slice p9 n9 c9) ∧ w'.cell? ⟨g9, 2, none⟩ = some (.bool false) := by
  obtain ⟨h0, h1, h2, h3, h4, h5, h6, h7, h8, h9, h10, h11, h12, h13, h14, h15, h16, h17, h18⟩ := h
  exact ⟨Lib.hid (h0.out.trans (hb.mono h0.out.size)), kept hb h1, kept hb h2, kept hb h3, kept hb h4, kept hb h5, kept hb h6, kept hb h7, kept hb h8, kept hb h9, kept hb h10, kept hb h11, kept hb h12, kept hb h13, kept hb h14, kept hb h15, kept hb h16, kept hb h17, kept hb h18⟩
theorem Blur.keep {w w' : World} (h : Blur w w') {a : Addr} {v : Value} (hv : w.cell? a = some v) (hn : ∀ x, v ≠ B8 x) : w'.cell? a = some v := by
  obtain ⟨v', h', e⟩ := h.cell a v hv
  rcases e with rfl | ⟨x, y, e, -⟩
  · exact h'
  · exact absurd e (hn x)
theorem count_ch {n : Int} {w w' : World} {e : Ending} (h : ChQ (countK n) (countB n) (countE n) w w' e) : ∃ p m c, e = .returned (.tuple #[.agg #[.string (countK n), .slice p m c, .bool false], .int .i64 (countE n)]) ∧ (countB n).length = m ∧ Rd w' p (countB n) ∧ Below w.heap.size w w' := h

set_option maxHeartbeats 4000000 in
set_option maxRecDepth 20000 in
theorem sessionPacks_walk (a0 : Int) (a1 : Option Addr) (n1 c1 : Nat) (xs1 : List UInt8) (rid text : ByteArray) (st se wh : Int) (name : ByteArray) (W : World) (hT : Halves W) (hTe : Tens W) (hx1 : xs1.length = n1) (hr1 : Rd W a1 xs1) (hc1 : n1 ≤ c1) (hm1 : c1 ≤ maxLen) (hs1 : n1 ≤ 140737488351232)
    (hz1 : rid.size ≤ maxLen) (hz2 : text.size ≤ maxLen) (hz3 : name.size ≤ maxLen) :
    Calls Tryd.prog 6 #[.int .i64 a0, .slice a1 n1 c1, .agg #[.string rid, .int .i64 st, .int .i64 se, .int .i64 wh, .string text], .string name] W fun e W' => e = .returned (.bool true) ∧ Below W.heap.size W W' := by
  have HT := Lib.hid hT
  have HTe := Lib.hid hTe
  have HX := Lib.hid hx1
  have HR := Lib.hid hr1
  have HC := Lib.hid hc1
  have HM : Hid (c1 ≤ 9223372036854775807) := Lib.hid hm1
  have HS := Lib.hid hs1
  have HZ1 := Lib.hid hz1
  have HZ2 := Lib.hid hz2
  have HZ3 := Lib.hid hz3
  have HB0 := Lib.hid ((Below.refl _ W).alloc (Nat.le_refl _) (.cells #[.string rid, .int .i64 st, .int .i64 se, .int .i64 wh, .string text] 35))
  clear hT hTe hx1 hr1 hc1 hm1 hs1 hz1 hz2 hz3
  have RB := Lib.hid (RBox.new W rid text st se wh)
  go_enter Tryd.func6, Tryd.ntmps6
  go_wp2_with fail
  refine (clone_any a1 n1 c1 xs1 _ HX.out (by have := HS.out; omega) (HR.out.below HB0.out)).mono ?_
  rintro e w1 ⟨v1, rfl, hown1, hb1⟩
  obtain ⟨pg, cg, rfl, hgc, hgm⟩ := own_slice' hown1
  have HB1 := Lib.hid (chain2 HB0.out hb1)
  have RB1 := Lib.hid hb1
  have HG := Lib.hid hown1
  have HGC := Lib.hid hgc
  have HGM : Hid (cg ≤ 9223372036854775807) := Lib.hid hgm
  clear hown1 hb1 hgc hgm
  go_wp2_with fail
  have HRG := Lib.hid (own_rd HG.out)
  obtain ⟨pg', cg', e', hrg, -, -, -⟩ := HRG.out
  cases e'
  have HRG := Lib.hid hrg
  clear hrg
  refine (pack_any a0 pg n1 cg xs1 _ HX.out HRG.out HS.out HGC.out HGM.out (HTe.out.below HB1.out)).mono ?_
  rintro e w2 ⟨vx, rowsx, rfl, hpx, hlx, hb2⟩
  have HPX := Lib.hid hpx
  have HLX := Lib.hid hlx
  have HB2 := Lib.hid hb2
  obtain ⟨qx, nx, cx, rfl, hnx⟩ : ∃ q n c, vx = .slice q n c ∧ rowsx.length = n := by
    obtain ⟨q, n, c, e, h, -⟩ := hpx.chs
    exact ⟨q, n, c, e, by rw [← h, List.length_map]⟩
  have HNX := Lib.hid hnx
  clear hpx hlx hb2 hnx
  go_wp2_with fail
  refine (refpack_any a0 a1 n1 c1 xs1 _ HX.out (HR.out.below (chain2 HB1.out HB2.out)) HS.out HC.out HM.out).mono ?_
  rintro e w3 ⟨vy, rowsy, rfl, hpy, hly, hb3⟩
  have HPY := Lib.hid hpy
  have HLY := Lib.hid hly
  have HB3 := Lib.hid (chain2 HB2.out hb3)
  have HPX3 := Lib.hid (HPX.out.later hb3)
  clear hpy hly hb3 HPX
  go_wp2_with fail
  refine (count_any a0 _).mono ?_
  rintro e w4 hq4
  obtain ⟨p4, n4, c4, rfl, hl4, hr4, hb4⟩ := hq4
  go_wp2_with fail
  obtain ⟨g4, hg4⟩ : ∃ g, g = w4.heap.size := ⟨_, rfl⟩
  obtain ⟨U4, hU4⟩ : ∃ U, U = w4.alloc (.cells #[.string (countK a0), .slice p4 n4 c4, .bool false] 40) := ⟨_, rfl⟩
  have X4 : Hid (BoxCh U4 g4 (countK a0) p4 n4 c4) := Lib.hid (by rw [hU4, hg4]; exact BoxCh.new _ _ _ _ _)
  have L4 : Hid (Below w3.heap.size w3 U4) := Lib.hid (by rw [hU4]; exact below_box hb4 _)
  have A4 := Lib.hid hl4
  have R4 : Hid (Rd U4 p4 (countB a0)) := Lib.hid (by rw [hU4]; exact hr4.below ((Below.refl _ _).alloc (Nat.le_refl _) _))
  rw [← hU4, ← hg4]
  clear hU4 hg4 hl4 hr4 hb4
  refine (refcount_any a0 _).mono ?_
  rintro e w5 hq5
  obtain ⟨p5, n5, c5, rfl, hl5, hr5, hb5⟩ := hq5
  have HB1r := RB1.out
  obtain ⟨r0, r1, r2, r3, r4⟩ := RB.out.below (HB1r.trans ((chain2 (chain2 HB3.out L4.out) hb5).mono HB1r.size))
  have hltr := cell_lt r0
  clear HB1r
  go_wp2_with fail
  obtain ⟨g5, hg5⟩ : ∃ g, g = w5.heap.size := ⟨_, rfl⟩
  obtain ⟨U5, hU5⟩ : ∃ U, U = w5.alloc (.cells #[.string (countK a0), .slice p5 n5 c5, .bool false] 40) := ⟨_, rfl⟩
  have X5 : Hid (BoxCh U5 g5 (countK a0) p5 n5 c5) := Lib.hid (by rw [hU5, hg5]; exact BoxCh.new _ _ _ _ _)
  have L5 : Hid (Below U4.heap.size U4 U5) := Lib.hid (by rw [hU5]; exact below_box hb5 _)
  have A5 := Lib.hid hl5
  have R5 : Hid (Rd U5 p5 (countB a0)) := Lib.hid (by rw [hU5]; exact hr5.below ((Below.refl _ _).alloc (Nat.le_refl _) _))
  rw [← hU5, ← hg5]
  clear r0 r1 r2 r3 r4 hltr
  clear hU5 hg5 hl5 hr5 hb5
  refine (cache_any rid text st se wh _ HZ1.out HZ2.out (HT.out.below (HB1.out.trans ((chain2 (chain2 HB3.out L4.out) L5.out).mono HB1.out.size)))).mono ?_
  rintro e w6 hq6
  obtain ⟨p6, n6, c6, rfl, hl6, hr6, hb6⟩ := hq6
  have HB1r := RB1.out
  obtain ⟨r0, r1, r2, r3, r4⟩ := RB.out.below (HB1r.trans ((chain2 (chain2 (chain2 HB3.out L4.out) L5.out) hb6).mono HB1r.size))
  have hltr := cell_lt r0
  clear HB1r
  go_wp2_with fail
  obtain ⟨g6, hg6⟩ : ∃ g, g = w6.heap.size := ⟨_, rfl⟩
  obtain ⟨U6, hU6⟩ : ∃ U, U = w6.alloc (.cells #[.string (cacheK rid text st se wh), .slice p6 n6 c6, .bool false] 40) := ⟨_, rfl⟩
  have X6 : Hid (BoxCh U6 g6 (cacheK rid text st se wh) p6 n6 c6) := Lib.hid (by rw [hU6, hg6]; exact BoxCh.new _ _ _ _ _)
  have L6 : Hid (Below U5.heap.size U5 U6) := Lib.hid (by rw [hU6]; exact below_box hb6 _)
  have A6 := Lib.hid hl6
  have R6 : Hid (Rd U6 p6 (cacheB rid text st se wh)) := Lib.hid (by rw [hU6]; exact hr6.below ((Below.refl _ _).alloc (Nat.le_refl _) _))
  rw [← hU6, ← hg6]
  clear r0 r1 r2 r3 r4 hltr
  clear hU6 hg6 hl6 hr6 hb6
  refine (refcache_any rid text st se wh _ HZ1.out HZ2.out).mono ?_
  rintro e w7 hq7
  obtain ⟨p7, n7, c7, rfl, hl7, hr7, hb7⟩ := hq7
  go_wp2_with fail
  obtain ⟨g7, hg7⟩ : ∃ g, g = w7.heap.size := ⟨_, rfl⟩
  obtain ⟨U7, hU7⟩ : ∃ U, U = w7.alloc (.cells #[.string (cacheK rid text st se wh), .slice p7 n7 c7, .bool false] 40) := ⟨_, rfl⟩
  have X7 : Hid (BoxCh U7 g7 (cacheK rid text st se wh) p7 n7 c7) := Lib.hid (by rw [hU7, hg7]; exact BoxCh.new _ _ _ _ _)
  have L7 : Hid (Below U6.heap.size U6 U7) := Lib.hid (by rw [hU7]; exact below_box hb7 _)
  have A7 := Lib.hid hl7
  have R7 : Hid (Rd U7 p7 (cacheB rid text st se wh)) := Lib.hid (by rw [hU7]; exact hr7.below ((Below.refl _ _).alloc (Nat.le_refl _) _))
  rw [← hU7, ← hg7]
  clear hU7 hg7 hl7 hr7 hb7
  refine (root_any name pg n1 cg xs1 _ HZ3.out HX.out (HRG.out.below (chain2 (chain2 (chain2 (chain2 HB3.out L4.out) L5.out) L6.out) L7.out)) HGC.out HGM.out).mono ?_
  rintro e w8 hq8
  obtain ⟨p8, n8, c8, rfl, hl8, ho8, hb8⟩ := hq8
  have hr8 : Rd w8 p8 (rootB name n1 xs1) := by obtain ⟨p', c', e', hr', -⟩ := own_rd ho8; cases e'; exact hr'
  have hbr8 := own_byteRow (own_mono ho8 (base' := w1.heap.size) ((chain2 (chain2 (chain2 (chain2 HB3.out L4.out) L5.out) L6.out) L7.out).size))
  go_wp2_with fail
  obtain ⟨g8, hg8⟩ : ∃ g, g = w8.heap.size := ⟨_, rfl⟩
  obtain ⟨U8, hU8⟩ : ∃ U, U = w8.alloc (.cells #[.string (rootK name n1), .slice p8 n8 c8, .bool false] 40) := ⟨_, rfl⟩
  have X8 : Hid (BoxCh U8 g8 (rootK name n1) p8 n8 c8) := Lib.hid (by rw [hU8, hg8]; exact BoxCh.new _ _ _ _ _)
  have L8 : Hid (Below U7.heap.size U7 U8) := Lib.hid (by rw [hU8]; exact below_box hb8 _)
  have A8 := Lib.hid hl8
  have R8 : Hid (Rd U8 p8 (rootB name n1 xs1)) := Lib.hid (by rw [hU8]; exact hr8.below ((Below.refl _ _).alloc (Nat.le_refl _) _))
  have BR8 : Hid (ByteRow U8 w1.heap.size p8 n8) := Lib.hid (by rw [hU8]; exact hbr8.blur (Blur.of_below ((Below.refl _ _).alloc (Nat.le_refl _) _)))
  have N8 : Hid (n8 ≤ 9223372036854775807) := Lib.hid (own_rd ho8).choose_spec.choose_spec.2.2.2.1
  clear hbr8 ho8
  rw [← hU8, ← hg8]
  clear hU8 hg8 hl8 hr8 hb8
  refine (refroot_any name a1 n1 c1 xs1 _ HZ3.out HX.out (HR.out.below (HB1.out.trans ((chain2 (chain2 (chain2 (chain2 (chain2 HB3.out L4.out) L5.out) L6.out) L7.out) L8.out).mono HB1.out.size))) HC.out HM.out).mono ?_
  rintro e w9 hq9
  obtain ⟨p9, n9, c9, rfl, hl9, hr9, hb9⟩ := hq9.ch
  go_wp2_with fail
  obtain ⟨g9, hg9⟩ : ∃ g, g = w9.heap.size := ⟨_, rfl⟩
  obtain ⟨U9, hU9⟩ : ∃ U, U = w9.alloc (.cells #[.string (rootK name n1), .slice p9 n9 c9, .bool false] 40) := ⟨_, rfl⟩
  have X9 : Hid (BoxCh U9 g9 (rootK name n1) p9 n9 c9) := Lib.hid (by rw [hU9, hg9]; exact BoxCh.new _ _ _ _ _)
  have L9 : Hid (Below U8.heap.size U8 U9) := Lib.hid (by rw [hU9]; exact below_box hb9 _)
  have A9 := Lib.hid hl9
  have R9 : Hid (Rd U9 p9 (rootB name n1 xs1)) := Lib.hid (by rw [hU9]; exact hr9.below ((Below.refl _ _).alloc (Nat.le_refl _) _))
  rw [← hU9, ← hg9]
  clear hU9 hg9 hl9 hr9 hb9
  have D9 : Hid (Below U9.heap.size U9 U9) := Lib.hid (Below.refl _ _)
  have D8 : Hid (Below U8.heap.size U8 U9) := Lib.hid (chain2 L9.out D9.out)
  have D7 : Hid (Below U7.heap.size U7 U9) := Lib.hid (chain2 L8.out D8.out)
  have D6 : Hid (Below U6.heap.size U6 U9) := Lib.hid (chain2 L7.out D7.out)
  have D5 : Hid (Below U5.heap.size U5 U9) := Lib.hid (chain2 L6.out D6.out)
  have D4 : Hid (Below U4.heap.size U4 U9) := Lib.hid (chain2 L5.out D5.out)
  have D3 : Hid (Below w3.heap.size w3 U9) := Lib.hid (chain2 L4.out D4.out)
  have Z4 := Lib.hid (R4.out.below D4.out)
  have Z5 := Lib.hid (R5.out.below D5.out)
  have Z6 := Lib.hid (R6.out.below D6.out)
  have Z7 := Lib.hid (R7.out.below D7.out)
  have Z8 := Lib.hid (R8.out.below D8.out)
  have Z9 := Lib.hid (R9.out.below D9.out)
  have PX := Lib.hid (HPX3.out.later D3.out)
  have CX : Hid (ChsAt U9 (.slice qx nx cx) (packL a0 xs1)) := Lib.hid (by rw [← HLX.out]; exact PX.out.chs)
  have CY : Hid (ChsAt U9 vy (packL a0 xs1)) := Lib.hid (by rw [← HLY.out]; exact (HPY.out.later D3.out).chs)
  have S0 : Hid (Hid (Below U9.heap.size U9 U9.drew) ∧ U9.drew.cell? ⟨g4, 0, none⟩ = some (.string (countK a0)) ∧ U9.drew.cell? ⟨g4, 1, none⟩ = some (.slice p4 n4 c4) ∧ U9.drew.cell? ⟨g4, 2, none⟩ = some (.bool false) ∧ U9.drew.cell? ⟨g5, 0, none⟩ = some (.string (countK a0)) ∧ U9.drew.cell? ⟨g5, 1, none⟩ = some (.slice p5 n5 c5) ∧ U9.drew.cell? ⟨g5, 2, none⟩ = some (.bool false) ∧ U9.drew.cell? ⟨g6, 0, none⟩ = some (.string (cacheK rid text st se wh)) ∧ U9.drew.cell? ⟨g6, 1, none⟩ = some (.slice p6 n6 c6) ∧ U9.drew.cell? ⟨g6, 2, none⟩ = some (.bool false) ∧ U9.drew.cell? ⟨g7, 0, none⟩ = some (.string (cacheK rid text st se wh)) ∧ U9.drew.cell? ⟨g7, 1, none⟩ = some (.slice p7 n7 c7) ∧ U9.drew.cell? ⟨g7, 2, none⟩ = some (.bool false) ∧ U9.drew.cell? ⟨g8, 0, none⟩ = some (.string (rootK name n1)) ∧ U9.drew.cell? ⟨g8, 1, none⟩ = some (.slice p8 n8 c8) ∧ U9.drew.cell? ⟨g8, 2, none⟩ = some (.bool false) ∧ U9.drew.cell? ⟨g9, 0, none⟩ = some (.string (rootK name n1)) ∧ U9.drew.cell? ⟨g9, 1, none⟩ = some (.slice p9 n9 c9) ∧ U9.drew.cell? ⟨g9, 2, none⟩ = some (.bool false)) := Lib.hid ⟨Lib.hid (Below.refl _ _).drew, (X4.out.below D4.out).1, (X4.out.below D4.out).2.1, (X4.out.below D4.out).2.2, (X5.out.below D5.out).1, (X5.out.below D5.out).2.1, (X5.out.below D5.out).2.2, (X6.out.below D6.out).1, (X6.out.below D6.out).2.1, (X6.out.below D6.out).2.2, (X7.out.below D7.out).1, (X7.out.below D7.out).2.1, (X7.out.below D7.out).2.2, (X8.out.below D8.out).1, (X8.out.below D8.out).2.1, (X8.out.below D8.out).2.2, (X9.out.below D9.out).1, (X9.out.below D9.out).2.1, (X9.out.below D9.out).2.2⟩
  go_upto_region 11 with fail
  go_cut [27] (fun v wx => v = .bool true ∧ Hid (Below U9.heap.size U9 wx))
  case first =>
    go_region_held3 (fun w' => Hid (Below U9.heap.size U9 w') ∧ w'.cell? ⟨g4, 0, none⟩ = some (.string (countK a0)) ∧ w'.cell? ⟨g4, 1, none⟩ = some (.slice p4 n4 c4) ∧ w'.cell? ⟨g4, 2, none⟩ = some (.bool false) ∧ w'.cell? ⟨g5, 0, none⟩ = some (.string (countK a0)) ∧ w'.cell? ⟨g5, 1, none⟩ = some (.slice p5 n5 c5) ∧ w'.cell? ⟨g5, 2, none⟩ = some (.bool false) ∧ w'.cell? ⟨g6, 0, none⟩ = some (.string (cacheK rid text st se wh)) ∧ w'.cell? ⟨g6, 1, none⟩ = some (.slice p6 n6 c6) ∧ w'.cell? ⟨g6, 2, none⟩ = some (.bool false) ∧ w'.cell? ⟨g7, 0, none⟩ = some (.string (cacheK rid text st se wh)) ∧ w'.cell? ⟨g7, 1, none⟩ = some (.slice p7 n7 c7) ∧ w'.cell? ⟨g7, 2, none⟩ = some (.bool false) ∧ w'.cell? ⟨g8, 0, none⟩ = some (.string (rootK name n1)) ∧ w'.cell? ⟨g8, 1, none⟩ = some (.slice p8 n8 c8) ∧ w'.cell? ⟨g8, 2, none⟩ = some (.bool false) ∧ w'.cell? ⟨g9, 0, none⟩ = some (.string (rootK name n1)) ∧ w'.cell? ⟨g9, 1, none⟩ = some (.slice p9 n9 c9) ∧ w'.cell? ⟨g9, 2, none⟩ = some (.bool false)) (first | exact S0.out | exact keepS (by assumption) hbA | exact keepS (by assumption) hbB | exact keepS (by assumption) hbC | exact keepS (by assumption) hbD | exact keepS (by assumption) hbE | exact keepS (by assumption) hbF | exact keepS (by assumption) hbS | exact keepS (by assumption) hbT | exact keepS (by assumption) hbU | exact keepS (by assumption) hbV) (first | (go_at_call 21; refine (one_any (countK a0) p4 n4 c4 (countB a0) _ A4.out ?_).mono ?_; exact Z4.out.below (And.left (by assumption : Hid (Below U9.heap.size U9 _) ∧ _)).out; rintro e wA ⟨gA, rfl, hcA, hbA⟩) | (go_at_call 21; refine (one_any (countK a0) p5 n5 c5 (countB a0) _ A5.out ?_).mono ?_; exact Z5.out.below (And.left (by assumption : Hid (Below U9.heap.size U9 _) ∧ _)).out; rintro e wB ⟨gB, rfl, hcB, hbB⟩) | (go_at_call 21; refine (one_any (cacheK rid text st se wh) p6 n6 c6 (cacheB rid text st se wh) _ A6.out ?_).mono ?_; exact Z6.out.below (And.left (by assumption : Hid (Below U9.heap.size U9 _) ∧ _)).out; rintro e wC ⟨gC, rfl, hcC, hbC⟩) | (go_at_call 21; refine (one_any (cacheK rid text st se wh) p7 n7 c7 (cacheB rid text st se wh) _ A7.out ?_).mono ?_; exact Z7.out.below (And.left (by assumption : Hid (Below U9.heap.size U9 _) ∧ _)).out; rintro e wD ⟨gD, rfl, hcD, hbD⟩) | (go_at_call 21; refine (one_any (rootK name n1) p8 n8 c8 (rootB name n1 xs1) _ A8.out ?_).mono ?_; exact Z8.out.below (And.left (by assumption : Hid (Below U9.heap.size U9 _) ∧ _)).out; rintro e wE ⟨gE, rfl, hcE, hbE⟩) | (go_at_call 21; refine (one_any (rootK name n1) p9 n9 c9 (rootB name n1 xs1) _ A9.out ?_).mono ?_; exact Z9.out.below (And.left (by assumption : Hid (Below U9.heap.size U9 _) ∧ _)).out; rintro e wF ⟨gF, rfl, hcF, hbF⟩) | (go_at_call 22; refine (sameChanges_any _ _ (packL a0 xs1) _ ?_ ?_).mono ?_; exact CX.out.below (And.left (by assumption : Hid (Below U9.heap.size U9 _) ∧ _)).out; exact CY.out.below (And.left (by assumption : Hid (Below U9.heap.size U9 _) ∧ _)).out; rintro e wS ⟨rfl, hbS⟩) | (go_at_call 22; refine (sameChanges_any _ _ [(countK a0, countB a0)] _ ?_ ?_).mono ?_; (first | exact hcA | exact hcA.below hbB); (first | exact hcB | exact hcB.below hbA); rintro e wT ⟨rfl, hbT⟩) | (go_at_call 22; refine (sameChanges_any _ _ [(cacheK rid text st se wh, cacheB rid text st se wh)] _ ?_ ?_).mono ?_; (first | exact hcC | exact hcC.below hbD); (first | exact hcD | exact hcD.below hbC); rintro e wU ⟨rfl, hbU⟩) | (go_at_call 22; refine (sameChanges_any _ _ [(rootK name n1, rootB name n1 xs1)] _ ?_ ?_).mono ?_; (first | exact hcE | exact hcE.below hbF); (first | exact hcF | exact hcF.below hbE); rintro e wV ⟨rfl, hbV⟩))
    all_goals go_wp2_with fail
    all_goals go_meet
    all_goals exact ⟨rfl, And.left (by assumption : Hid (Below U9.heap.size U9 _) ∧ _)⟩
  case rest =>
  obtain ⟨rfl, HBX⟩ := hcut
  obtain ⟨W5, hW5⟩ : ∃ W5, W5 = wc := ⟨_, rfl⟩
  subst hW5
  have HW1 : Hid (Below w1.heap.size w1 W5) := Lib.hid (HB3.out.trans ((chain2 D3.out HBX.out).mono HB3.out.size))
  have PX5 := Lib.hid (PX.out.later HBX.out)
  have X85 := Lib.hid (X8.out.below (chain2 D8.out HBX.out))
  have BR85 := Lib.hid (BR8.out.blur (Blur.of_below (chain2 D8.out HBX.out)))
  have HNB : Hid (nx ≤ 9223372036854775807) := Lib.hid (by
    obtain ⟨q, n, c, e, -, h2, h3, -⟩ := PX.out.chs
    cases e
    exact Nat.le_trans h2 h3)
  clear HB0 RB RB1 HG HB2 HLX HLY HPY HPX3 X4 L4 A4 R4 X5 L5 A5 R5 X6 L6 A6 R6 X7 L7 A7 R7 X8 L8 A8 R8 BR8 X9 L9 A9 R9 D9 D8 D7 D6 D5 D4 D3 Z4 Z5 Z6 Z7 Z8 Z9 PX CX CY S0 HBX
  go_wp2_with fail
  go_loopw [128] (fun i wr => ∃ k : Nat, k ≤ nx ∧ i = .int .i64 k ∧ Hid (Below w1.heap.size w1 wr) ∧ Hid (Blur W5 wr)) (fun i _ => nx - (intOf i).toNat)
  case atStart => exact ⟨0, Nat.zero_le _, rfl, HW1, Lib.hid (Blur.refl _)⟩
  case round =>
    obtain ⟨k, hk, rfl, HB, HL⟩ := hrel
    by_cases hlt : k < nx
    · obtain ⟨g, c, K, q, m, d, xs, e, hle, k0, k1, k2, hm, ho⟩ := PX5.out.at k (by rw [HNX.out]; exact hlt)
      have e2 := HNX.out
      rw [e2] at e hle
      cases e
      have j0 := HL.out.keep k0 (fun x h => by cases h)
      have j1 := HL.out.keep k1 (fun x h => by cases h)
      have j2 := HL.out.keep k2 (fun x h => by cases h)
      have hltg := cell_lt j0
      have HBR := Lib.hid (((own_byteRow ho).blur HL.out).blur (Blur.of_below ((Below.refl _ wr).alloc (Nat.le_refl _) (.cells #[.string K, .slice q m d, .bool false] 40))))
      have HM2 : Hid (m ≤ 9223372036854775807) := Lib.hid hm
      have HA := Lib.hid ((Below.refl _ wr).alloc (Nat.le_refl _) (.cells #[.string K, .slice q m d, .bool false] 40))
      clear k0 k1 k2 hm ho hle e2
      go_wp2_with fail
      refine (spoil_any q m d w1.heap.size _ HM2.out HBR.out).mono ?_
      rintro e w2 ⟨⟨v, rfl⟩, hb2, hl2⟩
      have HB2 := Lib.hid ((HB.out.trans (HA.out.mono HB.out.size)).trans hb2)
      have HL2 := Lib.hid ((HL.out.trans (Blur.of_below HA.out)).trans hl2)
      clear hb2 hl2
      go_wp2_with fail
      go_roundw
      case rel => exact ⟨k + 1, by omega, by rw [wrapS hlt HNB.out], HB2, HL2⟩
      case measure => rw [wrapS hlt HNB.out]; simp [intOf]; omega
    · obtain rfl : k = nx := by omega
      have j1 := HL.out.keep X85.out.2.1 (fun x h => by cases h)
      have HBR := Lib.hid (BR85.out.blur HL.out)
      go_wp2_with fail
      refine (spoil_any p8 n8 c8 w1.heap.size _ N8.out HBR.out).mono ?_
      rintro e w2 ⟨⟨v, rfl⟩, hb2, hl2⟩
      have HB2 := Lib.hid (HB.out.trans hb2)
      have RG := Lib.hid (HRG.out.below HB2.out)
      have RA := Lib.hid (HR.out.below (HB1.out.trans (HB2.out.mono HB1.out.size)))
      clear hb2 hl2
      go_wp2_with fail
      refine (equal_same pg a1 n1 cg n1 c1 xs1 _ HX.out HX.out RG.out RA.out).mono ?_
      rintro e w3 ⟨rfl, rfl⟩
      go_wp2_with fail
      go_ret
      exact ⟨rfl, HB1.out.trans (HB2.out.mono HB1.out.size)⟩
end Go.Proofs.YtefalhnllkkkhaaDoor
