/- Lists of changes: what they hold, and rostrumplain.SameChanges of two that hold the same. -/
import Derived.Test.YtefalhnllkkkhaaDoorInsert
namespace Go.Proofs.YtefalhnllkkkhaaDoor
open Go.RowKit
set_option linter.unusedVariables false

/-- A slice of changes, none of them gone: keys and bytes. -/
def ChsAt (w : World) (v : Value) (L : List (ByteArray × List UInt8)) : Prop :=
  ∃ p n c, v = .slice p n c ∧ L.length = n ∧ n ≤ c ∧ c ≤ maxLen ∧ (0 < n → ∃ b o, p = some ⟨b, o, none⟩ ∧ ∀ i K xs, L[i]? = some (K, xs) →
    ∃ q m d, xs.length = m ∧ Rd w q xs ∧ w.cell? ⟨b, o + i * 3, none⟩ = some (.string K) ∧ w.cell? ⟨b, o + i * 3 + 1, none⟩ = some (.slice q m d) ∧ w.cell? ⟨b, o + i * 3 + 2, none⟩ = some (.bool false))
theorem ChsAt.below {w w' : World} {v : Value} {L : List (ByteArray × List UInt8)} (h : ChsAt w v L) (hb : Below w.heap.size w w') : ChsAt w' v L := by
  obtain ⟨p, n, c, rfl, h1, h2, h3, h4⟩ := h
  refine ⟨p, n, c, rfl, h1, h2, h3, fun hn => ?_⟩
  obtain ⟨b, o, rfl, hc⟩ := h4 hn
  refine ⟨b, o, rfl, fun i K xs hi => ?_⟩
  obtain ⟨q, m, d, g1, g3, g4, g5, g6⟩ := hc i K xs hi
  exact ⟨q, m, d, g1, g3.below hb, (hb.cell (cell_lt g4)).trans g4, (hb.cell (cell_lt g5)).trans g5, (hb.cell (cell_lt g6)).trans g6⟩

set_option maxHeartbeats 1000000 in
set_option maxRecDepth 20000 in
theorem same1_any (K : ByteArray) (q r : Option Addr) (m d m' d' : Nat) (xs : List UInt8) (w : World) (hx : xs.length = m) (hx' : xs.length = m') (h1 : Rd w q xs) (h2 : Rd w r xs) :
    Calls Tryd.prog 45 #[.agg #[.string K, .slice q m d, .bool false], .agg #[.string K, .slice r m' d', .bool false]] w fun e w' => e = .returned (.bool true) ∧ Below w.heap.size w w' := by
  have HX := Lib.hid hx
  have HX' := Lib.hid hx'
  have HB : Hid (Below w.heap.size w ((w.alloc (.cells #[.string K, .slice q m d, .bool false] 40)).alloc (.cells #[.string K, .slice r m' d', .bool false] 40))) :=
    Lib.hid (((Below.refl _ w).alloc (Nat.le_refl _) _).alloc (by simp) _)
  have H1 := Lib.hid (h1.below HB.out)
  have H2 := Lib.hid (h2.below HB.out)
  clear hx hx' h1 h2
  go_enter Tryd.func45, Tryd.ntmps45
  go_wp2_with fail
  refine (equal_same q r m d m' d' xs _ HX.out HX'.out H1.out H2.out).mono ?_
  rintro e w1 ⟨rfl, rfl⟩
  go_wp2
  go_ret
  exact ⟨rfl, HB.out⟩

theorem wrapS {k n : Nat} (h : k < n) (hn : n ≤ 9223372036854775807) : wrap64 ((k : Int) + 1) = ((k + 1 : Nat) : Int) := by
  unfold wrap64
  omega
theorem below_two (w : World) (K : ByteArray) (q : Option Addr) (m d : Nat) (K' : ByteArray) (q' : Option Addr) (m' d' : Nat) :
    Below w.heap.size w ((w.alloc (.cells #[.string K, .slice q m d, .bool false] 40)).alloc (.cells #[.string K', .slice q' m' d', .bool false] 40)) :=
  ((Below.refl _ w).alloc (Nat.le_refl _) _).alloc (by simp) _

set_option maxHeartbeats 2000000 in
set_option maxRecDepth 20000 in
theorem equalFunc_any (v u : Value) (L : List (ByteArray × List UInt8)) (w : World) (h1 : ChsAt w v L) (h2 : ChsAt w u L) :
    Calls Tryd.prog 44 #[v, u, .func (.func 45) #[] #[]] w fun e w' => e = .returned (.bool true) ∧ Below w.heap.size w w' := by
  have H1 := Lib.hid h1
  have H2 := Lib.hid h2
  obtain ⟨p, n, c, rfl, hn, hc, hm, -⟩ := h1
  obtain ⟨q, n2, d, rfl, hn2, hd, hm2, -⟩ := h2
  have e2 : n2 = n := by omega
  subst e2
  have HL := Lib.hid hn
  have HN : Hid (n2 ≤ 9223372036854775807) := Lib.hid (by unfold maxLen at hm; omega)
  have HC := Lib.hid hc
  have HD := Lib.hid hd
  clear hn hn2 hc hm hd hm2
  go_enter Tryd.func44, Tryd.ntmps44
  go_wp2
  go_loopw [17] (fun i wr => ∃ k : Nat, k ≤ n2 ∧ i = .int .i64 k ∧ Below w.heap.size w wr) (fun i _ => n2 - (intOf i).toNat)
  case atStart => exact ⟨0, Nat.zero_le _, rfl, Below.refl _ _⟩
  case round =>
    obtain ⟨k, hk, rfl, hB⟩ := hrel
    by_cases hlt : k < n2
    · obtain ⟨K, xs, hkx⟩ : ∃ K xs, L[k]? = some (K, xs) := by
        have : k < L.length := by rw [HL.out]; exact hlt
        exact ⟨_, _, List.getElem?_eq_getElem this⟩
      obtain ⟨p', n', c', e, -, -, -, hh⟩ := H1.out.below hB
      cases e
      obtain ⟨b, o, rfl, hj⟩ := hh (by omega)
      obtain ⟨q1, m1, d1, hx1, hr1, a0, a1, a2⟩ := hj k K xs hkx
      obtain ⟨p', n', c', e, -, -, -, hh'⟩ := H2.out.below hB
      cases e
      obtain ⟨b2, o2, rfl, hj'⟩ := hh' (by omega)
      obtain ⟨q2, m2, d2, hx2, hr2, c0, c1, c2⟩ := hj' k K xs hkx
      have l1 := cell_lt a0
      have l2 := cell_lt c0
      have HR1 := Lib.hid hr1
      have HR2 := Lib.hid hr2
      have HX1 := Lib.hid hx1
      have HX2 := Lib.hid hx2
      have HB := Lib.hid hB
      clear hh hh' hj hj' hr1 hr2 hx1 hx2 hkx hB
      have HBA := Lib.hid (below_two wr K q1 m1 d1 K q2 m2 d2)
      go_wp2_with fail
      refine (same1_any K q1 q2 m1 d1 m2 d2 xs _ HX1.out HX2.out (HR1.out.below HBA.out) (HR2.out.below HBA.out)).mono ?_
      rintro e w1 ⟨rfl, hb1⟩
      have HB1 := Lib.hid (chain2 HB.out (chain2 HBA.out hb1))
      clear hb1
      go_wp2
      go_roundw
      case rel => exact ⟨k + 1, by omega, by rw [wrapS hlt HN.out], HB1.out⟩
      case measure => rw [wrapS hlt HN.out]; simp [intOf]; omega
    · obtain rfl : k = n2 := by omega
      go_wp2
      go_ret
      exact ⟨rfl, hB⟩

set_option maxHeartbeats 1000000 in
theorem sameChanges_any (v u : Value) (L : List (ByteArray × List UInt8)) (w : World) (h1 : ChsAt w v L) (h2 : ChsAt w u L) :
    Calls Tryd.prog 22 #[v, u] w fun e w' => e = .returned (.bool true) ∧ Below w.heap.size w w' := by
  go_enter Tryd.func22, Tryd.ntmps22
  go_wp2_with fail
  refine (equalFunc_any v u L _ h1 h2).mono ?_
  rintro e w1 ⟨rfl, hb⟩
  go_wp2
  go_ret
  exact ⟨rfl, hb⟩
end Go.Proofs.YtefalhnllkkkhaaDoor
