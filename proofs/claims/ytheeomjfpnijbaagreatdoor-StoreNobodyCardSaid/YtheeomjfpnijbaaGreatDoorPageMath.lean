/- What a sector's reading comes to, as plain lists: there and back; one byte turned. -/
import Derived.Test.YtheeomjfpnijbaaGreatDoorDecode
namespace Go.Proofs.YtheeomjfpnijbaaGreatDoor
open Go.RowKit
set_option linter.unusedVariables false

theorem leV_leB : ∀ k n, n < 256 ^ k → leV (leB n k) = n
  | 0, n, h => by simp at h; subst h; rfl
  | k + 1, n, h => by
    rw [leB, leV, leV_leB k (n / 256) (by rw [Nat.pow_succ] at h; omega)]
    simp
    omega
theorem leB_inj {k a b : Nat} (ha : a < 256 ^ k) (hb : b < 256 ^ k) (h : leB a k = leB b k) : a = b := by
  rw [← leV_leB k a ha, h, leV_leB k b hb]

theorem sector_take {l : Nat} {load : List UInt8} (h : load.length = 112) : (sector l load).take 124 = body l load := by
  unfold sector
  rw [List.take_left' (by rw [body_length, h])]
theorem sector_drop {l : Nat} {load : List UInt8} (h : load.length = 112) : (sector l load).drop 124 = leB (sumN (body l load)) 4 := by
  unfold sector
  rw [List.drop_left' (by rw [body_length, h])]
theorem sector_not_zero (l : Nat) (load : List UInt8) : allZ (sector l load) = false := by
  rw [Bool.eq_false_iff]
  intro h
  have := (allZ_iff _).1 h 0 (by simp [sector, body])
  simp [sector, body] at this
theorem decL_sector {l : Nat} {load : List UInt8} (h : load.length = 112) (hl : l ≤ 4611686018427387904) : decL (sector l load) = l := by
  unfold decL
  have e : ((sector l load).drop 4).take 8 = leB l 8 := by
    unfold sector body
    rw [List.append_assoc, List.append_assoc, List.drop_left' (by rfl), List.take_left' (leB_length 8 l)]
  rw [e]
  exact leV_leB 8 l (by omega)
theorem decP_sector {l : Nat} {load : List UInt8} (h : load.length = 112) : decP (sector l load) = load := by
  unfold decP sector body
  rw [List.append_assoc, List.drop_left' (by simp [leB_length]), List.take_left' h]

theorem dec_enc {l : Nat} {load : List UInt8} (h : load.length = 112) (hl : l ≤ 4611686018427387904) :
    decE (encV l load) = 0 ∧ decL (encV l load) = l ∧ decP (encV l load) = load := by
  by_cases hz : l = 0 ∧ allZ load = true
  · obtain ⟨rfl, hz⟩ := hz
    have e : encV 0 load = List.replicate 128 0 := by unfold encV; rw [if_pos ⟨rfl, hz⟩]
    have hzz : allZ (List.replicate 128 0) = true := by decide
    rw [e]
    refine ⟨?_, decL_zero hzz (by simp), ?_⟩
    · unfold decE; rw [if_neg (by simp), if_pos hzz]
    · rw [decP_zero hzz (by simp), allZ_replicate hz, h]
  · have e : encV l load = sector l load := by unfold encV; rw [if_neg hz]
    rw [e]
    refine ⟨?_, decL_sector h hl, decP_sector h⟩
    unfold decE
    rw [if_neg (by rw [sector_length h]; decide), if_neg (by rw [sector_not_zero]; decide), if_neg (by rw [sector_take h, sector_drop h]; exact fun h => h rfl), if_neg (by rw [decL_sector h hl]; omega),
      if_neg (by rw [decL_sector h hl, decP_sector h, e]; exact fun h => h rfl)]

/-- Two texts that part in one byte have two sums. -/
theorem crc_state {l : List UInt8} : ∀ {a b : Nat}, a < 4294967296 → b < 4294967296 → l.foldl (fun c x => byteN c x.toNat) a = l.foldl (fun c x => byteN c x.toNat) b → a = b := by
  induction l with
  | nil => intro a b _ _ h; exact h
  | cons x l ih =>
    intro a b ha hb h
    have hx := x.toNat_lt
    exact byte_inj ha hb (by omega) (ih (byteN_lt _ _) (byteN_lt _ _) h)
theorem crc_turned {xs : List UInt8} {i : Nat} {y : UInt8} (hi : i < xs.length) (hy : y ≠ xs[i]) : crcN (xs.set i y) ≠ crcN xs := by
  intro h
  have e1 : xs = xs.take i ++ xs[i] :: xs.drop (i + 1) := by rw [List.getElem_cons_drop, List.take_append_drop]
  have e2 : xs.set i y = xs.take i ++ y :: xs.drop (i + 1) := List.set_eq_take_append_cons_drop.trans (by rw [if_pos hi])
  rw [e2] at h
  rw [show crcN xs = crcN (xs.take i ++ xs[i] :: xs.drop (i + 1)) from by rw [← e1]] at h
  unfold crcN at h
  rw [List.foldl_append, List.foldl_append, List.foldl_cons, List.foldl_cons] at h
  have h1 := crc_state (byteN_lt _ _) (byteN_lt _ _) h
  have hy' := y.toNat_lt
  have hx' := (xs[i]).toNat_lt
  exact hy (UInt8.toNat_inj.1 (byte_inj_u (crcN_lt (xs.take i)) (by omega) (by omega) h1))
theorem sum_turned {xs : List UInt8} {i : Nat} {y : UInt8} (hi : i < xs.length) (hy : y ≠ xs[i]) : sumN (xs.set i y) ≠ sumN xs := fun h =>
  crc_turned hi hy (xor_inj_r (crcN_lt _) (crcN_lt _) (by decide) h)

theorem turned {l : Nat} {load : List UInt8} (h : load.length = 112) (hl : 1 ≤ l) (hl2 : l ≤ 4611686018427387904) {i : Nat} (hi : i < 128) {y : UInt8}
    (hy : y ≠ (sector l load)[i]'(by rw [sector_length h]; exact hi)) : decE ((sector l load).set i y) ≠ 0 := by
  have hlen : ((sector l load).set i y).length = 128 := by rw [List.length_set, sector_length h]
  have hz : allZ ((sector l load).set i y) = false := by
    rw [Bool.eq_false_iff]
    intro hz
    by_cases h0 : i = 0
    · subst h0
      have e : decL ((sector l load).set 0 y) = decL (sector l load) := by
        unfold decL
        rw [List.drop_set]
        simp
      have := decL_zero hz hlen
      rw [e, decL_sector h hl2] at this
      omega
    · have := (allZ_iff _).1 hz 0 (by rw [hlen]; decide)
      rw [List.getElem_set_ne (by omega)] at this
      simp [sector, body] at this
  unfold decE
  rw [if_neg (by rw [hlen]; decide), if_neg (by rw [hz]; decide), if_pos]
  · decide
  · rcases Nat.lt_or_ge i 124 with h1 | h1
    · have e1 : ((sector l load).set i y).take 124 = (body l load).set i y := by rw [List.take_set, sector_take h]
      have e2 : ((sector l load).set i y).drop 124 = leB (sumN (body l load)) 4 := by rw [List.drop_set, if_pos h1, sector_drop h]
      rw [e1, e2]
      intro hh
      have hib : i < (body l load).length := by rw [body_length, h]; omega
      refine sum_turned hib ?_ (leB_inj (sumN_lt _) (sumN_lt _) hh)
      intro hc
      apply hy
      rw [hc]
      unfold sector
      rw [List.getElem_append_left hib]
    · have e1 : ((sector l load).set i y).take 124 = body l load := by rw [List.take_set, List.set_eq_of_length_le (by simp; omega), sector_take h]
      have e2 : ((sector l load).set i y).drop 124 = (leB (sumN (body l load)) 4).set (i - 124) y := by rw [List.drop_set, if_neg (by omega), sector_drop h]
      rw [e1, e2]
      intro hh
      have hi4 : i - 124 < (leB (sumN (body l load)) 4).length := by rw [leB_length]; omega
      have : (leB (sumN (body l load)) 4)[i - 124] = y := by
        have h2 := congrArg (fun l => l[i - 124]?) hh
        simp only [List.getElem?_set_self hi4, List.getElem?_eq_getElem hi4, Option.some.injEq] at h2
        exact h2
      apply hy
      rw [← this]
      unfold sector
      have e3 : (body l load).length = 124 := by rw [body_length, h]
      rw [List.getElem_append_right (by rw [e3]; exact h1)]
      simp only [e3]
end Go.Proofs.YtheeomjfpnijbaaGreatDoor
