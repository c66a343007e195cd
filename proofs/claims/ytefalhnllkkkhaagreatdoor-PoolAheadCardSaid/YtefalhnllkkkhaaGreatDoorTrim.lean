/- Whether all bytes are 0: bytes.Trim at the byte 0, page.empty, the document's noughts. -/
import Derived.Test.YtefalhnllkkkhaaGreatDoorSum
import Derived.Deep.DeepFit
import Derived.Deep.RegionWith
namespace Go.Proofs.YtefalhnllkkkhaaGreatDoor
open Go.RowKit
set_option linter.unusedVariables false

def allZ (xs : List UInt8) : Bool := xs.all (· == 0)
theorem allZ_iff (xs : List UInt8) : allZ xs = true ↔ ∀ i (h : i < xs.length), (xs[i]).toNat = 0 := by
  unfold allZ
  rw [List.all_eq_true]
  constructor
  · intro h i hi
    have := h xs[i] (List.getElem_mem hi)
    rw [beq_iff_eq] at this
    rw [this]; rfl
  · intro h x hx
    obtain ⟨i, hi, rfl⟩ := List.getElem_of_mem hx
    rw [beq_iff_eq, ← UInt8.toNat_inj]
    exact h i hi

set_option maxHeartbeats 400000 in
theorem noughts_any (p : Option Addr) (n c : Nat) (xs : List UInt8) (w : World) (hx : xs.length = n) (h1 : Rd w p xs) (hm : n ≤ maxLen) :
    Calls Tryz.prog 39 #[.slice p n c] w fun e w' => e = .returned (.bool (allZ xs)) ∧ w = w' := by
  unfold maxLen at hm
  have HX := Lib.hid hx
  clear hx
  go_enter Tryz.func39, Tryz.ntmps39
  go_wp2
  go_loop [7] (fun i => ∃ k : Nat, k ≤ n ∧ i = .int .i64 k ∧ Hid (∀ j (h : j < xs.length), j < k → (xs[j]).toNat = 0)) (fun i => n - (intOf i).toNat)
  case atStart => exact ⟨0, Nat.zero_le _, rfl, Lib.hid (fun j h h' => absurd h' (Nat.not_lt_zero _))⟩
  case round =>
    obtain ⟨k, hk, rfl, HZ⟩ := hrel
    by_cases hlt : k < n
    · have hkl : k < xs.length := by rw [HX.out]; exact hlt
      obtain ⟨b, o, rfl, k1⟩ := rd_cell h1 (k := k) hkl
      unfold B8 at k1
      by_cases hz : (xs[k]).toNat = 0
      · have hzb : (((xs[k]).toNat : Int) != 0) = false := by rw [bne_eq_false_iff_eq]; omega
        have HN := Lib.hid (show ∀ j (h : j < xs.length), j < k + 1 → (xs[j]).toNat = 0 from fun j h h' => by
          rcases Nat.lt_or_ge j k with h2 | h2
          · exact HZ.out j h h2
          · obtain rfl : j = k := by omega
            exact hz)
        clear hz
        go_wp2
        go_round
        case rel => exact ⟨k + 1, by omega, by go_num, HN⟩
        case measure => simp [intOf]; omega
      · have hzb : (((xs[k]).toNat : Int) != 0) = true := by rw [bne_iff_ne]; omega
        have e : allZ xs = false := by
          rw [Bool.eq_false_iff]
          intro h
          exact hz ((allZ_iff xs).1 h k hkl)
        have HE := Lib.hid e
        clear hz e
        go_wp2
        go_ret
        exact ⟨by rw [HE.out]; rfl, rfl⟩
    · have e : allZ xs = true := (allZ_iff xs).2 fun i h => HZ.out i h (by have := HX.out; omega)
      have HE := Lib.hid e
      clear e
      go_wp2
      go_ret
      exact ⟨by rw [HE.out]; rfl, rfl⟩

set_option maxHeartbeats 400000 in
theorem trimRight_any (p : Option Addr) (n c : Nat) (xs : List UInt8) (w : World) (hx : xs.length = n) (h1 : Rd w p xs) (hc : n ≤ c) (hm : c ≤ maxLen) :
    Calls Tryz.prog 101 #[.slice p n c, .int .u8 0] w fun e w' => (∃ k, e = .returned (.slice p k c) ∧ k ≤ n ∧ (allZ (xs.take k) = allZ xs)) ∧ w = w' := by
  unfold maxLen at hm
  have HX := Lib.hid hx
  clear hx
  go_enter Tryz.func101, Tryz.ntmps101
  go_wp2
  go_loop [0] (fun s => ∃ k : Nat, k ≤ n ∧ s = .slice p k c ∧ Hid (∀ j (h : j < xs.length), k ≤ j → (xs[j]).toNat = 0)) (fun s => match s with | .slice _ k _ => k | _ => 0)
  case atStart => exact ⟨n, Nat.le_refl _, rfl, Lib.hid (fun j h h' => by have := HX.out; omega)⟩
  case round =>
    obtain ⟨k, hk, rfl, HZ⟩ := hrel
    have HE := Lib.hid (show allZ (xs.take k) = allZ xs from by
      rw [Bool.eq_iff_iff, allZ_iff, allZ_iff]
      constructor
      · intro h i hi
        rcases Nat.lt_or_ge i k with h2 | h2
        · have := h i (by simp; omega)
          rw [List.getElem_take] at this
          exact this
        · exact HZ.out i hi h2
      · intro h i hi
        rw [List.getElem_take]
        exact h i _)
    by_cases h0 : k = 0
    · subst h0
      go_wp2
      go_ret
      exact ⟨⟨0, rfl, Nat.zero_le _, HE.out⟩, rfl⟩
    · obtain ⟨k, rfl⟩ : ∃ k', k = k' + 1 := ⟨k - 1, by omega⟩
      have hkl : k < xs.length := by rw [HX.out]; omega
      obtain ⟨b, o, rfl, k1⟩ := rd_cell h1 (k := k) hkl
      unfold B8 at k1
      by_cases hz : (xs[k]).toNat = 0
      · have hzb : (((xs[k]).toNat : Int) == 0) = true := by rw [beq_iff_eq]; omega
        have HN := Lib.hid (show ∀ j (h : j < xs.length), k ≤ j → (xs[j]).toNat = 0 from fun j h h' => by
          rcases Nat.lt_or_ge k j with h2 | h2
          · exact HZ.out j h h2
          · obtain rfl : j = k := by omega
            exact hz)
        clear hz
        go_wp2
        go_round
        case rel => exact ⟨k, by omega, rfl, HN⟩
        case measure => simp
      · have hzb : (((xs[k]).toNat : Int) == 0) = false := by rw [beq_eq_false_iff_ne]; omega
        clear hz
        go_wp2
        go_ret
        exact ⟨⟨k + 1, rfl, hk, HE.out⟩, rfl⟩

theorem Rd.take {w : World} {p : Option Addr} {xs : List UInt8} (h : Rd w p xs) (k : Nat) : Rd w p (xs.take k) := fun hne => by
  have hpos : 0 < xs.length := by
    rcases xs with _ | ⟨x, xs⟩
    · simp [B8s] at hne
    · simp
  obtain ⟨b, o, e, hc⟩ := h.at hpos
  refine ⟨b, o, e, fun i v hv => ?_⟩
  have hi : i < k ∧ i < xs.length := by
    have := (List.getElem?_eq_some_iff.1 hv).1
    simp [B8s] at this
    omega
  rw [hc i hi.2, ← hv]
  simp [B8s, hi.1, List.getElem?_eq_getElem hi.2]

theorem allZ_cons {x : UInt8} {xs : List UInt8} : allZ (x :: xs) = (x == 0 && allZ xs) := rfl

/-- What is left of a slice's first byte. -/
theorem Rd.tail {w : World} {b o : Nat} {x : UInt8} {xs : List UInt8} (h : Rd w (some ⟨b, o, none⟩) (x :: xs)) : Rd w (some ⟨b, o + 1, none⟩) xs := by
  obtain ⟨b', o', e, hc⟩ := h.at (by simp)
  cases e
  refine fun hne => ⟨b, o + 1, rfl, fun i v hv => ?_⟩
  have hi : i < xs.length := by
    have := (List.getElem?_eq_some_iff.1 hv).1
    simpa [B8s] using this
  have := hc (i + 1) (by simp; omega)
  rw [show o + 1 + i = o + (i + 1) from by omega, this, ← hv]
  simp [B8s, List.getElem?_eq_getElem hi]

/-- A slice comes back; it is empty just where all bytes are 0. -/
def TrimQ (xs : List UInt8) (e : Ending) : Prop := ∃ p k c, e = .returned (.slice p k c) ∧ (k = 0 ↔ allZ xs = true)

set_option maxHeartbeats 400000 in
theorem trimLeft_any (p : Option Addr) (n c : Nat) (xs : List UInt8) (w : World) (hx : xs.length = n) (h1 : Rd w p xs) (hc : n ≤ c) (hm : c ≤ maxLen) :
    Calls Tryz.prog 100 #[.slice p n c, .int .u8 0] w fun e w' => TrimQ xs e ∧ w = w' := by
  unfold maxLen at hm
  have HX := Lib.hid hx
  clear hx
  go_enter Tryz.func100, Tryz.ntmps100
  go_wp2
  go_loop [0] (fun s => ∃ (q : Option Addr) (k d : Nat) (ys : List UInt8), s = .slice q k d ∧ k ≤ d ∧ d ≤ c ∧ Hid (ys.length = k) ∧ Rd w q ys ∧ Hid (allZ ys = allZ xs)) (fun s => match s with | .slice _ k _ => k | _ => 0)
  case atStart => exact ⟨p, n, c, xs, rfl, hc, Nat.le_refl _, HX, h1, Lib.hid rfl⟩
  case round =>
    obtain ⟨q, k, d, ys, rfl, hkd, hdc, HY, hr, HZ⟩ := hrel
    by_cases h0 : k = 0
    · subst h0
      obtain rfl : ys = [] := List.eq_nil_of_length_eq_zero HY.out
      go_wp2
      go_ret
      exact ⟨⟨none, 0, 0, rfl, ⟨fun _ => HZ.out.symm, fun _ => rfl⟩⟩, rfl⟩
    · obtain ⟨k, rfl⟩ : ∃ k', k = k' + 1 := ⟨k - 1, by omega⟩
      obtain ⟨y, ys, rfl⟩ : ∃ y ys', ys = y :: ys' := by
        rcases ys with _ | ⟨y, ys⟩
        · exact absurd HY.out (by simp)
        · exact ⟨y, ys, rfl⟩
      obtain ⟨b, o, rfl, k1⟩ := rd_cell hr (k := 0) (by simp)
      have k1 : w.cell? ⟨b, o, none⟩ = some (.int .u8 (y.toNat : Int)) := k1
      by_cases hz : y = 0
      · have hzb : ((y.toNat : Int) == 0) = true := by rw [hz]; rfl
        have HN : Hid (allZ ys = allZ xs) := Lib.hid (by rw [← HZ.out, allZ_cons, hz]; rfl)
        have hl : Hid (ys.length = k) := Lib.hid (by have := HY.out; simpa using this)
        have ht := hr.tail
        by_cases hd1 : d = 1
        · have hk0 : k = 0 := by omega
          subst hk0
          subst hd1
          clear hz
          go_wp2
          go_round
          case rel => exact ⟨_, 0, 0, ys, rfl, Nat.le_refl _, Nat.zero_le _, hl, by rw [List.eq_nil_of_length_eq_zero hl.out]; exact Rd.nil _ _, HN⟩
          case measure => simp
        · clear hz
          go_wp2
          go_round
          case rel => exact ⟨_, k, d - 1, ys, rfl, by omega, by omega, hl, ht, HN⟩
          case measure => simp
      · have hzb : ((y.toNat : Int) == 0) = false := by
          rw [beq_eq_false_iff_ne]
          intro h
          exact hz (UInt8.toNat_inj.1 (by simpa using h))
        have HF : Hid (allZ xs = false) := Lib.hid (by rw [← HZ.out, allZ_cons, show (y == 0) = false from by simpa using hz]; rfl)
        clear hz
        go_wp2
        go_ret
        exact ⟨⟨_, k + 1, d, rfl, ⟨fun h => by omega, fun h => by rw [HF.out] at h; cases h⟩⟩, rfl⟩

set_option maxHeartbeats 400000 in
set_option maxRecDepth 20000 in
theorem trim_any (p : Option Addr) (n c : Nat) (xs : List UInt8) (w : World) (hx : xs.length = n) (h1 : Rd w p xs) (hc : n ≤ c) (hm : c ≤ maxLen) :
    Calls Tryz.prog 90 #[.slice p n c, .string ⟨#[0]⟩] w fun e w' => TrimQ xs e ∧ ∃ j, w' = w.drewN j := by
  have HM := Lib.hid hm
  clear hm
  by_cases h0 : n = 0
  · subst h0
    obtain rfl : xs = [] := List.eq_nil_of_length_eq_zero hx
    go_enter Tryz.func90, Tryz.ntmps90
    go_wp2
    go_ret
    exact ⟨⟨none, 0, 0, rfl, ⟨fun _ => rfl, fun _ => rfl⟩⟩, 0, rfl⟩
  · have HX := Lib.hid hx
    have hn0 : ((n : Int) == 0) = false := by rw [beq_eq_false_iff_ne]; omega
    have K1 := Lib.hid h1
    have K0 := Lib.hid h0
    clear hx h1 h0
    go_enter Tryz.func90, Tryz.ntmps90
    have hb0 : ((({ data := #[0] } : ByteArray)[0]'(by decide)).toNat : Int) = 0 := rfl
    go_wp2_with fail
    go_region_with (first | (go_at_call 101; refine (trimRight_any p n c xs _ HX.out ?_ hc HM.out).mono ?_; exact K1.out; rintro e w' ⟨⟨k, rfl, hk, hz⟩, rfl⟩) | (go_at_call 100; refine (trimLeft_any p _ c (xs.take _) _ (by rw [List.length_take, HX.out]; exact Nat.min_eq_left (by assumption)) ?_ (Nat.le_trans (by assumption) hc) HM.out).mono ?_; exact K1.out.take _; rintro e w' ⟨⟨p', k', c', rfl, hk'⟩, rfl⟩))
    all_goals go_wp2
    all_goals go_ret
    all_goals exact ⟨⟨_, _, _, rfl, by rw [hk', hz]⟩, 1, rfl⟩

set_option maxHeartbeats 400000 in
theorem empty_any (p : Option Addr) (n c : Nat) (xs : List UInt8) (w : World) (hx : xs.length = n) (h1 : Rd w p xs) (hc : n ≤ c) (hm : c ≤ maxLen) :
    Calls Tryz.prog 63 #[.slice p n c] w fun e w' => e = .returned (.bool (allZ xs)) ∧ ∃ j, w' = w.drewN j := by
  have HX := Lib.hid hx
  have HM := Lib.hid hm
  clear hx hm
  go_enter Tryz.func63, Tryz.ntmps63
  go_wp2_with fail
  refine (trim_any p n c xs _ HX.out h1 hc HM.out).mono ?_
  rintro e w' ⟨⟨p', k', c', rfl, hk'⟩, j, rfl⟩
  have e : allZ xs = ((k' : Int) == 0) := by
    rw [Bool.eq_iff_iff, ← hk', beq_iff_eq]; omega
  have HE := Lib.hid e
  clear hk' e
  go_wp2
  go_ret
  exact ⟨by rw [HE.out]; rfl, j, rfl⟩
end Go.Proofs.YtefalhnllkkkhaaGreatDoor
