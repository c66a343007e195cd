/- Who is a request's name: net.IsID and the document's. -/
import Derived.Test.YtefalhnllkkkhaaDoorRefFrame
namespace Go.Proofs.YtefalhnllkkkhaaDoor
open Go.RowKit
set_option linter.unusedVariables false

/-- A letter or a digit. -/
def alnum (x : Nat) : Bool := (decide (48 ≤ x) && decide (x ≤ 57)) || (decide (97 ≤ x) && decide (x ≤ 122)) || (decide (65 ≤ x) && decide (x ≤ 90))
def isID (s : ByteArray) : Bool := (strB s).all (fun c => alnum c.toNat) && decide (1 ≤ s.size) && decide (s.size ≤ 8)

theorem strB_toList (s : ByteArray) : s.toList = strB s := ByteArray.toList_eq s
theorem size_pos_of (s : ByteArray) : (!s.toList.isEmpty) = decide (1 ≤ s.size) := by
  rw [strB_toList, ← strB_length]
  rcases strB s with _ | ⟨x, l⟩ <;> simp
theorem strB_get (s : ByteArray) {k : Nat} (h : k < s.size) : (strB s)[k]'(by rw [strB_length]; exact h) = s[k] := rfl
theorem isID_no {s : ByteArray} {k : Nat} (hk : k < s.size) (h : alnum (s[k]).toNat = false) : isID s = false := by
  have : (strB s).all (fun c => alnum c.toNat) = false := by
    rw [List.all_eq_false]
    exact ⟨_, List.getElem_mem (l := strB s) (n := k) (by rw [strB_length]; exact hk), by rw [strB_get s hk, h]; decide⟩
  unfold isID
  rw [this]
  rfl
theorem alnum_round {s : ByteArray} {k : Nat} (hk : k < s.size) (HA : ∀ c ∈ (strB s).take k, alnum c.toNat = true) (h : alnum (s[k]).toNat = true) : ∀ c ∈ (strB s).take (k + 1), alnum c.toNat = true := by
  intro c hc
  rw [List.take_succ_eq_append_getElem (by rw [strB_length]; exact hk), List.mem_append] at hc
  rcases hc with hc | hc
  · exact HA c hc
  · rw [List.mem_singleton.1 hc, strB_get s hk]; exact h
theorem alnum_no {x : Nat} (h1 : ¬ (48 ≤ (x : Int) ∧ (x : Int) ≤ 57)) (h2 : ¬ (97 ≤ (x : Int) ∧ (x : Int) ≤ 122)) (h3 : ¬ (65 ≤ (x : Int) ∧ (x : Int) ≤ 90)) : alnum x = false := by
  unfold alnum
  simp
  omega
theorem alnum_yes {x : Nat} (h : (48 ≤ (x : Int) ∧ (x : Int) ≤ 57) ∨ (97 ≤ (x : Int) ∧ (x : Int) ≤ 122) ∨ (65 ≤ (x : Int) ∧ (x : Int) ≤ 90)) : alnum x = true := by
  unfold alnum
  simp
  omega
theorem isID_yes {s : ByteArray} (HA : ∀ c ∈ (strB s).take s.size, alnum c.toNat = true) : isID s = (decide (1 ≤ s.size) && decide (s.size ≤ 8)) := by
  rw [List.take_of_length_le (by rw [strB_length]; exact Nat.le_refl _)] at HA
  unfold isID
  rw [List.all_eq_true.2 HA, Bool.true_and]

set_option maxHeartbeats 1000000 in
set_option maxRecDepth 20000 in
theorem isID_any (s : ByteArray) (w : World) (hs : s.size ≤ maxLen) :
    Calls Tryd.prog 69 #[.string s] w fun e w' => e = .returned (.bool (isID s)) ∧ w = w' := by
  have HM := Lib.hid hs
  unfold maxLen at hs
  go_enter Tryd.func69, Tryd.ntmps69
  go_wp2
  go_loopw [7] (fun i wr => w = wr ∧ ∃ k : Nat, k ≤ s.size ∧ i = .int .i64 k ∧ Hid (∀ c ∈ (strB s).take k, alnum c.toNat = true)) (fun i _ => s.size - (intOf i).toNat)
  case atStart => exact ⟨rfl, 0, Nat.zero_le _, rfl, Lib.hid (by simp)⟩
  case round =>
    obtain ⟨rfl, k, hk, rfl, HA⟩ := hrel
    by_cases hlt : k < s.size
    · go_wp2
      all_goals first
        | (go_ret; exact ⟨by rw [isID_no hlt (alnum_no (by omega) (by omega) (by omega))]; rfl, rfl⟩)
        | exact ⟨⟨trivial, k + 1, by omega, by go_num, Lib.hid (alnum_round hlt HA.out (alnum_yes (by omega)))⟩, by simp [intOf]; omega⟩
    · obtain rfl : k = s.size := by omega
      go_wp2
      · go_ret
        exact ⟨by rw [isID_yes HA.out, ← size_pos_of, show s.toList = [] by assumption]; rfl, rfl⟩
      · go_ret
        refine ⟨?_, rfl⟩
        rw [isID_yes HA.out, ← size_pos_of, show decide (s.size ≤ 8) = decide ((s.size : Int) ≤ 8) by simp; omega]
        rfl

theorem isID_len {s : ByteArray} (h : ¬ (1 ≤ s.size ∧ s.size ≤ 8)) : isID s = false := by
  unfold isID
  have : (decide (1 ≤ s.size) && decide (s.size ≤ 8)) = false := by simp; omega
  rw [Bool.and_assoc, this, Bool.and_false]

set_option maxHeartbeats 1000000 in
set_option maxRecDepth 20000 in
theorem refisID_any (s : ByteArray) (w : World) (hs : s.size ≤ maxLen) :
    Calls Tryd.prog 75 #[.string s] w fun e w' => e = .returned (.bool (isID s)) ∧ w = w' := by
  have HM := Lib.hid hs
  unfold maxLen at hs
  by_cases hl : 1 ≤ s.size ∧ s.size ≤ 8
  · obtain ⟨hl1, hl2⟩ := hl
    go_enter Tryd.func75, Tryd.ntmps75
    go_wp2
    go_loopw [3] (fun i wr => w = wr ∧ ∃ k : Nat, k ≤ s.size ∧ i = .int .i64 k ∧ Hid (∀ c ∈ (strB s).take k, alnum c.toNat = true)) (fun i _ => s.size - (intOf i).toNat)
    case atStart => exact ⟨rfl, 0, Nat.zero_le _, rfl, Lib.hid (by simp)⟩
    case round =>
      obtain ⟨rfl, k, hk, rfl, HA⟩ := hrel
      by_cases hlt : k < s.size
      · go_wp2
        all_goals first
          | (go_ret; exact ⟨by rw [isID_no hlt (alnum_no (by omega) (by omega) (by omega))]; rfl, rfl⟩)
          | exact ⟨⟨trivial, k + 1, by omega, by go_num, Lib.hid (alnum_round hlt HA.out (alnum_yes (by omega)))⟩, by simp [intOf]; omega⟩
      · obtain rfl : k = s.size := by omega
        go_wp2
        go_ret
        exact ⟨by rw [isID_yes HA.out]; simp [hl1, hl2], rfl⟩
  · have h0 := isID_len hl
    by_cases h1 : 1 ≤ s.size
    · have h2 : 8 < s.size := by omega
      clear hl
      go_enter Tryd.func75, Tryd.ntmps75
      go_wp2
      go_ret
      exact ⟨by rw [h0]; rfl, rfl⟩
    · have h2 : s.size = 0 := by omega
      clear hl h1
      go_enter Tryd.func75, Tryd.ntmps75
      go_wp2
      go_ret
      exact ⟨by rw [h0]; rfl, rfl⟩
end Go.Proofs.YtefalhnllkkkhaaDoor
