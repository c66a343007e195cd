/- More words: an owned row of bytes, part of a slice, draws. -/
import Derived.Test.YtefalhnllkkkhaaGreatDoorBytes
namespace Go.Proofs.YtefalhnllkkkhaaGreatDoor
open Go.RowKit
set_option linter.unusedVariables false

theorem sz8 : (Tryz.prog.info? 5).map (·.size) = some 1 := by kernel_rfl

theorem own8 {w : World} {base : Nat} {v : Value} {n : Nat} {xs : List UInt8} (h : w.ownsRow base 5 1 v n (B8s xs)) (hn : 0 < n) :
    ∃ g cap cur, v = .slice (some ⟨g, 0, none⟩) n cap ∧ base ≤ g ∧ w.heap[g]? = some (.cells (B8s xs ++ cur).toArray 5 (0, 0)) ∧ xs.length = n ∧ n + cur.length = cap ∧ cap ≤ maxLen := by
  obtain ⟨hl, h | ⟨g, cap, cur, rfl, hb, hh, h1, h2, h3, h4⟩⟩ := h
  · omega
  · rw [B8s_length] at hl
    refine ⟨g, cap, cur.toList.drop n, rfl, hb, ?_, by omega, ?_, h2⟩
    · rw [hh, ← h4, Nat.mul_one, List.take_append_drop]
    · rw [List.length_drop, Array.length_toList, h3]; omega

theorem own8_mk {w : World} {base g n cap : Nat} {xs : List UInt8} {cur : List Value} (hg : base ≤ g) (hh : w.heap[g]? = some (.cells (B8s xs ++ cur).toArray 5 (0, 0))) (hx : xs.length = n) (hc : n + cur.length = cap) (hm : cap ≤ maxLen) :
    w.ownsRow base 5 1 (.slice (some ⟨g, 0, none⟩) n cap) n (B8s xs) :=
  ⟨by rw [B8s_length]; omega, .inr ⟨g, cap, _, rfl, hg, hh, by omega, hm, by simp [B8s_length]; omega, by
    show List.take (n * 1) (B8s xs ++ cur) = B8s xs
    rw [Nat.mul_one, List.take_append_of_le_length (by rw [B8s_length]; omega), List.take_of_length_le (by rw [B8s_length]; omega)]⟩⟩

theorem own_rd {w : World} {base : Nat} {v : Value} {n : Nat} {xs : List UInt8} (h : w.ownsRow base 5 1 v n (B8s xs)) :
    ∃ p c, v = .slice p n c ∧ Rd w p xs ∧ xs.length = n ∧ n ≤ maxLen ∧ (∀ b o s, p = some ⟨b, o, s⟩ → base ≤ b ∧ b < w.heap.size) := by
  rcases Nat.eq_zero_or_pos n with hn | hn
  · subst hn
    have hx : xs = [] := by
      have := h.1
      rw [B8s_length] at this
      exact List.eq_nil_of_length_eq_zero (by omega)
    subst hx
    rcases h.2 with ⟨rfl, _⟩ | ⟨g, cap, cur, rfl, hb, hh, _⟩
    · exact ⟨none, 0, rfl, Rd.nil _ _, rfl, Nat.zero_le _, fun b o s h => by cases h⟩
    · exact ⟨_, cap, rfl, Rd.nil _ _, rfl, Nat.zero_le _, fun b o s h => by cases h; exact ⟨hb, (Array.getElem?_eq_some_iff.1 hh).1⟩⟩
  · obtain ⟨g, cap, cur, rfl, hb, hh, hx, hc, hm⟩ := own8 h hn
    refine ⟨_, cap, rfl, fun _ => ⟨g, 0, rfl, fun i v hv => ?_⟩, hx, by omega, fun b o s h => by cases h; exact ⟨hb, (Array.getElem?_eq_some_iff.1 hh).1⟩⟩
    have hi : i < (B8s xs).length := (List.getElem?_eq_some_iff.1 hv).1
    simp only [World.cell?, hh, Nat.zero_add]
    simp [List.getElem?_append_left hi, hv]

theorem Rd.sub {w : World} {b o : Nat} {xs : List UInt8} (h : Rd w (some ⟨b, o, none⟩) xs) (i n : Nat) : Rd w (some ⟨b, o + i, none⟩) ((xs.drop i).take n) := fun hne => by
  have hpos : 0 < xs.length := by
    rcases xs with _ | ⟨x, xs⟩
    · simp [B8s] at hne
    · simp
  obtain ⟨b', o', e, hc⟩ := h.at hpos
  cases e
  refine ⟨b, o + i, rfl, fun j v hv => ?_⟩
  have hj : j < n ∧ i + j < xs.length := by
    have := (List.getElem?_eq_some_iff.1 hv).1
    simp [B8s] at this
    omega
  have hcj := hc (i + j) hj.2
  rw [show o + i + j = o + (i + j) from by omega, hcj, ← hv]
  simp [B8s, hj.1, List.getElem?_drop, List.getElem?_eq_getElem hj.2]

theorem Rd.drewN {w : World} {p : Option Addr} {xs : List UInt8} (h : Rd w p xs) (n : Nat) : Rd (w.drewN n) p xs := fun hne => by
  obtain ⟨b, o, rfl, hc⟩ := h hne
  exact ⟨b, o, rfl, hc⟩

theorem drewN_below {B : Nat} {w w' : World} (h : Below B w w') (n : Nat) : Below B w (w'.drewN n) := ⟨h.os, h.tape, h.output, h.size, h.block⟩

theorem equal_same (p q : Option Addr) (n c m d : Nat) (xs : List UInt8) (w : World) (hx : xs.length = n) (hy : xs.length = m) (h1 : Rd w p xs) (h2 : Rd w q xs) :
    Calls Tryz.prog 16 #[.slice p n c, .slice q m d] w fun e w' => e = .returned (.bool true) ∧ w' = w :=
  (equal_any p q n c m d xs xs w hx hy h1 h2).mono fun e w' h => ⟨by rw [h.1, beq_self_eq_true], h.2.symm⟩

theorem ret_two {k1 k2 : IntKind} {a b a' b' : Int} (h1 : a = a') (h2 : b = b') : Ending.returned (.tuple #[.int k1 a, .int k2 b]) = .returned (.tuple #[.int k1 a', .int k2 b']) := by rw [h1, h2]

theorem ret_one {k1 : IntKind} {a b : Int} (h : a = b) : Ending.returned (.int k1 a) = .returned (.int k1 b) := by rw [h]

theorem below_of_drewN {B j : Nat} {w w' : World} (h : Below B (w.drewN j) w') : Below B w w' := ⟨h.os, h.tape, h.output, h.size, h.block⟩
theorem below_drewN' {B : Nat} (w : World) (j : Nat) : Below B w (w.drewN j) := ⟨rfl, rfl, rfl, Nat.le_refl _, fun _ _ => rfl⟩
end Go.Proofs.YtefalhnllkkkhaaGreatDoor
