/- rostrumplain.Spoil: bytes stay bytes, and no other cell turns. -/
import Derived.Test.YtefalhnllkkkhaaDoorSame
namespace Go.Proofs.YtefalhnllkkkhaaDoor
open Go.RowKit
set_option linter.unusedVariables false

/-- Cells stay; bytes among them may have turned into others. -/
structure Blur (w w' : World) : Prop where
  cell : ∀ a v, w.cell? a = some v → ∃ v', w'.cell? a = some v' ∧ (v' = v ∨ ∃ x y, v = B8 x ∧ v' = B8 y)
  frozen : ∀ a v, w.cell? a = some v → w'.frozen? a = w.frozen? a
theorem Blur.refl (w : World) : Blur w w := ⟨fun a v h => ⟨v, h, .inl rfl⟩, fun _ _ _ => rfl⟩
theorem Blur.trans {a b c : World} (h : Blur a b) (k : Blur b c) : Blur a c := by
  refine ⟨fun ad v hv => ?_, fun ad v hv => ?_⟩
  · obtain ⟨v1, h1, e1⟩ := h.cell ad v hv
    obtain ⟨v2, h2, e2⟩ := k.cell ad v1 h1
    refine ⟨v2, h2, ?_⟩
    rcases e1 with rfl | ⟨x, y, rfl, rfl⟩
    · exact e2
    · rcases e2 with rfl | ⟨x', y', e, rfl⟩
      · exact .inr ⟨x, y, rfl, rfl⟩
      · exact .inr ⟨x, y', rfl, rfl⟩
  · obtain ⟨v1, h1, _⟩ := h.cell ad v hv
    rw [k.frozen ad v1 h1, h.frozen ad v hv]
theorem Blur.set {w : World} {a : Addr} {x y : UInt8} (h : w.cell? a = some (B8 x)) : Blur w (w.setCell a (B8 y)) := by
  refine ⟨fun ad v hv => ?_, fun ad v hv => World.frozen?_setCell _ _ _ _⟩
  by_cases e : ad = a
  · subst e
    rw [h] at hv
    cases hv
    exact ⟨_, World.cell?_setCell_same' _ _ _ (by rw [h]; rfl), .inr ⟨x, y, rfl, rfl⟩⟩
  · exact ⟨v, by rw [World.cell?_setCell_other _ _ _ _ (fun h => e h.symm)]; exact hv, .inl rfl⟩
/-- A slice's cells are bytes, open to writing, in a block from base on. -/
def ByteRow (w : World) (base : Nat) (p : Option Addr) (n : Nat) : Prop :=
  0 < n → ∃ b o, p = some ⟨b, o, none⟩ ∧ base ≤ b ∧ ∀ i, i < n → ∃ x, w.cell? ⟨b, o + i, none⟩ = some (B8 x) ∧ w.frozen? ⟨b, o + i, none⟩ = false
theorem ByteRow.blur {w w' : World} {base n : Nat} {p : Option Addr} (h : ByteRow w base p n) (hb : Blur w w') : ByteRow w' base p n := fun hn => by
  obtain ⟨b, o, rfl, hbb, hc⟩ := h hn
  refine ⟨b, o, rfl, hbb, fun i hi => ?_⟩
  obtain ⟨x, hx, hf⟩ := hc i hi
  obtain ⟨v', hv', e⟩ := hb.cell _ _ hx
  have hf' := (hb.frozen _ _ hx).trans hf
  rcases e with rfl | ⟨x', y, _, rfl⟩
  · exact ⟨x, hv', hf'⟩
  · exact ⟨y, hv', hf'⟩
theorem xor8 (x : UInt8) : Value.int .u8 (bits .xor .u8 (x.toNat : Int) 90) = B8 (x ^^^ 90) := by
  unfold B8
  congr 1
  show IntKind.u8.wrap (((BitVec.ofInt 8 ((x.toNat : Nat) : Int) ^^^ BitVec.ofInt 8 ((90 : Nat) : Int)).toNat : Nat) : Int) = _
  rw [BitVec.ofInt_natCast, BitVec.ofInt_natCast, BitVec.toNat_xor, BitVec.toNat_ofNat, BitVec.toNat_ofNat, Nat.mod_eq_of_lt (a := x.toNat) (by have := x.toNat_lt; omega), Nat.mod_eq_of_lt (a := 90) (by omega), UInt8.toNat_xor]
  have : x.toNat ^^^ 90 < 256 := Nat.xor_lt_two_pow (n := 8) (by have := x.toNat_lt; omega) (by omega)
  have e : (90 : UInt8).toNat = 90 := rfl
  rw [IntKind.wrap_u8, e]
  omega

set_option maxHeartbeats 1000000 in
set_option maxRecDepth 20000 in
theorem spoil_any (p : Option Addr) (n c base : Nat) (w : World) (hn : n ≤ 9223372036854775807) (h : ByteRow w base p n) :
    Calls Tryd.prog 23 #[.slice p n c] w fun e w' => (∃ v, e = .returned v) ∧ Below base w w' ∧ Blur w w' := by
  have HN := Lib.hid hn
  clear hn
  go_enter Tryd.func23, Tryd.ntmps23
  go_wp2
  go_loopw [5] (fun i wr => ∃ k : Nat, k ≤ n ∧ i = .int .i64 k ∧ Below base w wr ∧ Blur w wr) (fun i _ => n - (intOf i).toNat)
  case atStart => exact ⟨0, Nat.zero_le _, rfl, Below.refl _ _, Blur.refl _⟩
  case round =>
    obtain ⟨k, hk, rfl, hB, hL⟩ := hrel
    by_cases hlt : k < n
    · obtain ⟨b, o, rfl, hbb, hc⟩ := h.blur hL (by omega)
      obtain ⟨x, hx, hf⟩ := hc k hlt
      have HX := Lib.hid (xor8 x)
      have HS := Lib.hid (Blur.set (y := x ^^^ 90) hx)
      clear hc h
      unfold B8 at hx
      go_wp2
      refine ⟨⟨k + 1, by omega, by rw [wrapS hlt HN.out], hB.setCell (p := ⟨b, o + k, none⟩) hbb _, by rw [HX.out]; exact hL.trans HS.out⟩, ?_⟩
      rw [wrapS hlt HN.out]; simp [intOf]; omega
    · obtain rfl : k = n := by omega
      go_wp2
      go_end0
      exact ⟨⟨_, rfl⟩, hB, hL⟩
end Go.Proofs.YtefalhnllkkkhaaDoor
