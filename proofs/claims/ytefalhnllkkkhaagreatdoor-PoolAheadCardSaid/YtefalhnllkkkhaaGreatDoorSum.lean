/- The check sum: wire.Sum by a table of half bytes, the document's bit by bit. -/
import Derived.Test.YtefalhnllkkkhaaGreatDoorKit
import Derived.Test.YtefalhnllkkkhaaGreatDoorCrc
import Derived.Outline
namespace Go.Proofs.YtefalhnllkkkhaaGreatDoor
open Go.RowKit
set_option linter.unusedVariables false

theorem rd_cell {w : World} {p : Option Addr} {xs : List UInt8} (h : Rd w p xs) {k : Nat} (hk : k < xs.length) :
    ∃ b o, p = some ⟨b, o, none⟩ ∧ w.cell? ⟨b, o + k, none⟩ = some (B8 xs[k]) := by
  obtain ⟨b, o, e, hc⟩ := h.at (by omega)
  exact ⟨b, o, e, hc k hk⟩

/-- The table of half bytes as the program's text lays it. -/
def Halves (w : World) : Prop := ∀ i : Nat, w.cell? ⟨0, M16 i, none⟩ = some (.int .u32 ((tab (M16 i) : Nat) : Int))
theorem Halves.below {w w' : World} (h : Halves w) (hb : Below w.heap.size w w') : Halves w' := fun i => (hb.cell (cell_lt (h i))).trans (h i)
theorem Halves.drewN {w : World} (h : Halves w) (n : Nat) : Halves (w.drewN n) := h

theorem crc_take {xs : List UInt8} {k : Nat} (hk : k < xs.length) : crcN (xs.take (k + 1)) = byteN (crcN (xs.take k)) (xs[k]).toNat := by
  rw [List.take_succ_eq_append_getElem hk, crcN_snoc]

set_option maxHeartbeats 400000 in
theorem sum_any (p : Option Addr) (n c : Nat) (xs : List UInt8) (w : World) (hx : xs.length = n) (h1 : Rd w p xs) (hm : n ≤ maxLen) (hT : Halves w) :
    Calls Tryz.prog 66 #[.slice p n c] w fun e w' => e = .returned (.int .u32 (sumN xs)) ∧ w = w' := by
  unfold maxLen at hm
  have hT' : ∀ i : Nat, w.cell? ⟨0, M16 i, none⟩ = some (.int .u32 ((tab (M16 i) : Nat) : Int)) := hT
  clear hT
  have bx := bits_xor32
  have ba := bits_and15
  have bd : ∀ a : Nat, (a : Int) / 16 = ((D16 a : Nat) : Int) := fun a => by unfold D16; omega
  have bm : ∀ a : Nat, ((M16 a : Nat) : Int) < 16 := fun a => by unfold M16; omega
  have b1 : ∀ a b : Nat, ((X32 a b : Nat) : Int) ≤ 4294967295 := fun a b => by have := X32_lt a b; omega
  have HX := Lib.hid hx
  clear hx
  go_enter Tryz.func66, Tryz.ntmps66
  go_wp2
  go_loop [3, 8] (fun v i => ∃ k : Nat, k ≤ n ∧ i = .int .i64 k ∧ v = .int .u32 ((crcN (xs.take k) : Nat) : Int)) (fun _ i => n - (intOf i).toNat)
  case atStart => exact ⟨0, Nat.zero_le _, rfl, rfl⟩
  case round =>
    obtain ⟨k, hk, rfl, rfl⟩ := hrel
    have hcl := crcN_lt (xs.take k)
    by_cases hlt : k < n
    · have hkl : k < xs.length := by rw [HX.out]; exact hlt
      obtain ⟨b, o, rfl, k1⟩ := rd_cell h1 (k := k) hkl
      have HC := Lib.hid (crc_take hkl)
      have hu := (xs[k]).toNat_lt
      unfold B8 at k1
      generalize (xs[k]).toNat = u at *
      generalize crcN (xs.take k) = c0 at *
      have hu2 : (u : Int) % 4294967296 = u := by omega
      clear hcl hu
      go_wp2
      go_round
      case rel => exact ⟨k + 1, by omega, by go_num, by rw [HC.out]; rfl⟩
      case measure => simp [intOf]; omega
    · have e : xs.take k = xs := List.take_of_length_le (by rw [HX.out]; omega)
      rw [e] at hcl ⊢
      go_wp2
      go_ret
      refine ⟨?_, rfl⟩
      have e2 : bits .xor .u32 IntKind.u32.max ((crcN xs : Nat) : Int) = ((sumN xs : Nat) : Int) := by
        rw [show (IntKind.u32.max : Int) = ((4294967295 : Nat) : Int) from rfl, bits_xor32]
        unfold sumN X32
        rw [Nat.xor_comm]
      exact congrArg (fun z => Ending.returned (.int .u32 z)) e2

set_option maxHeartbeats 1000000 in
theorem refsum_any (p : Option Addr) (n c : Nat) (xs : List UInt8) (w : World) (hx : xs.length = n) (h1 : Rd w p xs) (hm : n ≤ maxLen) :
    Calls Tryz.prog 40 #[.slice p n c] w fun e w' => e = .returned (.int .u32 (sumN xs)) ∧ w = w' := by
  unfold maxLen at hm
  have bx := bits_xor32
  have ba := bits_and1
  have bd : ∀ a : Nat, (a : Int) / 2 = ((D2 a : Nat) : Int) := fun a => by unfold D2; omega
  have b1 : ∀ a b : Nat, ((X32 a b : Nat) : Int) ≤ 4294967295 := fun a b => by have := X32_lt a b; omega
  have bp : ∀ a : Nat, bits .xor .u32 (a : Int) 3988292384 = ((X32 a 3988292384 : Nat) : Int) := fun a => bits_xor32 a 3988292384
  have bq : ∀ a : Nat, bits .xor .u32 (a : Int) 4294967295 = ((X32 a 4294967295 : Nat) : Int) := fun a => bits_xor32 a 4294967295
  have HX := Lib.hid hx
  clear hx
  go_enter Tryz.func40, Tryz.ntmps40
  go_wp2
  go_loop [3, 9] (fun v i => ∃ k : Nat, k ≤ n ∧ i = .int .i64 k ∧ v = .int .u32 ((crcN (xs.take k) : Nat) : Int)) (fun _ i => n - (intOf i).toNat)
  case atStart => exact ⟨0, Nat.zero_le _, rfl, rfl⟩
  case round =>
    obtain ⟨k, hk, rfl, rfl⟩ := hrel
    have hcl := crcN_lt (xs.take k)
    by_cases hlt : k < n
    · have hkl : k < xs.length := by rw [HX.out]; exact hlt
      obtain ⟨b, o, rfl, k1⟩ := rd_cell h1 (k := k) hkl
      have HC := Lib.hid (crc_take hkl)
      have hu := (xs[k]).toNat_lt
      unfold B8 at k1
      generalize (xs[k]).toNat = u at *
      generalize crcN (xs.take k) = c0 at *
      have hu2 : (u : Int) % 4294967296 = u := by omega
      clear hcl hu
      go_wp2
      go_loop [3, 17] (fun v i => ∃ (j c1 : Nat), j ≤ 8 ∧ i = .int .i64 j ∧ v = .int .u32 (c1 : Int) ∧ Hid (c1 = bitsN j (X32 c0 u)) ∧ c1 < 4294967296) (fun _ i => 8 - (intOf i).toNat)
      case atStart => exact ⟨0, _, by omega, rfl, rfl, Lib.hid rfl, X32_lt _ _⟩
      case round =>
        obtain ⟨j, c1, hj, rfl, rfl, HB, hl1⟩ := hrel
        by_cases hj8 : j < 8
        · rcases Nat.mod_two_eq_zero_or_one c1 with h2 | h2
          · have hz : (((c1 % 2 : Nat) : Int) == 1) = false := by rw [beq_eq_false_iff_ne]; omega
            have HN := Lib.hid (show D2 c1 = bitsN (j + 1) (X32 c0 u) from by show _ = bitN (bitsN j _); rw [← HB.out]; unfold bitN; rw [if_neg (by omega)])
            have HL : Hid (D2 c1 < 4294967296) := Lib.hid (by unfold D2; omega)
            clear h2
            go_wp2
            go_round
            case rel => exact ⟨j + 1, D2 c1, by omega, by go_num, rfl, HN, HL.out⟩
            case measure => simp [intOf]; omega
          · have hz : (((c1 % 2 : Nat) : Int) == 1) = true := by rw [beq_iff_eq]; omega
            have HN := Lib.hid (show X32 (D2 c1) 3988292384 = bitsN (j + 1) (X32 c0 u) from by show _ = bitN (bitsN j _); rw [← HB.out]; unfold bitN; rw [if_pos h2])
            clear h2
            go_wp2
            go_round
            case rel => exact ⟨j + 1, _, by omega, by go_num, rfl, HN, X32_lt _ _⟩
            case measure => simp [intOf]; omega
        · obtain rfl : j = 8 := by omega
          go_wp2
          go_round
          case rel => exact ⟨k + 1, by omega, by go_num, by rw [HC.out, byte_bits, byteB, ← HB.out]⟩
          case measure => simp [intOf]; omega
    · have e : xs.take k = xs := List.take_of_length_le (by rw [HX.out]; omega)
      rw [e] at hcl ⊢
      go_wp2
      go_ret
      exact ⟨rfl, rfl⟩
end Go.Proofs.YtefalhnllkkkhaaGreatDoor
