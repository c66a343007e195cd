/- Numbers as so many digits: session.digits and the document's; the key of a piece. -/
import Derived.Test.YtefalhnllkkkhaaDoorRoot
namespace Go.Proofs.YtefalhnllkkkhaaDoor
open Go.RowKit
set_option linter.unusedVariables false

/-- The last so many digits of a number. -/
def padN : Nat → Nat → List UInt8
  | _, 0 => []
  | n, k + 1 => padN (n / 10) k ++ [UInt8.ofNat (48 + n % 10)]
theorem padN_length : ∀ k n, (padN n k).length = k
  | 0, _ => rfl
  | k + 1, n => by simp [padN, padN_length k]
theorem padN_zero : ∀ k, padN 0 k = List.replicate k 48
  | 0 => rfl
  | k + 1 => by rw [padN, padN_zero k, List.replicate_succ']; rfl
theorem decDigits_small {n : Nat} (h : n < 10) : Lib.decDigits n = [UInt8.ofNat (48 + n)] := by rw [Lib.decDigits, dif_pos h]
theorem decDigits_big {n : Nat} (h : ¬ n < 10) : Lib.decDigits n = Lib.decDigits (n / 10) ++ [UInt8.ofNat (48 + n % 10)] := by rw [Lib.decDigits, dif_neg h]
theorem decDigits_le : ∀ k n, n < 10 ^ (k + 1) → (Lib.decDigits n).length ≤ k + 1
  | 0, n, h => by rw [decDigits_small (by omega)]; simp
  | k + 1, n, h => by
    by_cases h10 : n < 10
    · rw [decDigits_small h10]; simp
    · rw [decDigits_big h10]
      have := decDigits_le k (n / 10) (Nat.div_lt_of_lt_mul (by rw [Nat.pow_succ] at h; omega))
      simp
      omega
theorem padN_dec : ∀ k n, n < 10 ^ (k + 1) → padN n (k + 1) = List.replicate (k + 1 - (Lib.decDigits n).length) 48 ++ Lib.decDigits n
  | 0, n, h => by
    have h10 : n < 10 := by omega
    rw [decDigits_small h10]
    simp [padN, Nat.mod_eq_of_lt h10]
  | k + 1, n, h => by
    by_cases h10 : n < 10
    · rw [decDigits_small h10, padN, Nat.div_eq_of_lt h10, padN_zero, Nat.mod_eq_of_lt h10]
      simp
    · have hlt : n / 10 < 10 ^ (k + 1) := Nat.div_lt_of_lt_mul (by rw [Nat.pow_succ] at h; omega)
      rw [decDigits_big h10, padN, padN_dec k (n / 10) hlt, List.append_assoc]
      congr 2
      simp
theorem repeat48 : ∀ c, Lib.repeatL [48] c = List.replicate c 48
  | 0 => rfl
  | c + 1 => by rw [Lib.repeatL, repeat48 c, List.replicate_succ]; rfl

def padB (n k : Nat) : ByteArray := ⟨(padN n k).toArray⟩

/-- The powers of ten as the library's text lays them. -/
def Tens (w : World) : Prop := Lib.TabIs Tryd.prog w "internal/strconv.uint64pow10" .u64 Lib.pow10Tab

theorem below_grow {w : World} (kk : Nat) (os : Array Obj) : Below w.heap.size w (Sort.grow (w.drewN kk) os) :=
  ⟨rfl, rfl, rfl, by simp [Sort.grow], fun k hk => by simp [Sort.grow, Array.getElem?_append, hk]⟩

set_option maxHeartbeats 1000000 in
set_option maxRecDepth 20000 in
theorem digits_any (n d : Nat) (w : World) (hn : n < 10 ^ d) (hd1 : 1 ≤ d) (hd2 : d ≤ 11) (hT : Tens w) :
    Calls Tryd.prog 51 #[.int .i64 n, .int .i64 d] w fun e w' => e = .returned (.string (padB n d)) ∧ Below w.heap.size w w' := by
  obtain ⟨k, rfl⟩ : ∃ k, d = k + 1 := ⟨d - 1, by omega⟩
  have hl := decDigits_le k n hn
  have hp := padN_dec k n hn
  have hn2 : (n : Int) ≤ 9223372036854775807 := by
    have : 10 ^ (k + 1) ≤ 10 ^ 11 := Nat.pow_le_pow_right (by omega) hd2
    omega
  have hi : Lib.itoa (n : Int) = Lib.decDigits n := by unfold Lib.itoa; rw [if_neg (by omega)]; rfl
  have HT := Lib.hid hT
  have HI := Lib.hid hi
  have HN := Lib.hid hn2
  obtain ⟨ds, hds⟩ : ∃ ds : ByteArray, ds = ⟨(Lib.decDigits n).toArray⟩ := ⟨_, rfl⟩
  have hsz : ds.size = (Lib.decDigits n).length := by rw [hds]; rfl
  obtain ⟨c, hc⟩ : ∃ c, c = k + 1 - ds.size := ⟨_, rfl⟩
  have hcs : c + ds.size = k + 1 := by omega
  have hE : (⟨(Lib.repeatL (⟨#[48]⟩ : ByteArray).data.toList c).toArray⟩ : ByteArray) ++ ds = padB n (k + 1) := by
    rw [cat_two]
    unfold catB padB
    congr 2
    rw [hp, ← hsz, ← hc, ← repeat48 c, hds]
    simp
  have HE := Lib.hid hE
  have HD := Lib.hid hds
  obtain ⟨d, hd⟩ : ∃ d, d = k + 1 := ⟨_, rfl⟩
  rw [← hd] at hcs HE
  rw [← hd]
  have hcd : (d : Int) - (ds.size : Int) = (c : Int) := by omega
  have hc11 : c ≤ 11 := by omega
  have hd11 : (d : Int) ≤ 11 := by omega
  have hs11 : (ds.size : Int) ≤ 11 := by omega
  clear hn hp hi hT hn2 hl hd2 hd1 hsz hc hE hds hd
  go_enter Tryd.func51, Tryd.ntmps51
  go_wp2_with fail
  refine (Tryd.strconv_Itoa n (by omega) HN.out _ HT.out).mono ?_
  rintro e w1 ⟨rfl, kk, os, rfl⟩
  rw [HI.out, ← HD.out]
  have hb : Below w.heap.size w (Sort.grow (w.drewN kk) os) := below_grow kk os
  obtain ⟨w1, hw1⟩ : ∃ w1, w1 = Sort.grow (w.drewN kk) os := ⟨_, rfl⟩
  rw [← hw1] at hb ⊢
  clear hw1
  go_wp2_with fail
  refine (Tryd.strings_Repeat ⟨#[48]⟩ c _ (by omega) (by show 1 * c ≤ _; omega)).mono ?_
  rintro e w2 ⟨rfl, hb2⟩
  obtain ⟨rs, hrs⟩ : ∃ rs : ByteArray, rs = ⟨(Lib.repeatL (⟨#[48]⟩ : ByteArray).data.toList c).toArray⟩ := ⟨_, rfl⟩
  have hrz : rs.size = c := by
    rw [hrs]
    show (Lib.repeatL [48] c).toArray.size = c
    rw [repeat48]
    simp
  have HE2 : Hid (rs ++ ds = padB n d) := Lib.hid (by rw [hrs]; exact HE.out)
  rw [← hrs]
  have hb02 : Below w.heap.size w w2 := chain2 hb hb2
  clear hrs hb2
  go_wp2
  go_ret
  exact ⟨by rw [← HE2.out]; rfl, hb02⟩

theorem Tens.below {w w' : World} (h : Tens w) (hb : Below w.heap.size w w') : Tens w' := by
  unfold Tens Lib.TabIs at *
  unfold World.var? at *
  obtain ⟨g, hg, h⟩ := Option.bind_eq_some_iff.1 h
  refine Option.bind_eq_some_iff.2 ⟨g, hg, ?_⟩
  split at h
  · rename_i cs t fr hc
    rw [hb.block g (Array.getElem?_eq_some_iff.1 hc).1, hc]
    exact h
  · cases h

theorem pad_cat (n k : Nat) : (⟨#[UInt8.ofNat (48 + n % 10)]⟩ : ByteArray) ++ padB (n / 10) 0 = padB n 1 := by
  rw [cat_two]
  simp [catB, padB, padN]

set_option maxHeartbeats 1000000 in
set_option maxRecDepth 20000 in
theorem refdigits_any (n d : Nat) (w : World) (hd : d ≤ 11) (hn : n ≤ 1000000) :
    Calls Tryd.prog 52 #[.int .i64 n, .int .i64 d] w fun e w' => e = .returned (.string (padB n d)) ∧ Below w.heap.size w w' := by
  have HN := Lib.hid hn
  clear hn
  go_enter Tryd.func52, Tryd.ntmps52
  go_wp2
  go_loopw [0, 5, 7] (fun m v i wr => ∃ (j M : Nat) (s : ByteArray), j ≤ d ∧ i = .int .i64 j ∧ m = .int .i64 M ∧ M ≤ 1000000 ∧ v = .string s ∧ Hid (padN n d = padN M (d - j) ++ strB s) ∧ Hid (s.size = j) ∧ Below w.heap.size w wr) (fun _ _ i _ => d - (intOf i).toNat)
  case atStart => exact ⟨0, n, ⟨#[]⟩, Nat.zero_le _, rfl, rfl, HN.out, rfl, Lib.hid (by simp [strB]), Lib.hid rfl, Below.refl _ _⟩
  case round =>
    obtain ⟨j, M, s, hj, rfl, rfl, hM, rfl, HE, HS, hb⟩ := hrel
    have hs11 : s.size ≤ 11 := by have := HS.out; omega
    by_cases hlt : j < d
    · obtain ⟨y, hy⟩ : ∃ y, y = UInt8.ofNat (48 + M % 10) := ⟨_, rfl⟩
      have hyv : (B8s [y]).toArray = #[Value.int .u8 (48 + (M : Int) % 10)] := by
        rw [hy]
        show #[Value.int .u8 ((UInt8.ofNat (48 + M % 10)).toNat : Int)] = _
        rw [UInt8.toNat_ofNat_of_lt' (show 48 + M % 10 < UInt8.size by unfold UInt8.size; omega)]
        rfl
      have hcv := (rd_new wr [y]).convert (n := 1) rfl 1 22 5 9 Tryd.underlying22 Tryd.underlying5 Tryd.underlying9
      rw [hyv] at hcv
      obtain ⟨ys, hys⟩ : ∃ ys : ByteArray, ys = ⟨[y].toArray⟩ := ⟨_, rfl⟩
      rw [← hys] at hcv
      have hsy : ys.size = 1 := by rw [hys]; rfl
      have HE2 : Hid (padN n d = padN (M / 10) (d - (j + 1)) ++ strB (ys ++ s)) := Lib.hid (by
        rw [HE.out, show d - j = (d - (j + 1)) + 1 from by omega, padN, List.append_assoc]
        congr 1
        rw [← hy, hys]
        simp [strB, ByteArray.data_append])
      have HS2 : Hid ((ys ++ s).size = j + 1) := Lib.hid (by rw [ByteArray.size_append, hsy, HS.out]; omega)
      clear hy hyv hys HE
      go_wp2
      go_roundw
      case rel => exact ⟨j + 1, M / 10, ys ++ s, by omega, by go_num, by go_num, by omega, rfl, HE2, HS2, hb.alloc hb.size _⟩
      case measure => simp [intOf]; omega
    · obtain rfl : j = d := by omega
      go_wp2
      go_ret
      refine ⟨?_, hb⟩
      rw [show padB n j = s from by
        unfold padB
        rw [HE.out, Nat.sub_self]
        simp [padN, strB]]
      rfl
end Go.Proofs.YtefalhnllkkkhaaDoor
