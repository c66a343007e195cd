/- The walk of the law PageTurned. -/
import Derived.Test.YtefalhnllkkkhaaDoorPageDoor
namespace Go.Proofs.YtefalhnllkkkhaaDoor
open Go.RowKit
set_option linter.unusedVariables false

theorem u64_wrap_range (k : Int) : 0 ≤ IntKind.u64.wrap k ∧ IntKind.u64.wrap k < 18446744073709551616 := by
  simp [IntKind.wrap, IntKind.bits, IntKind.signed]
  omega
theorem idx128 (k : Int) : ∃ I : Nat, wrap64 ((IntKind.u64.wrap k).tmod 128) = (I : Int) ∧ I < 128 := by
  have h := u64_wrap_range k
  generalize IntKind.u64.wrap k = z at *
  have e : z.tmod 128 = z % 128 := Int.tmod_eq_emod_of_nonneg h.1
  refine ⟨(z % 128).toNat, ?_, by omega⟩
  rw [e]
  unfold wrap64
  omega

theorem cell_of {w : World} {g i : Nat} {xs : List UInt8} {cur : List Value} (h : w.heap[g]? = some (.cells (B8s xs ++ cur).toArray 5 (0, 0))) (hi : i < xs.length) : w.cell? ⟨g, i, none⟩ = some (B8 xs[i]) := by
  simp only [World.cell?, h]
  simp [B8s, List.getElem?_append_left, hi]
theorem frozen_of {w : World} {g i : Nat} {c : Array Value} {t : TypeId} (h : w.heap[g]? = some (.cells c t (0, 0))) : w.frozen? ⟨g, i, none⟩ = false := by
  simp [World.frozen?, h]

theorem set_cells {w : World} {g i : Nat} {xs : List UInt8} {cur : List Value} {y : UInt8} (h : w.heap[g]? = some (.cells (B8s xs ++ cur).toArray 5 (0, 0))) (hi : i < xs.length) :
    (w.setCell ⟨g, i, none⟩ (B8 y)).heap[g]? = some (.cells (B8s (xs.set i y) ++ cur).toArray 5 (0, 0)) := by
  simp only [World.setCell, Array.getElem?_modify, if_pos, h, Option.map_some]
  have e : (B8s xs ++ cur).set i (B8 y) = B8s (xs.set i y) ++ cur := by
    rw [List.set_append_left _ _ (by rw [B8s_length]; exact hi)]
    simp [B8s, List.map_set]
  simp [e]
theorem mask_ex (b : Int) : ∃ M : Nat, IntKind.u64.wrap (1 + (IntKind.u64.wrap b).tmod 255) % 256 = (M : Int) ∧ 1 ≤ M ∧ M < 256 := by
  have h := u64_wrap_range b
  generalize IntKind.u64.wrap b = z at *
  have e : z.tmod 255 = z % 255 := Int.tmod_eq_emod_of_nonneg h.1
  refine ⟨(1 + z % 255).toNat, ?_, by omega, by omega⟩
  rw [e]
  simp [IntKind.wrap, IntKind.bits, IntKind.signed]
  omega
theorem flip_ex (x : UInt8) (M : Nat) (h1 : 1 ≤ M) (h2 : M < 256) : ∃ y : UInt8, bits .xor .u8 (x.toNat : Int) (M : Int) = (y.toNat : Int) ∧ y ≠ x := by
  have hx := x.toNat_lt
  have hlt : x.toNat ^^^ M < 256 := Nat.xor_lt_two_pow (n := 8) (by omega) (by omega)
  refine ⟨UInt8.ofNat (x.toNat ^^^ M), ?_, fun e => ?_⟩
  · show IntKind.u8.wrap (((BitVec.ofInt 8 (x.toNat : Int) ^^^ BitVec.ofInt 8 (M : Int)).toNat : Nat) : Int) = _
    rw [BitVec.ofInt_natCast, BitVec.ofInt_natCast, BitVec.toNat_xor, BitVec.toNat_ofNat, BitVec.toNat_ofNat, Nat.mod_eq_of_lt (a := x.toNat) (by omega), Nat.mod_eq_of_lt (a := M) (by omega), UInt8.toNat_ofNat_of_lt' hlt]
    simp [IntKind.wrap, IntKind.bits, IntKind.signed]
    omega
  · have e2 := congrArg UInt8.toNat e
    rw [UInt8.toNat_ofNat_of_lt' hlt] at e2
    have e3 : x.toNat ^^^ (x.toNat ^^^ M) = x.toNat ^^^ x.toNat := by rw [e2]
    rw [← Nat.xor_assoc, Nat.xor_self, Nat.zero_xor] at e3
    omega

set_option maxHeartbeats 1000000 in
set_option maxRecDepth 20000 in
theorem pageTurned_walk (lsn : Int) (a1 : Option Addr) (n1 c1 : Nat) (xs : List UInt8) (k b : Int) (w : World) (hT : Halves w)
    (hx : xs.length = n1) (hr : Rd w a1 xs) (hc : n1 ≤ c1) (hm : c1 ≤ maxLen) :
    Calls Tryd.prog 5 #[.int .i64 lsn, .slice a1 n1 c1, .int .i64 k, .int .i64 b] w fun e w' => e = .returned (.bool true) ∧ Below w.heap.size w w' := by
  have HX := Lib.hid hx
  have HM := Lib.hid hm
  have HT := Lib.hid hT
  by_cases h : eok lsn n1
  · obtain ⟨l, rfl, hl, rfl⟩ := eok_nat h
    have HOK := Lib.hid h
    have HL := Lib.hid hl
    clear hx hm hT h hl
    by_cases hl1 : (l : Int) < 1
    · go_enter Tryd.func5, Tryd.ntmps5
      go_wp2_with fail
      refine (encode_ok l a1 112 c1 xs _ HX.out hr hc HM.out HT.out HOK.out).mono ?_
      rintro e w1 ⟨v1, rfl, hown1, hb1⟩
      clear hown1
      go_wp2_with fail
      refine (refencode_ok l a1 112 c1 xs _ HX.out (hr.below hb1) hc HM.out HOK.out).mono ?_
      rintro e w2 ⟨v2, rfl, hown2, hb2⟩
      have hb02 : Below w.heap.size w w2 := hb1.trans (hb2.mono hb1.size)
      clear hown2
      go_wp2
      go_ret
      exact ⟨rfl, hb02⟩
    · have HE : Hid (encV l xs = sector l xs) := Lib.hid (by unfold encV; rw [if_neg (by omega)])
      go_enter Tryd.func5, Tryd.ntmps5
      go_wp2_with fail
      refine (encode_ok l a1 112 c1 xs _ HX.out hr hc HM.out HT.out HOK.out).mono ?_
      rintro e w1 ⟨v1, rfl, hown1, hb1⟩
      rw [HE.out] at hown1
      obtain ⟨g, cap, cur, rfl, hg, hh, hxs, hcc, hmm⟩ := own8 hown1 (by omega)
      have HH := Lib.hid hh
      clear hown1 hh
      obtain ⟨I, hI, hI1⟩ : ∃ I : Nat, wrap64 ((IntKind.u64.wrap k).tmod 128) = (I : Int) ∧ I < 128 := idx128 k
      have hI2 : (I : Int) < 128 := by omega
      have HXS := Lib.hid hxs
      have hx0 : I < (sector l xs).length := by rw [hxs]; exact hI1
      have kI : w1.cell? ⟨g, I, none⟩ = some (.int .u8 (((sector l xs)[I]).toNat : Int)) := cell_of HH.out hx0
      have fI : w1.frozen? ⟨g, I, none⟩ = false := frozen_of HH.out
      clear hxs
      go_wp2_with fail
      obtain ⟨M, hM, hM1, hM2⟩ := mask_ex b
      rw [hM]
      obtain ⟨y, hy, hyx⟩ := flip_ex (sector l xs)[I] M hM1 hM2
      rw [hy]
      have hset := set_cells (y := y) HH.out hx0
      have hbs : Below w.heap.size w (w1.setCell ⟨g, I, none⟩ (B8 y)) := hb1.setCell (p := ⟨g, I, none⟩) hg _
      have htn := turned (y := y) HX.out (show 1 ≤ l by omega) HL.out hI1 hyx
      have HTN := Lib.hid htn
      have hxs2 : ((sector l xs).set I y).length = 128 := by rw [List.length_set]; exact HXS.out
      have HXS2 := Lib.hid hxs2
      have hrd : Rd (w1.setCell ⟨g, I, none⟩ (B8 y)) (some ⟨g, 0, none⟩) ((sector l xs).set I y) := fun _ => ⟨g, 0, rfl, fun i v hv => by
        have hi : i < (B8s ((sector l xs).set I y)).length := (List.getElem?_eq_some_iff.1 hv).1
        simp only [World.cell?, hset, Nat.zero_add]
        simp [List.getElem?_append_left hi, hv]⟩
      clear htn hxs2 hM hy hyx
      refine (decode_any _ 128 cap ((sector l xs).set I y) (w1.setCell ⟨g, I, none⟩ (B8 y)) HXS2.out hrd (by omega) hmm (HT.out.below hbs)).mono ?_
      rintro e w3 ⟨hq, hb3⟩
      have hb03 : Below w.heap.size w w3 := hbs.trans (hb3.mono hbs.size)
      rcases hq with ⟨h0, _⟩ | ⟨hne, rfl⟩
      · exact absurd h0 HTN.out
      · have hE : ((decE ((sector l xs).set I y) : Int) != 0) = true := by simpa using hne
        clear hne hrd hset
        generalize (decE ((sector l xs).set I y) : Int) = E at *
        go_wp2
        go_ret
        exact ⟨rfl, hb03⟩
  · go_enter Tryd.func5, Tryd.ntmps5
    go_wp2_with fail
    refine (encode_bad lsn a1 n1 c1 _ h).mono ?_
    rintro e w1 ⟨rfl, rfl⟩
    go_wp2_with fail
    refine (refencode_bad lsn a1 n1 c1 _ h).mono ?_
    rintro e w2 ⟨rfl, rfl⟩
    go_wp2
    go_ret
    exact ⟨rfl, Below.refl _ _⟩
end Go.Proofs.YtefalhnllkkkhaaDoor
