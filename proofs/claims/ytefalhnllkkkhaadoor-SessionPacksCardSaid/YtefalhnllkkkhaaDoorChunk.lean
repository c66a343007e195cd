/- slices.Chunk of bytes: what its iterator hands out. -/
import Derived.RangeFuncBox
import Derived.RangeFuncLeaves
import Derived.RangeFuncNested
import Derived.RangeFuncBound
import Derived.RangeFuncCalls
import Derived.Shelf.Abstract
import Derived.Shelf.RegionOpen
import Derived.WalkKit
import Derived.OwnWalkIn
import Derived.TacticsInMore
import Derived.LoopNIn
import Derived.LoopIn
import Derived.Test.YtefalhnllkkkhaaDoorInsert
namespace Go.Proofs.YtefalhnllkkkhaaDoor
open Go.RowKit Go.Shelf
set_option linter.unusedVariables false
attribute [local go_sem] Oper.semAt_some

/-- The k-th chunk of so many bytes from an address on. -/
def chunkV (b off len k : Nat) : Value := .slice (some ⟨b, off + 1400 * k, none⟩) (min 1400 (len - 1400 * k)) (min 1400 (len - 1400 * k))
def upto (k : Nat) : List Nat := List.range k
theorem upto_succ (k : Nat) : upto (k + 1) = upto k ++ [k] := List.range_succ

set_option maxRecDepth 100000 in
set_option maxHeartbeats 2000000 in
theorem chunk1_in (F : Fence) (n : Nat) (hf : F.fn 48) (hro : F.round = none) (hn : 1 ≤ n) (l Bs Bn n₀ b off len cap K : Nat) (hK : K = (len + 1399) / 1400) (hlen : len ≤ 140737488351232) (hcap : len ≤ cap) (hcm : cap ≤ 9223372036854775807) (hB1 : Bs < n₀) (hB2 : Bn < n₀)
    (J Jx : List Nat → World → Prop)
    (hJd : ∀ pre W, J pre W → J pre W.drew)
    (hY : ∀ pre x W, J pre W → pre.length < K → YieldAt F (n - 1) Tryd.prog l #[chunkV b off len x] W fun e W' =>
      (e = .returned (.bool true) ∧ J (pre ++ [x]) W' ∧ Below n₀ W W') ∨ (e = .returned (.bool false) ∧ Jx (pre ++ [x]) W'))
    (W : World) (hBs : W.cell? ⟨Bs, 0, none⟩ = some (.slice (some ⟨b, off, none⟩) len cap)) (hBn : W.cell? ⟨Bn, 0, none⟩ = some (.int .i64 1400)) (h0 : J [] W) :
    CallsIn F n Tryd.prog 48 #[.func (.yield l) #[] #[], .pointer (some ⟨Bs, 0, none⟩), .pointer (some ⟨Bn, 0, none⟩)] W fun e W' => (∃ v, e = .returned v) ∧
      (J (upto K) W' ∨ (∃ k, k ≤ K ∧ Jx (upto k) W')) := by
  refine callsIn_of_wp Tryd.func48 rfl hf ?_ hro
  simp only [Tryd.ntmps48, List.size_toArray, List.length_cons, List.length_nil, Nat.reduceAdd, Nat.reduceSub, Array.replicate_succ, Array.replicate_zero, List.push_toArray, List.append_toArray, List.nil_append, List.cons_append]
  gi_wp2
  gi_loopw [4] (fun i wr => ∃ (k i' : Nat), k ≤ K ∧ i' = 1400 * k ∧ i = .int .i64 i' ∧ J (upto k) wr ∧ Below n₀ W wr) (fun i _ => len + 1400 - (intOf i).toNat)
  case atStart => exact ⟨0, 0, Nat.zero_le _, rfl, rfl, h0, Below.refl _ _⟩
  case round =>
    obtain ⟨k, i', hk, hi, rfl, hJs, hnx⟩ := hrel
    have hBs' := (hnx.cell (p := ⟨Bs, 0, none⟩) hB1).trans hBs
    have hBn' := (hnx.cell (p := ⟨Bn, 0, none⟩) hB2).trans hBn
    by_cases hlt : i' < len
    · have hkK : k < K := by omega
      obtain ⟨fn, tmps, assign, body, hy, hR⟩ := hY _ k wr.drew (hJd _ _ hJs) (by unfold upto; rw [List.length_range]; exact hkK)
      obtain ⟨e', he'⟩ : ∃ e' : Nat, e' = min 1400 (len - i') := ⟨_, rfl⟩
      have hmin : min (1400 : Int) ((len - i' : Nat) : Int) = (e' : Int) := by omega
      have he1 : i' + e' ≤ len := by omega
      have he0 : 0 < e' := by omega
      unfold chunkV at hy
      rw [← hi, ← he'] at hy
      have mixed : Tryd.prog.follows Departure.mixedOrders = true := by kernel_rfl
      have HI := Lib.hid hi
      have HE := Lib.hid he'
      clear hi he'
      have hni : (0 : Int) ≤ (i' : Int) := by omega
      have hnl : (i' : Int) ≤ (len : Int) := by omega
      have hci : (cap = i') = False := eq_false (by omega)
      gi_wp2
      have HLE : Hid (i' ≤ 140737488351232) := Lib.hid (by omega)
      have HKK := Lib.hid hkK
      gi_region_o
      all_goals gi_wp2
      all_goals refine hR.mono ?_
      all_goals rintro e W3 (⟨rfl, hJ3, hk3⟩ | ⟨rfl, hJx3⟩)
      any_goals have hBn3 := (hk3.cell (p := ⟨Bn, 0, none⟩) hB2).trans hBn'
      all_goals gi_wp2
      all_goals first
        | exact ⟨⟨k + 1, i' + 1400, HKK.out, by rw [HI.out]; omega, by congr 1, by rw [upto_succ]; exact hJ3, (hnx.drew).trans hk3⟩, by simp [intOf]; omega⟩
        | exact bodyPost_ret (results_none rfl _ _ _) rfl ⟨⟨_, rfl⟩, .inr ⟨k + 1, HKK.out, by rw [upto_succ]; exact hJx3⟩⟩
    · obtain rfl : k = K := by omega
      gi_wp2
      go_end0
      exact ⟨⟨_, rfl⟩, .inl hJs⟩
end Go.Proofs.YtefalhnllkkkhaaDoor
