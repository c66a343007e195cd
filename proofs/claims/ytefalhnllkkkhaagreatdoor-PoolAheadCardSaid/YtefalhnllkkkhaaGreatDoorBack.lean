/- slices.Backward of what is pending: what its iterator hands out. -/
import Derived.RangeFuncBox
import Derived.RangeFuncLeaves
import Derived.RangeFuncNested
import Derived.RangeFuncBound
import Derived.RangeFuncCalls
import Derived.Shelf.Abstract
import Derived.Shelf.RegionOpen
import Derived.WalkKit
import Derived.OwnWalkIn
import Derived.TacticsInMore
import Derived.LoopNIn
import Derived.LoopIn
import Derived.RangeFuncFrom
import Derived.Maps.AppendAt
import Derived.Test.YtefalhnllkkkhaaGreatDoorDiskFlush
namespace Go.Proofs.YtefalhnllkkkhaaGreatDoor
open Go.RowKit Go.Shelf
set_option linter.unusedVariables false
attribute [local go_sem] Oper.semAt_some

/-- The places of a list of L, the last first: the first k of them. -/
def dn (L k : Nat) : List Nat := (List.range k).map fun j => L - 1 - j
theorem dn_succ (L k : Nat) : dn L (k + 1) = dn L k ++ [L - 1 - k] := by simp [dn, List.range_succ]
theorem dn_length (L k : Nat) : (dn L k).length = k := by simp [dn]

set_option maxRecDepth 100000 in
set_option maxHeartbeats 2000000 in
theorem back1_in (F : Fence) (n : Nat) (hf : F.fn 62) (hro : F.round = none) (hn : 1 ≤ n) (l Bs n₀ g L cap : Nat) (X : Nat → Int) (U : Nat → Value) (hL : 0 < L) (hLm : L < 1000000000) (hg : g < n₀) (hB1 : Bs < n₀)
    (J Jx : List Nat → World → Prop)
    (hY : ∀ pre x W, J pre W → pre.length < L → YieldAt F (n - 1) Tryz.prog l #[.int .i64 (x : Nat), .agg #[.int .i64 (X x), U x]] W fun e W' =>
      (e = .returned (.bool true) ∧ J (pre ++ [x]) W' ∧ Below n₀ W W') ∨ (e = .returned (.bool false) ∧ Jx (pre ++ [x]) W'))
    (W : World) (hBs : W.cell? ⟨Bs, 0, none⟩ = some (.slice (some ⟨g, 0, none⟩) L cap)) (hc : ∀ j, j < L → W.cell? ⟨g, j * 2, none⟩ = some (.int .i64 (X j)) ∧ W.cell? ⟨g, j * 2 + 1, none⟩ = some (U j)) (h0 : J [] W) :
    CallsIn F n Tryz.prog 62 #[.func (.yield l) #[] #[], .pointer (some ⟨Bs, 0, none⟩)] W fun e W' => (∃ v, e = .returned v) ∧
      (J (dn L L) W' ∨ (∃ k, k ≤ L ∧ Jx (dn L k) W')) := by
  refine callsIn_of_wp Tryz.func62 rfl hf ?_ hro
  simp only [Tryz.ntmps62, List.size_toArray, List.length_cons, List.length_nil, Nat.reduceAdd, Nat.reduceSub, Array.replicate_succ, Array.replicate_zero, List.push_toArray, List.append_toArray, List.nil_append, List.cons_append]
  gi_wp2
  gi_loopw [3] (fun i wr => ∃ (k : Nat), k ≤ L ∧ i = .int .i64 ((L : Int) - 1 - k) ∧ J (dn L k) wr ∧ Below n₀ W wr) (fun i _ => (intOf i + 1).toNat)
  case atStart => exact ⟨0, Nat.zero_le _, by simp, h0, Below.refl _ _⟩
  case round =>
    obtain ⟨k, hk, rfl, hJs, hnx⟩ := hrel
    have hBs' := (hnx.cell (p := ⟨Bs, 0, none⟩) hB1).trans hBs
    by_cases hlt : k < L
    · obtain ⟨j, hj⟩ : ∃ j : Nat, j = L - 1 - k := ⟨_, rfl⟩
      have hji : (L : Int) - 1 - k = (j : Int) := by omega
      obtain ⟨fn, tmps, assign, body, hy, hR⟩ := hY _ j wr hJs (by rw [dn_length]; exact hlt)
      obtain ⟨c0, c1⟩ := hc j (by omega)
      have c0' := (hnx.cell (p := ⟨g, j * 2, none⟩) hg).trans c0
      have c1' := (hnx.cell (p := ⟨g, j * 2 + 1, none⟩) hg).trans c1
      have hjL : (j : Int) < (L : Int) := by omega
      rw [hji]
      have HJ := Lib.hid hj
      have HJI := Lib.hid hji
      have HLT := Lib.hid hlt
      clear hji c0 c1 hj
      gi_wp2
      refine hR.mono ?_
      rintro e W3 (⟨rfl, hJ3, hk3⟩ | ⟨rfl, hJx3⟩)
      · gi_wp2
        go_roundw
        case rel => exact ⟨k + 1, HLT.out, by have := HJI.out; rw [show (L : Int) - 1 - ((k + 1 : Nat) : Int) = (j : Int) - 1 by omega], by rw [dn_succ, ← HJ.out]; exact hJ3, hnx.trans hk3⟩
        case measure => simp [intOf] <;> omega
      · gi_wp2
        exact bodyPost_ret (results_none rfl _ _ _) rfl ⟨⟨_, rfl⟩, .inr ⟨k + 1, HLT.out, by rw [dn_succ, ← HJ.out]; exact hJx3⟩⟩
    · obtain rfl : k = L := by omega
      have hneg : (k : Int) - 1 - (k : Int) = -1 := by omega
      rw [hneg]
      gi_wp2
      go_end0
      exact ⟨⟨_, rfl⟩, .inl hJs⟩

set_option maxRecDepth 100000 in
set_option maxHeartbeats 1000000 in
theorem back1_none_in (F : Fence) (n : Nat) (hf : F.fn 62) (hro : F.round = none) (l Bs c : Nat) (p : Option Addr) (J : List Nat → World → Prop)
    (W : World) (hBs : W.cell? ⟨Bs, 0, none⟩ = some (.slice p 0 c)) (h0 : J [] W) :
    CallsIn F n Tryz.prog 62 #[.func (.yield l) #[] #[], .pointer (some ⟨Bs, 0, none⟩)] W fun e W' => (∃ v, e = .returned v) ∧ J [] W' := by
  refine callsIn_of_wp Tryz.func62 rfl hf ?_ hro
  simp only [Tryz.ntmps62, List.size_toArray, List.length_cons, List.length_nil, Nat.reduceAdd, Nat.reduceSub, Array.replicate_succ, Array.replicate_zero, List.push_toArray, List.append_toArray, List.nil_append, List.cons_append]
  gi_wp2
  gi_loopw [3] (fun i wr => i = .int .i64 (-1) ∧ J [] wr) (fun _ _ => 0)
  case atStart => exact ⟨rfl, h0⟩
  case round =>
    obtain ⟨rfl, hJs⟩ := hrel
    gi_wp2
    go_end0
    exact ⟨⟨_, rfl⟩, hJs⟩

theorem back_stops (F : Fence) (n : Nat) (hf : F.fn 62) (hro : F.round = none) (hn : 1 ≤ n) (Bs n₀ L cap : Nat) (q : Option Addr) (X : Nat → Int) (U : Nat → Value) (hLm : L < 1000000000) (hB1 : Bs < n₀)
    (w : World) (hn₀ : n₀ ≤ w.heap.size) (hBs : w.cell? ⟨Bs, 0, none⟩ = some (.slice q L cap)) (hq : 0 < L → ∃ g, q = some ⟨g, 0, none⟩ ∧ g < n₀ ∧ ∀ j, j < L → w.cell? ⟨g, j * 2, none⟩ = some (.int .i64 (X j)) ∧ w.cell? ⟨g, j * 2 + 1, none⟩ = some (U j)) :
    SeqStopsK F n Tryz.prog 62 #[.pointer (some ⟨Bs, 0, none⟩)] (fun x : Nat => #[.int .i64 (x : Nat), .agg #[.int .i64 (X x), U x]]) (Below n₀) (fun ys => ys = dn L L) (fun pre => ∃ k, k ≤ L ∧ pre = dn L k) L w :=
  fun l J Jx W hW hJ _ hY h0 => by
    have hBs' := (hW.cell (p := ⟨Bs, 0, none⟩) (by show Bs < _; omega)).trans hBs
    rcases Nat.eq_zero_or_pos L with h | h
    · subst h
      refine (back1_none_in F n hf hro l Bs cap q J W hBs' h0).mono ?_
      rintro e W' ⟨he, h⟩
      exact ⟨he, .inl ⟨_, rfl, h⟩⟩
    · obtain ⟨g, rfl, hg, hc⟩ := hq h
      refine (back1_in F n hf hro hn l Bs n₀ g L cap X U h hLm hg hB1 J Jx hY W hBs' (fun j hj => ⟨(hW.cell (p := ⟨g, j * 2, none⟩) (by show g < _; omega)).trans (hc j hj).1, (hW.cell (p := ⟨g, j * 2 + 1, none⟩) (by show g < _; omega)).trans (hc j hj).2⟩) h0).mono ?_
      rintro e W' ⟨he, h | ⟨k, hk, h⟩⟩
      · exact ⟨he, .inl ⟨_, rfl, h⟩⟩
      · exact ⟨he, .inr ⟨_, ⟨k, hk, rfl⟩, h⟩⟩
end Go.Proofs.YtefalhnllkkkhaaGreatDoor
