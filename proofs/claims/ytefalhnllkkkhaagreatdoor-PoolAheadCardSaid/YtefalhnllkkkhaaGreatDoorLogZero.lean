/- Reading a log's sectors that are noughts, and an empty stream: parse, split. -/
import Derived.Test.YtefalhnllkkkhaaGreatDoorDiskRead
import Derived.Handy
namespace Go.Proofs.YtefalhnllkkkhaaGreatDoor
open Go.RowKit
set_option linter.unusedVariables false

theorem below_alloc {w w1 : World} (h : Below w.heap.size w w1) (o : Obj) : Below w.heap.size w (w1.alloc o) := h.alloc h.size _
theorem B8_zero : B8 0 = .int .u8 0 := rfl
theorem zeros_get {n i : Nat} (h : i < n) : (B8s (zeros n))[i]? = some (.int .u8 0) := by
  unfold B8s zeros
  rw [List.getElem?_map, List.getElem?_replicate, if_pos h]
  rfl

set_option maxHeartbeats 1000000 in
set_option maxRecDepth 20000 in
theorem parse_zeros (q : Option Addr) (c : Nat) (i : Int) (w : World) (hr : Rd w q (zeros 128)) :
    Calls Tryz.prog 30 #[.slice q 128 c, .int .i64 i] w fun e w' => e = .returned (.tuple #[.slice none 0 0, .int .i64 0, .bool false]) ∧ w' = w := by
  obtain ⟨b, o, rfl, hc⟩ := hr (by simp [zeros, B8s])
  have hcell : ∀ j, j < 128 → w.cell? ⟨b, o + j, none⟩ = some (.int .u8 0) := fun j hj => hc j _ (zeros_get hj)
  have H := Lib.hid hcell
  have c1 := hcell 1 (by omega)
  clear hc hcell hr
  go_enter Tryz.func30, Tryz.ntmps30
  go_wp2
  go_loopw [7, 11] (fun v i wr => ∃ k : Nat, k ≤ 8 ∧ i = .int .i64 k ∧ v = .int .u64 0 ∧ wr = w) (fun _ i _ => 8 - (intOf i).toNat)
  case atStart => exact ⟨0, by omega, rfl, rfl, rfl⟩
  case round =>
    obtain ⟨k, hk, rfl, rfl, rfl⟩ := hrel
    by_cases hlt : k < 8
    · have ck := H.out (4 + k) (by omega)
      have hki : (k : Int) < 8 := by omega
      have hk4 : (4 : Int) + (k : Int) < 128 := by omega
      go_wp2
      exact ⟨⟨k + 1, by omega, by congr 1, rfl, trivial⟩, by simp [intOf]; omega⟩
    · obtain rfl : k = 8 := by omega
      go_wp2
      go_returns
      exact ⟨rfl, rfl⟩

set_option maxHeartbeats 1000000 in
theorem over_nil (q : Option Addr) (c : Nat) (w : World) :
    Calls Tryz.prog 55 #[.slice q 0 c] w fun e w' => ∃ br p d, e = .returned (.pointer (some ⟨br, 0, none⟩)) ∧ w'.heap[br]? = some (.cells #[.slice p 0 d, .int .i64 0, .bool true] 142 (0, 0)) ∧ w.heap.size ≤ br ∧ Below w.heap.size w w' := by
  go_enter Tryz.func55, Tryz.ntmps55
  go_wp2_with fail
  refine (clone2_any q 0 c [] _ rfl (by omega) (Rd.nil _ _)).mono ?_
  rintro e w1 ⟨v1, rfl, hown, hb⟩
  obtain ⟨p, d, rfl, hd⟩ := own_slice hown
  have HB := Lib.hid hb
  clear hown hb
  go_wp2
  go_ret
  exact ⟨w1.heap.size, p, d, rfl, heap_alloc_new w1 _, HB.out.size, below_alloc HB.out _⟩

theorem rnone_made (br : Nat) (v u : Value) (w : World) (h : w.heap[br]? = some (.cells #[v, u, .bool true] 142 (0, 0))) :
    Calls Tryz.prog 87 #[.pointer (some ⟨br, 0, none⟩)] w fun e w' => e = .returned (.bool false) ∧ w' = w := by
  have k2 : w.cell? ⟨br, 2, none⟩ = some (.bool true) := by simp [World.cell?, h]
  clear h
  go_enter Tryz.func87, Tryz.ntmps87
  go_wp2
  go_ret
  exact ⟨rfl, rfl⟩
set_option maxHeartbeats 1000000 in
theorem rest_nil (br : Nat) (p : Option Addr) (d : Nat) (w : World) (h : w.heap[br]? = some (.cells #[.slice p 0 d, .int .i64 0, .bool true] 142 (0, 0))) :
    Calls Tryz.prog 88 #[.pointer (some ⟨br, 0, none⟩)] w fun e w' => ∃ q c, e = .returned (.slice q 0 c) ∧ w' = w.drew := by
  have k0 : w.cell? ⟨br, 0, none⟩ = some (.slice p 0 d) := by simp [World.cell?, h]
  have k1 : w.cell? ⟨br, 1, none⟩ = some (.int .i64 0) := by simp [World.cell?, h]
  clear h
  go_enter Tryz.func88, Tryz.ntmps88
  go_wp2
  go_region
  all_goals go_wp2
  all_goals go_ret
  all_goals exact ⟨_, _, rfl, rfl⟩
set_option maxHeartbeats 1000000 in
theorem left_nil (br : Nat) (p : Option Addr) (d : Nat) (w : World) (h : w.heap[br]? = some (.cells #[.slice p 0 d, .int .i64 0, .bool true] 142 (0, 0))) :
    Calls Tryz.prog 56 #[.pointer (some ⟨br, 0, none⟩)] w fun e w' => e = .returned (.int .i64 0) ∧ w' = w.drew := by
  have H := Lib.hid h
  clear h
  go_enter Tryz.func56, Tryz.ntmps56
  go_wp2_with fail
  refine (rnone_made br _ _ _ H.out).mono ?_
  rintro e w1 ⟨rfl, rfl⟩
  go_wp2_with fail
  refine (rest_nil br p d _ H.out).mono ?_
  rintro e w2 ⟨q, c, rfl, rfl⟩
  go_wp2
  go_ret
  exact ⟨rfl, rfl⟩
set_option maxHeartbeats 1000000 in
theorem scan_nil (br : Nat) (p : Option Addr) (d : Nat) (w : World) (h : w.heap[br]? = some (.cells #[.slice p 0 d, .int .i64 0, .bool true] 142 (0, 0))) :
    Calls Tryz.prog 89 #[.pointer (some ⟨br, 0, none⟩)] w fun e w' => e = .returned (.tuple #[.int .i64 0, .int .i64 0, .int .i64 10]) ∧ w' = w.drew.drew := by
  have H := Lib.hid h
  clear h
  go_enter Tryz.func89, Tryz.ntmps89
  go_wp2_with fail
  refine (rest_nil br p d _ H.out).mono ?_
  rintro e w2 ⟨q, c, rfl, rfl⟩
  go_wp2_with fail
  go_loopw [13] (fun i wr => i = .int .i64 0 ∧ wr = w.drew) (fun _ _ => 0)
  case atStart => exact ⟨rfl, rfl⟩
  case round =>
    obtain ⟨rfl, rfl⟩ := hrel
    go_wp2_with fail
    refine (rest_nil br p d w.drew H.out).mono ?_
    rintro e w2 ⟨q2, c2, rfl, rfl⟩
    go_wp2
    go_returns
    exact ⟨rfl, rfl⟩
set_option maxHeartbeats 1000000 in
theorem text_nil (br : Nat) (p : Option Addr) (d : Nat) (n : Int) (w : World) (h : w.heap[br]? = some (.cells #[.slice p 0 d, .int .i64 0, .bool true] 142 (0, 0))) :
    Calls Tryz.prog 57 #[.pointer (some ⟨br, 0, none⟩), .int .i64 n] w fun e w' => e = .returned (.tuple #[.string ⟨#[]⟩, .int .i64 10]) ∧ w' = w.drew.drew := by
  have H := Lib.hid h
  clear h
  go_enter Tryz.func57, Tryz.ntmps57
  go_wp2_with fail
  refine (rnone_made br _ _ _ H.out).mono ?_
  rintro e w1 ⟨rfl, rfl⟩
  go_wp2_with fail
  refine (scan_nil br p d _ H.out).mono ?_
  rintro e w2 ⟨rfl, rfl⟩
  go_wp2
  go_ret2
  exact ⟨rfl, rfl⟩
set_option maxHeartbeats 1000000 in
theorem split_nil (q : Option Addr) (c : Nat) (w : World) :
    Calls Tryz.prog 31 #[.slice q 0 c] w fun e w' => e = .returned (.tuple #[.slice none 0 0, .int .i64 0]) ∧ Below w.heap.size w w' := by
  go_enter Tryz.func31, Tryz.ntmps31
  go_wp2_with fail
  refine (over_nil q c _).mono ?_
  rintro e w1 ⟨br, p, d, rfl, hh, hbr, hb⟩
  have HH := Lib.hid hh
  have HB := Lib.hid hb
  clear hh hb hbr
  go_wp2_with fail
  go_loopw [4] (fun l wr => l = .slice none 0 0 ∧ wr = w1) (fun _ _ => 0)
  case atStart => exact ⟨rfl, rfl⟩
  case round =>
    obtain ⟨rfl, rfl⟩ := hrel
    go_wp2_with fail
    refine (left_nil br p d _ HH.out).mono ?_
    rintro e w2 ⟨rfl, rfl⟩
    go_wp2_with fail
    refine (text_nil br p d _ wr.drew HH.out).mono ?_
    rintro e w3 ⟨rfl, rfl⟩
    go_wp2
    go_ret2
    exact ⟨rfl, HB.out.drew.drew.drew⟩
end Go.Proofs.YtefalhnllkkkhaaGreatDoor
