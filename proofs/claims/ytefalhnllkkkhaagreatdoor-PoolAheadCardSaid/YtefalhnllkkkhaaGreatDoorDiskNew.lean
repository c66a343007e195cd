/- disk.New: so many sectors of noughts. -/
import Derived.Test.YtefalhnllkkkhaaGreatDoorDisk
namespace Go.Proofs.YtefalhnllkkkhaaGreatDoor
open Go.RowKit
set_option linter.unusedVariables false

def zeros (n : Nat) : List UInt8 := List.replicate n 0
def zeroS (n : Nat) : List (List UInt8) := List.replicate n (zeros 128)
def cutV (ga i : Nat) : Value := .slice (some ⟨ga, i * 128, none⟩) 128 128
theorem infoSlD : (Tryz.prog.info? 37).map (fun i => (i.zero, i.size, i.bytes)) = some (some (.slice none 0 0), 1, 24) := by kernel_rfl

theorem grown_keep {W w1 : World} {o : Obj} {v : Value} {base : Nat} {e : TypeId} {size n : Nat} {xs : List Value} (ho : W.ownsRow base e size v n xs) (hg : (W.alloc o).drew.grownBy w1 v.ownBlock) (k : Nat) (hk : k < base) (hkw : k < W.heap.size) : w1.heap[k]? = W.heap[k]? := by
  have h1 := hg.block k (by show k < (W.alloc o).heap.size; simp; omega) (fun e' => by have := (ho.lt k e'.symm).1; omega)
  exact h1.trans (Below.heap_alloc _ _ k hkw)

set_option maxHeartbeats 2000000 in
set_option maxRecDepth 20000 in
theorem diskNew_any (n : Nat) (w : World) (h1 : 1 ≤ n) (h2 : n ≤ 4096) :
    Calls Tryz.prog 7 #[.int .i64 n] w fun e w' => ∃ bd, e = .returned (.tuple #[.pointer (some ⟨bd, 0, none⟩), .int .i64 0]) ∧ w.heap.size ≤ bd ∧ bd < w'.heap.size ∧
      (∀ N : Zone, N.B ≤ w.heap.size → (∀ k, N k → k < w.heap.size) → DiskAt w' N bd (zeroS n) []) ∧ Below w.heap.size w w' := by
  have HN1 := Lib.hid h1
  have HN2 := Lib.hid h2
  have hd1 : decide ((n : Int) < 1) = false := decide_eq_false (by omega)
  have hd2 : decide ((n : Int) > 4096) = false := decide_eq_false (by omega)
  have hm : IntKind.i64.wrap ((n : Int) * 128) = (n * 128 : Nat) := by rw [IntKind.wrap_i64]; omega
  obtain ⟨i0, hi, hz0, hz1, hz2⟩ := info_parts infoSlD
  have hmk : ∀ W : World, (Instr.makeSlice 37 (.int .i64 ((n : Int) * 128)) (.int .i64 ((n : Int) * 128))).run Tryz.prog W = .ok (.slice (some ⟨W.heap.size, 0, none⟩) (n * 128) (n * 128)) (W.alloc (.cells (Zs (n * 128)) 5)) := fun W => make8 (n * 128) (by omega) W
  go_enter Tryz.func7, Tryz.ntmps7
  go_wp2
  go_loopw [19] (fun i wr => ∃ (k : Nat) (v : Value), k ≤ n ∧ i = .int .i64 k ∧ Hid (wr.heap[w.heap.size]? = some (.cells (Zs (n * 128)) 5 (0, 0))) ∧ Hid (wr.heap[w.heap.size + 1]? = some (.cells #[v, .slice none 0 0] 75 (0, 0))) ∧
    Hid (wr.ownsRow (w.heap.size + 2) 37 1 v k ((List.range k).map (cutV w.heap.size))) ∧ Hid (Below w.heap.size w wr) ∧ w.heap.size + 2 ≤ wr.heap.size) (fun i _ => n - (intOf i).toNat)
  case atStart =>
    have e1 : ((w.alloc (.cells (Zs (n * 128)) 5)).alloc (.cells #[.slice none 0 0, .slice none 0 0] 75)).heap[w.heap.size + 1]? = some (.cells #[.slice none 0 0, .slice none 0 0] 75 (0, 0)) := by
      have := heap_alloc_new (w.alloc (.cells (Zs (n * 128)) 5)) (.cells #[.slice none 0 0, .slice none 0 0] 75)
      rw [World.size_alloc] at this
      exact this
    exact ⟨0, _, Nat.zero_le _, rfl, Lib.hid ((Below.heap_alloc _ _ _ (by simp)).trans (heap_alloc_new w _)), Lib.hid e1, Lib.hid (World.ownsRow_nil _ _ _ _), Lib.hid (((Below.refl _ w).alloc (Nat.le_refl _) _).alloc (by simp) _), by simp⟩
  case round =>
    obtain ⟨k, v, hk, rfl, HA, HD, HR, HB, hsz⟩ := hrel
    by_cases hlt : k < n
    · obtain ⟨q, cq, rfl, hqc⟩ : ∃ q c, v = .slice q k c ∧ k ≤ c := by
        rcases HR.out.2 with ⟨rfl, h0⟩ | ⟨g, cap, cur, rfl, _, _, h1, _⟩
        · exact ⟨none, 0, by rw [h0], by omega⟩
        · exact ⟨_, cap, rfl, h1⟩
      have k0 : wr.cell? ⟨w.heap.size + 1, 0, none⟩ = some (.slice q k cq) := by simp [World.cell?, HD.out]
      have f0 : wr.frozen? ⟨w.heap.size + 1, 0, none⟩ = false := frozenC HD.out
      have hkn : k + 1 ≤ n := hlt
      have hlt1 : w.heap.size + 1 < wr.heap.size := hsz
      obtain ⟨A, hA⟩ : ∃ A, A = k * 128 := ⟨_, rfl⟩
      obtain ⟨B, hBB⟩ : ∃ B, B = k + 1 := ⟨_, rfl⟩
      obtain ⟨C, hC⟩ : ∃ C, C = B * 128 := ⟨_, rfl⟩
      have hw1 : IntKind.i64.wrap ((k : Int) * 128) = (A : Int) := by rw [IntKind.wrap_i64]; omega
      have hw2 : IntKind.i64.wrap ((k : Int) + 1) = (B : Int) := by rw [IntKind.wrap_i64]; omega
      have hw3 : IntKind.i64.wrap ((B : Int) * 128) = (C : Int) := by rw [IntKind.wrap_i64]; omega
      have hCn : (C : Int) ≤ (n : Int) * 128 := by omega
      have hC0 : (0 : Int) ≤ (C : Int) := by omega
      have hmx : max (C : Int) 0 = (C : Int) := by omega
      have hAC : (A : Int) ≤ (C : Int) := by omega
      have hne : (C = A) = False := eq_false (by omega)
      have hsub : C - A = 128 := by omega
      have hcv : Hid (cutV w.heap.size k = .slice (some ⟨w.heap.size, A, none⟩) 128 128) := Lib.hid (by unfold cutV; rw [hA])
      have HWB := Lib.hid hBB
      clear hA hBB hC
      have HOA : Hid ((wr.alloc (.cells #[.slice (some ⟨w.heap.size, A, none⟩) 128 128] 37)).drew.ownsRow (w.heap.size + 2) 37 1 (.slice q k cq) k ((List.range k).map (cutV w.heap.size))) := Lib.hid (HR.out.alloc _).drew
      go_wp2
      go_region_law (first
        | (refine step_append_lies _ rfl (.tmp 27) (.tmp 38) 28 rfl (w.heap.size + 2) 37 i0 (.slice none 0 0) 1 24 Tryz.underlying28 hi hz0 hz1 hz2 rfl (by decide) (.slice q k cq) k ((List.range k).map (cutV w.heap.size)) rfl HOA.out ⟨wr.heap.size, 0, none⟩ 1 1 [.slice (some ⟨w.heap.size, A, none⟩) 128 128] (by rfl) rfl (cell_one_new _ _ _) (by simp [Value.oneCell']) (by omega) (by simp only [maxLen]; have := HN2.out; omega) (by have := HN2.out; omega) (by simp; omega) (wr.heap.size + 1) (by simp) ?_; intro gg cap w1 hown1 hgrow hat hltg; have HD1 := Lib.hid ((grown_keep HR.out hgrow (w.heap.size + 1) (by omega) (by omega)).trans HD.out); have HA1 := Lib.hid ((grown_keep HR.out hgrow w.heap.size (by omega) (by omega)).trans HA.out); have k01 : w1.cell? ⟨w.heap.size + 1, 0, none⟩ = some (.slice q k cq) := (by simp [World.cell?, HD1.out]); have f01 := frozenC (i := 0) HD1.out; have HR1 := Lib.hid hown1; have HG1 := Lib.hid hgrow; clear hown1 hgrow hat))
      all_goals go_wp2
      all_goals go_roundw
      all_goals first
        | exact ⟨k + 1, _, hkn, by rw [HWB.out],
            Lib.hid ((heap_setCell_other w1 ⟨w.heap.size + 1, 0, none⟩ w.heap.size _ (by simp)).trans HA1.out),
            Lib.hid (heap_setCell_same w1 (w.heap.size + 1) 0 _ _ _ HD1.out),
            Lib.hid (by
              have := ownsRow_setCell_below HR1.out (a := ⟨w.heap.size + 1, 0, none⟩) (by show w.heap.size + 1 < w.heap.size + 2; omega) (.slice (some ⟨gg, 0, none⟩) (k + 1) cap)
              rw [List.range_succ, List.map_append, List.map_singleton, hcv.out]
              exact this),
            Lib.hid (((((HB.out.alloc (by omega) _).drew).grown HG1.out (by simp; omega) (fun j hj => by have := (HR.out.lt j hj).1; omega))).setCell (p := ⟨w.heap.size + 1, 0, none⟩) (by show w.heap.size ≤ w.heap.size + 1; omega) _),
            by have := HG1.out.size; simp at this ⊢; omega⟩
        | (have := HWB.out; simp [intOf]; omega)
    · obtain rfl : k = n := by omega
      go_wp2
      go_ret2
      refine ⟨w.heap.size + 1, rfl, by omega, by omega, fun N hNB hN => ?_, HB.out⟩
      have hpos : 0 < k := HN1.out
      rcases HR.out.2 with ⟨rfl, h0⟩ | ⟨g, cap, cur, rfl, hb, hh, hr1, hr2, hr3, hr4⟩
      · omega
      · refine ⟨⟨g, cap, .slice none 0 0, (List.range k).map (cutV w.heap.size), [], ?_, ?_, ?_, ?_, ?_, rfl, ?_⟩, by simp [zeroS]; omega, by simp [zeroS]; exact HN2.out, ?_, by simp, by simp, by omega⟩
        · simpa [zeroS] using HD.out
        · have := own_mono HR.out (show N.B ≤ w.heap.size + 2 by omega)
          simpa [zeroS] using this
        · simp [zeroS]
        · intro i x v hx hv
          have hik : i < k := by simpa using (List.getElem?_eq_some_iff.1 hv).1
          have hx' : x = zeros 128 := by
            have := List.getElem?_eq_some_iff.1 hx
            obtain ⟨h', e⟩ := this
            rw [← e]; simp [zeroS]
          have hv' : v = cutV w.heap.size i := by
            obtain ⟨h', e⟩ := List.getElem?_eq_some_iff.1 hv
            rw [← e]; simp
          subst hx' hv'
          refine ⟨some ⟨w.heap.size, i * 128, none⟩, 128, by simp [cutV, zeros], by simp [zeros], by decide, fun _ => ⟨w.heap.size, i * 128, Zs (k * 128), rfl, HA.out, fun h => by have := hN _ h; omega, fun j y hj => ?_⟩⟩
          have hj2 : j < 128 := by have := (List.getElem?_eq_some_iff.1 hj).1; simpa [zeros] using this
          have hy : y = 0 := List.eq_of_mem_replicate (List.mem_of_getElem? hj)
          have hlt2 : i * 128 + j < k * 128 := by
            have : (i + 1) * 128 ≤ k * 128 := Nat.mul_le_mul_right _ hik
            omega
          rw [hy, Zs_arr, List.getElem?_toArray]
          unfold B8s
          rw [List.getElem?_map, List.getElem?_replicate, if_pos hlt2]
          rfl
        · exact World.ownsRow_nil _ _ _ _
        · intro i x v hx; simp at hx
        · intro x hx
          have := List.eq_of_mem_replicate hx
          rw [this]; simp [zeros]
end Go.Proofs.YtefalhnllkkkhaaGreatDoor
