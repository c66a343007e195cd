/- The change of a root: session.Root and the document's. -/
import Derived.Test.YtefalhnllkkkhaaDoorKeys
namespace Go.Proofs.YtefalhnllkkkhaaDoor
open Go.RowKit
set_option linter.unusedVariables false

def rootOk (name : ByteArray) : Prop := 1 ≤ name.size ∧ name.size ≤ 11
instance (name : ByteArray) : Decidable (rootOk name) := by unfold rootOk; infer_instance
def rootK (name : ByteArray) (n : Nat) : ByteArray := if rootOk name ∧ n ≤ 1500 then catB [⟨#[118]⟩, name] else ⟨#[]⟩
def rootB (name : ByteArray) (n : Nat) (xs : List UInt8) : List UInt8 := if rootOk name ∧ n ≤ 1500 then xs else []
def rootE (name : ByteArray) (n : Nat) : Int := if rootOk name then (if n ≤ 1500 then 0 else 4) else 6

theorem cells2 {w : World} {x y : ByteArray} {t : TypeId} (j : Nat) (z : ByteArray) (h : [x, y][j]? = some z) : (w.alloc (.cells #[.string x, .string y] t)).cell? ⟨w.heap.size, 0 + j, none⟩ = some (.string z) := by
  rw [Nat.zero_add]
  have h2 : j = 0 ∨ j = 1 := by
    have := (List.getElem?_eq_some_iff.1 h).1
    simp at this
    omega
  rcases h2 with rfl | rfl
  · cases h; exact cell_alloc rfl
  · cases h; exact cell_alloc rfl
theorem cat_two (x y : ByteArray) : x ++ y = catB [x, y] := by
  apply ByteArray.ext
  apply Array.ext'
  simp [catB, ByteArray.data_append]

def CH0 : Obj := .cells #[.string ⟨#[]⟩, .slice none 0 0, .bool false] 40
theorem keycells (w : World) (x y : ByteArray) (j : Nat) (z : ByteArray) (h : [x, y][j]? = some z) : ((w.alloc CH0).alloc (.cells #[.string x, .string y] 9)).cell? ⟨w.heap.size + 1, 0 + j, none⟩ = some (.string z) := by
  have e : (w.alloc CH0).heap.size = w.heap.size + 1 := by simp
  have := cells2 (w := w.alloc CH0) (t := 9) j z h
  rw [e] at this
  exact this
theorem ch0_block {w w1 : World} (hb : Below (w.heap.size + 1) (w.alloc CH0) w1) : w1.heap[w.heap.size]? = some CH0 :=
  (hb.block w.heap.size (by omega)).trans (heap_alloc_new w CH0)
theorem ch0_cells {w1 : World} {g : Nat} (h : w1.heap[g]? = some CH0) : w1.cell? ⟨g, 0, none⟩ = some (.string ⟨#[]⟩) ∧ w1.cell? ⟨g, 1, none⟩ = some (.slice none 0 0) ∧ w1.cell? ⟨g, 2, none⟩ = some (.bool false) := by
  simp [World.cell?, h, CH0]

set_option maxHeartbeats 1000000 in
set_option maxRecDepth 20000 in
theorem root_any (name : ByteArray) (p : Option Addr) (n c : Nat) (xs : List UInt8) (w : World) (hs : name.size ≤ maxLen) (hx : xs.length = n) (hr : Rd w p xs) (hc : n ≤ c) (hm : c ≤ maxLen) :
    Calls Tryd.prog 19 #[.string name, .slice p n c] w fun e w' => ChO (rootK name n) (rootB name n xs) (rootE name n) w w' e := by
  have HX := Lib.hid hx
  have HS := Lib.hid hs
  have HM := Lib.hid hm
  clear hx hm
  by_cases h1 : rootOk name
  · obtain ⟨h3, h4⟩ := h1
    have hne : name.toList.isEmpty = false := by
      have := size_pos_of name
      rw [show decide (1 ≤ name.size) = true from decide_eq_true h3] at this
      simpa using this
    have hd2 : decide (11 < (name.size : Int)) = false := by simp; omega
    have hne0 : ¬ name.toList = [] := by rw [text_nil]; omega
    by_cases h2 : n ≤ 1500
    · have e1 : Hid (rootK name n = catB [⟨#[118]⟩, name]) := Lib.hid (if_pos ⟨⟨h3, h4⟩, h2⟩)
      have e2 : Hid (rootB name n xs = xs) := Lib.hid (if_pos ⟨⟨h3, h4⟩, h2⟩)
      have e3 : Hid (rootE name n = 0) := Lib.hid (by unfold rootE; rw [if_pos ⟨h3, h4⟩, if_pos h2])
      have H2 := Lib.hid h2
      have hd : decide (1500 < (n : Int)) = false := by simp; omega
      have H4 := Lib.hid h4
      have hal : Below w.heap.size w ((w.alloc CH0).alloc (.cells #[.string ⟨#[118]⟩, .string name] 9)) := ((Below.refl _ w).alloc (Nat.le_refl _) _).alloc (by simp) _
      have hal2 : Below (w.heap.size + 1) (w.alloc CH0) ((w.alloc CH0).alloc (.cells #[.string ⟨#[118]⟩, .string name] 9)) := (Below.refl _ _).alloc (by simp) _
      have HAL := Lib.hid hal
      have HAL2 := Lib.hid hal2
      have HLN : Hid (([⟨#[118]⟩, name].map (·.data.toList)).flatten.length ≤ 140737488355328) := Lib.hid (by simp; have := strB_length name; unfold strB at this; simp at this; omega)
      clear h2 h3 h4 hs hal hal2
      go_enter Tryd.func19, Tryd.ntmps19
      go_wp2_with fail
      refine (key_any (w.heap.size + 1) 0 2 [⟨#[118]⟩, name] 2 _ rfl (keycells w _ _) (by simp) (by omega) (by omega) HLN.out).mono ?_
      rintro e w1 ⟨rfl, hb1⟩
      have hb01 : Below w.heap.size w w1 := HAL.out.trans (hb1.mono HAL.out.size)
      have hb11 : Below (w.heap.size + 1) (w.alloc CH0) w1 := HAL2.out.trans (hb1.mono (by have := HAL2.out.size; simp at this ⊢))
      have HB11 := Lib.hid hb11
      clear hb1 hb11
      go_wp2_with fail
      refine (clone2_any p n c xs _ HX.out (by have := H2.out; omega) (hr.below hb01)).mono ?_
      rintro e w2 ⟨v2, rfl, hown, hb2⟩
      obtain ⟨p2, c2, rfl, hle⟩ := own_slice hown
      have hsz : w.heap.size + 1 ≤ w1.heap.size := by have := HB11.out.size; simp at this; omega
      have hblk : w2.heap[w.heap.size]? = some CH0 := ch0_block (HB11.out.trans (hb2.mono hsz))
      obtain ⟨k0, k1, k2⟩ := ch0_cells hblk
      have f0 : w2.frozen? ⟨w.heap.size, 0, none⟩ = false := frozen_of hblk
      have f1 : w2.frozen? ⟨w.heap.size, 1, none⟩ = false := frozen_of hblk
      have f2 : w2.frozen? ⟨w.heap.size, 2, none⟩ = false := frozen_of hblk
      have hlt : w.heap.size < w2.heap.size := (Array.getElem?_eq_some_iff.1 hblk).1
      have hb02 : Below w.heap.size w w2 := hb01.trans (hb2.mono hb01.size)
      have HO := Lib.hid (own_mono hown hsz)
      clear hown hb2 hblk hsz hb01
      obtain ⟨q0, q1, q2⟩ := ch_cells (catB [⟨#[118]⟩, name]) (.slice p2 n c2) k0 k1 k2
      unfold chW at q0 q1 q2
      have Q0 := Lib.hid q0
      have Q1 := Lib.hid q1
      have Q2 := Lib.hid q2
      clear q0 q1 q2
      go_wp2
      have q0 := Q0.out
      have q1 := Q1.out
      have q2 := Q2.out
      refine bodyPost_ret (v := .tuple #[.agg #[.string (catB [⟨#[118]⟩, name]), .slice p2 n c2, .bool false], .int .i64 0]) (by simp [results, Tryd.results19, go_sem, q0, q1, q2]) rfl ?_
      have ho := ch_own w.heap.size (catB [⟨#[118]⟩, name]) (.slice p2 n c2) HO.out (Nat.lt_succ_self _)
      have hb3 := ((hb02.setCell (p := ⟨w.heap.size, 0, none⟩) (Nat.le_refl _) (.string (catB [⟨#[118]⟩, name]))).setCell (p := ⟨w.heap.size, 1, none⟩) (Nat.le_refl _) (.slice p2 n c2)).setCell (p := ⟨w.heap.size, 2, none⟩) (Nat.le_refl _) (.bool false)
      exact ⟨p2, n, c2, by rw [e1.out, e3.out], by rw [e2.out]; exact HX.out, by rw [e2.out]; exact own_mono ho (Nat.le_succ _), hb3⟩
    · have e1 : Hid (rootK name n = ⟨#[]⟩) := Lib.hid (if_neg (fun h => h2 h.2))
      have e2 : Hid (rootB name n xs = []) := Lib.hid (if_neg (fun h => h2 h.2))
      have e3 : Hid (rootE name n = 4) := Lib.hid (by unfold rootE; rw [if_pos ⟨h3, h4⟩, if_neg h2])
      have hd : decide (1500 < (n : Int)) = true := by simp; omega
      clear h2 h3 h4 hs
      go_enter Tryd.func19, Tryd.ntmps19
      go_wp2_with fail
      go_returns
      exact ⟨none, 0, 0, by rw [e1.out, e3.out], by rw [e2.out]; rfl, by rw [e2.out]; exact World.ownsRow_nil _ _ _ _, (Below.refl _ w).alloc (Nat.le_refl _) _⟩
  · have e1 : Hid (rootK name n = ⟨#[]⟩) := Lib.hid (if_neg (fun h => h1 h.1))
    have e2 : Hid (rootB name n xs = []) := Lib.hid (if_neg (fun h => h1 h.1))
    have e3 : Hid (rootE name n = 6) := Lib.hid (by unfold rootE; rw [if_neg h1])
    unfold rootOk at h1
    by_cases h0 : name.size = 0
    · have hne : name.toList.isEmpty = true := by
        rw [List.isEmpty_iff, text_nil]; exact h0
      have hne0 : name.toList = [] := by rw [text_nil]; exact h0
      clear h1 h0 hs
      go_enter Tryd.func19, Tryd.ntmps19
      go_wp2_with fail
      go_returns
      exact ⟨none, 0, 0, by rw [e1.out, e3.out], by rw [e2.out]; rfl, by rw [e2.out]; exact World.ownsRow_nil _ _ _ _, (Below.refl _ w).alloc (Nat.le_refl _) _⟩
    · have hne : name.toList.isEmpty = false := by
        rw [Bool.eq_false_iff]; intro h; rw [List.isEmpty_iff, text_nil] at h; exact h0 h
      have hne0 : ¬ name.toList = [] := by rw [text_nil]; exact h0
      have hd2 : decide (11 < (name.size : Int)) = true := by simp; omega
      clear h1 h0 hs
      go_enter Tryd.func19, Tryd.ntmps19
      go_wp2_with fail
      go_returns
      exact ⟨none, 0, 0, by rw [e1.out, e3.out], by rw [e2.out]; rfl, by rw [e2.out]; exact World.ownsRow_nil _ _ _ _, (Below.refl _ w).alloc (Nat.le_refl _) _⟩
end Go.Proofs.YtefalhnllkkkhaaDoor
