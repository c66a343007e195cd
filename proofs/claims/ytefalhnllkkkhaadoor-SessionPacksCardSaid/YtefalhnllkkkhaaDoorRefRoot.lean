/- The change of a root: the document's. -/
import Derived.Test.YtefalhnllkkkhaaDoorRoot
namespace Go.Proofs.YtefalhnllkkkhaaDoor
open Go.RowKit
set_option linter.unusedVariables false

def isNameB (name : ByteArray) : Bool := decide (rootOk name)
theorem isName_any (name : ByteArray) (w : World) :
    Calls Tryd.prog 43 #[.string name] w fun e w' => e = .returned (.bool (isNameB name)) ∧ w = w' := by
  have e : isNameB name = (decide (1 ≤ (name.size : Int)) && decide ((name.size : Int) ≤ 11)) := by
    by_cases h : rootOk name
    · rw [show isNameB name = true from decide_eq_true h]
      obtain ⟨h1, h2⟩ := h
      simp
      omega
    · rw [show isNameB name = false from decide_eq_false h]
      unfold rootOk at h
      simp
      omega
  rw [e]
  clear e
  go_enter Tryd.func43, Tryd.ntmps43
  go_wp2
  all_goals go_ret
  all_goals exact ⟨ret_bool (by simp; omega), rfl⟩

set_option maxHeartbeats 1000000 in
set_option maxRecDepth 20000 in
theorem refroot_any (name : ByteArray) (p : Option Addr) (n c : Nat) (xs : List UInt8) (w : World) (hs : name.size ≤ maxLen) (hx : xs.length = n) (hr : Rd w p xs) (hc : n ≤ c) (hm : c ≤ maxLen) :
    Calls Tryd.prog 20 #[.string name, .slice p n c] w fun e w' => ChO (rootK name n) (rootB name n xs) (rootE name n) w w' e := by
  have HX := Lib.hid hx
  have HS := Lib.hid hs
  have HM := Lib.hid hm
  clear hx hm
  by_cases h1 : rootOk name
  · obtain ⟨h3, h4⟩ := h1
    have hne : name.toList.isEmpty = false := by
      have := size_pos_of name
      rw [show decide (1 ≤ name.size) = true from decide_eq_true h3] at this
      simpa using this
    have HIN : Hid (isNameB name = true) := Lib.hid (decide_eq_true ⟨h3, h4⟩)
    have hne0 : ¬ name.toList = [] := by rw [text_nil]; omega
    by_cases h2 : n ≤ 1500
    · have e1 : Hid (rootK name n = (⟨#[118]⟩ : ByteArray) ++ name) := Lib.hid (by rw [cat_two]; exact if_pos ⟨⟨h3, h4⟩, h2⟩)
      have e2 : Hid (rootB name n xs = xs) := Lib.hid (if_pos ⟨⟨h3, h4⟩, h2⟩)
      have e3 : Hid (rootE name n = 0) := Lib.hid (by unfold rootE; rw [if_pos ⟨h3, h4⟩, if_pos h2])
      have H2 := Lib.hid h2
      have hd : decide (1500 < (n : Int)) = false := by simp; omega
      have H4 := Lib.hid h4
      have hal : Below w.heap.size w ((w.alloc CH0).alloc (.cells #[] 5)) := ((Below.refl _ w).alloc (Nat.le_refl _) _).alloc (by simp) _
      have hal2 : Below (w.heap.size + 1) (w.alloc CH0) ((w.alloc CH0).alloc (.cells #[] 5)) := (Below.refl _ _).alloc (by simp) _
      have HR := Lib.hid (hr.below hal)
      have HAL := Lib.hid hal
      have HAL2 := Lib.hid hal2
      have hown0 : ((w.alloc CH0).alloc (.cells #[] 5)).ownsRow (w.heap.size + 1) 5 1 (.slice (some ⟨w.heap.size + 1, 0, none⟩) 0 0) 0 (B8s []) := by
        have := World.ownsRow_made (w.alloc CH0) (base := w.heap.size + 1) (e := 5) (size := 1) #[] 0 (by simp) (Nat.zero_le _) rfl
        simpa [B8s] using this
      have HOW := Lib.hid hown0
      clear h2 h3 hs hal hal2 hr hown0
      go_enter Tryd.func20, Tryd.ntmps20
      go_wp2_with fail
      refine (isName_any name _).mono ?_
      rintro e w1 ⟨rfl, rfl⟩
      rw [HIN.out]
      go_wp2_with (at_builtin; refine wp_appx (w0 := w.alloc CH0) (base := w.heap.size + 1) (n := 0) rfl (.tmp 16) (.tmp 17) rfl _ [] xs p rfl rfl HX.out HR.out HOW.out HAL2.out (by simp) (by have := H2.out; omega) ?_)
      intro v2 w2 hown hb2
      obtain ⟨p2, c2, rfl, hle⟩ := own_slice hown
      have hblk : w2.heap[w.heap.size]? = some CH0 := ch0_block hb2
      obtain ⟨k0, k1, k2⟩ := ch0_cells hblk
      have f0 : w2.frozen? ⟨w.heap.size, 0, none⟩ = false := frozen_of hblk
      have f1 : w2.frozen? ⟨w.heap.size, 1, none⟩ = false := frozen_of hblk
      have f2 : w2.frozen? ⟨w.heap.size, 2, none⟩ = false := frozen_of hblk
      have hlt : w.heap.size < w2.heap.size := (Array.getElem?_eq_some_iff.1 hblk).1
      have hb02 : Below w.heap.size w w2 := ((Below.refl _ w).alloc (Nat.le_refl _) CH0).trans (hb2.mono (Nat.le_succ _))
      have HO : Hid (w2.ownsRow (w.heap.size + 1) 5 1 (.slice p2 (0 + n) c2) n (B8s xs)) := Lib.hid (by simpa using hown)
      rw [Nat.zero_add] at HO
      clear hown hb2 hblk
      obtain ⟨q0, q1, q2⟩ := ch_cells ((⟨#[118]⟩ : ByteArray) ++ name) (.slice p2 n c2) k0 k1 k2
      unfold chW at q0 q1 q2
      have Q0 := Lib.hid q0
      have Q1 := Lib.hid q1
      have Q2 := Lib.hid q2
      clear q0 q1 q2
      go_wp2
      have q0 := Q0.out
      have q1 := Q1.out
      have q2 := Q2.out
      refine bodyPost_ret (v := .tuple #[.agg #[.string ((⟨#[118]⟩ : ByteArray) ++ name), .slice p2 n c2, .bool false], .int .i64 0]) (by simp [results, Tryd.results20, go_sem, q0, q1, q2]) rfl ?_
      have ho := ch_own w.heap.size ((⟨#[118]⟩ : ByteArray) ++ name) (.slice p2 n c2) HO.out (Nat.lt_succ_self _)
      have hb3 := ((hb02.setCell (p := ⟨w.heap.size, 0, none⟩) (Nat.le_refl _) (.string ((⟨#[118]⟩ : ByteArray) ++ name))).setCell (p := ⟨w.heap.size, 1, none⟩) (Nat.le_refl _) (.slice p2 n c2)).setCell (p := ⟨w.heap.size, 2, none⟩) (Nat.le_refl _) (.bool false)
      exact ⟨p2, n, c2, by rw [e1.out, e3.out], by rw [e2.out]; exact HX.out, by rw [e2.out]; exact own_mono ho (Nat.le_succ _), hb3⟩
    · have e1 : Hid (rootK name n = ⟨#[]⟩) := Lib.hid (if_neg (fun h => h2 h.2))
      have e2 : Hid (rootB name n xs = []) := Lib.hid (if_neg (fun h => h2 h.2))
      have e3 : Hid (rootE name n = 4) := Lib.hid (by unfold rootE; rw [if_pos ⟨h3, h4⟩, if_neg h2])
      have hd : decide (1500 < (n : Int)) = true := by simp; omega
      clear h2 h3 h4 hs
      go_enter Tryd.func20, Tryd.ntmps20
      go_wp2_with fail
      refine (isName_any name _).mono ?_
      rintro e w1 ⟨rfl, rfl⟩
      rw [HIN.out]
      go_wp2_with fail
      go_returns
      exact ⟨none, 0, 0, by rw [e1.out, e3.out], by rw [e2.out]; rfl, by rw [e2.out]; exact World.ownsRow_nil _ _ _ _, (Below.refl _ w).alloc (Nat.le_refl _) _⟩
  · have e1 : Hid (rootK name n = ⟨#[]⟩) := Lib.hid (if_neg (fun h => h1 h.1))
    have e2 : Hid (rootB name n xs = []) := Lib.hid (if_neg (fun h => h1 h.1))
    have e3 : Hid (rootE name n = 6) := Lib.hid (by unfold rootE; rw [if_neg h1])
    have HIN : Hid (isNameB name = false) := Lib.hid (decide_eq_false h1)
    unfold rootOk at h1
    by_cases h0 : name.size = 0
    · have hne : name.toList.isEmpty = true := by
        rw [List.isEmpty_iff, text_nil]; exact h0
      have hne0 : name.toList = [] := by rw [text_nil]; exact h0
      clear h1 h0 hs
      go_enter Tryd.func20, Tryd.ntmps20
      go_wp2_with fail
      refine (isName_any name _).mono ?_
      rintro e w1 ⟨rfl, rfl⟩
      rw [HIN.out]
      go_wp2_with fail
      go_returns
      exact ⟨none, 0, 0, by rw [e1.out, e3.out], by rw [e2.out]; rfl, by rw [e2.out]; exact World.ownsRow_nil _ _ _ _, (Below.refl _ w).alloc (Nat.le_refl _) _⟩
    · have hne : name.toList.isEmpty = false := by
        rw [Bool.eq_false_iff]; intro h; rw [List.isEmpty_iff, text_nil] at h; exact h0 h
      have hne0 : ¬ name.toList = [] := by rw [text_nil]; exact h0
      have hd2 : decide (11 < (name.size : Int)) = true := by simp; omega
      clear h1 h0 hs
      go_enter Tryd.func20, Tryd.ntmps20
      go_wp2_with fail
      refine (isName_any name _).mono ?_
      rintro e w1 ⟨rfl, rfl⟩
      rw [HIN.out]
      go_wp2_with fail
      go_returns
      exact ⟨none, 0, 0, by rw [e1.out, e3.out], by rw [e2.out]; rfl, by rw [e2.out]; exact World.ownsRow_nil _ _ _ _, (Below.refl _ w).alloc (Nat.le_refl _) _⟩
end Go.Proofs.YtefalhnllkkkhaaDoor
