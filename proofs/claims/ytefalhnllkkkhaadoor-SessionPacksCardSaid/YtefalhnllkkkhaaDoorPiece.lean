/- The key of a session's piece: session.piece and the document's key. -/
import Derived.Test.YtefalhnllkkkhaaDoorDigits
namespace Go.Proofs.YtefalhnllkkkhaaDoor
open Go.RowKit
set_option linter.unusedVariables false

def pieceB (id i : Nat) : ByteArray := catB [⟨#[115]⟩, padB id 4, padB i 2]
theorem padB_size (n k : Nat) : (padB n k).size = k := by
  show (padN n k).toArray.size = k
  rw [List.size_toArray, padN_length]
theorem piece_cat (id i : Nat) : (⟨#[115]⟩ : ByteArray) ++ padB id 4 ++ padB i 2 = pieceB id i := by
  rw [cat_two, cat_two]
  unfold pieceB catB
  simp
theorem cells3 {w : World} {x y z : ByteArray} {t : TypeId} (j : Nat) (u : ByteArray) (h : [x, y, z][j]? = some u) : (w.alloc (.cells #[.string x, .string y, .string z] t)).cell? ⟨w.heap.size, 0 + j, none⟩ = some (.string u) := by
  rw [Nat.zero_add]
  have h2 : j = 0 ∨ j = 1 ∨ j = 2 := by
    have := (List.getElem?_eq_some_iff.1 h).1
    simp at this
    omega
  rcases h2 with rfl | rfl | rfl
  · cases h; exact cell_alloc rfl
  · cases h; exact cell_alloc rfl
  · cases h; exact cell_alloc rfl

set_option maxHeartbeats 1000000 in
set_option maxRecDepth 20000 in
theorem piece_any (id i : Nat) (w : World) (h1 : id ≤ 9999) (h2 : i ≤ 99) (hT : Tens w) :
    Calls Tryd.prog 35 #[.int .i64 id, .int .i64 i] w fun e w' => e = .returned (.string (pieceB id i)) ∧ Below w.heap.size w w' := by
  have H1 := Lib.hid h1
  have H2 := Lib.hid h2
  have HT := Lib.hid hT
  clear h1 h2 hT
  go_enter Tryd.func35, Tryd.ntmps35
  go_wp2_with fail
  refine (digits_any id 4 _ (by have := H1.out; omega) (by omega) (by omega) HT.out).mono ?_
  rintro e w1 ⟨rfl, hb1⟩
  have HB1 := Lib.hid hb1
  clear hb1
  go_wp2_with fail
  refine (digits_any i 2 _ (by have := H2.out; omega) (by omega) (by omega) (HT.out.below HB1.out)).mono ?_
  rintro e w2 ⟨rfl, hb2⟩
  have HB2 := Lib.hid (chain2 HB1.out hb2)
  clear hb2
  have hs1 := padB_size id 4
  have hs2 := padB_size i 2
  have HLN : Hid (([⟨#[115]⟩, padB id 4, padB i 2].map (·.data.toList)).flatten.length ≤ 140737488355328) := Lib.hid (by simp [padB, padN_length])
  clear hs1 hs2
  go_wp2_with fail
  refine (key_any w2.heap.size 0 3 [⟨#[115]⟩, padB id 4, padB i 2] 3 _ rfl (fun j x h => cells3 j x h) (by simp) (by omega) (by omega) HLN.out).mono ?_
  rintro e w3 ⟨rfl, hb3⟩
  have hb03 := chain2 (chain2 HB2.out ((Below.refl _ w2).alloc (Nat.le_refl _) _)) hb3
  clear hb3
  go_wp2
  go_ret
  exact ⟨rfl, hb03⟩

set_option maxHeartbeats 1000000 in
set_option maxRecDepth 20000 in
theorem refkey_any (id i : Nat) (w : World) (h1 : id ≤ 9999) (h2 : i ≤ 99) :
    Calls Tryd.prog 37 #[.int .i64 id, .int .i64 i] w fun e w' => e = .returned (.string (pieceB id i)) ∧ Below w.heap.size w w' := by
  have H1 := Lib.hid h1
  have H2 := Lib.hid h2
  have HP := Lib.hid (piece_cat id i)
  clear h1 h2
  go_enter Tryd.func37, Tryd.ntmps37
  go_wp2_with fail
  refine (refdigits_any id 4 _ (by omega) (by have := H1.out; omega)).mono ?_
  rintro e w1 ⟨rfl, hb1⟩
  have HB1 := Lib.hid hb1
  have hs1 := padB_size id 4
  clear hb1
  go_wp2_with fail
  refine (refdigits_any i 2 _ (by omega) (by have := H2.out; omega)).mono ?_
  rintro e w2 ⟨rfl, hb2⟩
  have HB2 := Lib.hid (chain2 HB1.out hb2)
  have hs2 := padB_size i 2
  have hs3 : ((⟨#[115]⟩ : ByteArray) ++ padB id 4).size = 5 := by rw [ByteArray.size_append, hs1]; rfl
  clear hb2
  go_wp2
  go_ret
  exact ⟨by rw [← HP.out]; rfl, HB2.out⟩
end Go.Proofs.YtefalhnllkkkhaaDoor
