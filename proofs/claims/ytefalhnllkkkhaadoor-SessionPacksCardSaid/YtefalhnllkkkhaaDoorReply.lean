/- A reply's message: net.Reply and the document's. -/
import Derived.Test.YtefalhnllkkkhaaDoorMessage
namespace Go.Proofs.YtefalhnllkkkhaaDoor
open Go.RowKit
set_option linter.unusedVariables false

def ReplyQ (id text : ByteArray) (st se wh : Int) (w w' : World) (e : Ending) : Prop :=
  (mayR id text st se wh = false ∧ e = .returned (.tuple #[.slice none 0 0, .int .i64 1]) ∧ Below w.heap.size w w') ∨
  (mayR id text st se wh = true ∧ FrameOK (msgB 2 [st.toNat, se.toNat, wh.toNat] id text) w w' e)
theorem mayR_facts {id text : ByteArray} {st se wh : Int} (h : mayR id text st se wh = true) : ∃ a b c : Nat, st = a ∧ se = b ∧ wh = c ∧ a ≤ 10000 ∧ b ≤ 10000 ∧ c ≤ 10000 ∧ id.size ≤ 8 ∧ text.size ≤ 1000 := by
  unfold mayR isID at h
  simp only [Bool.and_eq_true, decide_eq_true_eq] at h
  exact ⟨st.toNat, se.toNat, wh.toNat, by omega, by omega, by omega, by omega, by omega, by omega, by omega, by omega⟩

theorem cell_alloc {w : World} {cs : Array Value} {t : TypeId} {j : Nat} {v : Value} (hj : cs[j]? = some v) : (w.alloc (.cells cs t)).cell? ⟨w.heap.size, j, none⟩ = some v := by
  simp only [World.cell?, heap_alloc_new]
  simpa using hj
theorem cell_after {w w1 : World} {cs : Array Value} {t : TypeId} (hb : Below (w.alloc (.cells cs t)).heap.size (w.alloc (.cells cs t)) w1) {j : Nat} {v : Value} (hj : cs[j]? = some v) : w1.cell? ⟨w.heap.size, j, none⟩ = some v :=
  (hb.cell (p := ⟨w.heap.size, j, none⟩) (by simp)).trans (cell_alloc hj)
theorem size_after {w w1 : World} {o : Obj} (hb : Below (w.alloc o).heap.size (w.alloc o) w1) : w.heap.size < w1.heap.size := by
  have := hb.size
  simp at this
  omega

set_option maxHeartbeats 1000000 in
set_option maxRecDepth 20000 in
theorem reply_any (id text : ByteArray) (st se wh : Int) (w : World) (h1 : id.size ≤ maxLen) (h2 : text.size ≤ maxLen) (hT : Halves w) :
    Calls Tryd.prog 40 #[.agg #[.string id, .int .i64 st, .int .i64 se, .int .i64 wh, .string text]] w fun e w' => ReplyQ id text st se wh w w' e := by
  have H1 := Lib.hid h1
  have H2 := Lib.hid h2
  have HT := Lib.hid hT
  clear h1 h2 hT
  cases hI : mayR id text st se wh with
  | false =>
    have HI := Lib.hid hI
    clear hI
    go_enter Tryd.func40, Tryd.ntmps40
    go_wp2_with fail
    refine (mayReply_any id text st se wh _ H1.out H2.out).mono ?_
    rintro e w1 ⟨rfl, hb⟩
    rw [HI.out]
    go_wp2
    go_ret2
    exact .inl ⟨HI.out, rfl, ((Below.refl _ w).alloc (Nat.le_refl _) _).trans (hb.mono (by simp))⟩
  | true =>
    obtain ⟨a, b, c, rfl, rfl, rfl, ha, hb, hc, hi, ht⟩ := mayR_facts hI
    have HI := Lib.hid hI
    have HA := Lib.hid ha
    have HB := Lib.hid hb
    have HC := Lib.hid hc
    have HII := Lib.hid hi
    have HTT := Lib.hid ht
    clear hI ha hb hc hi ht
    go_enter Tryd.func40, Tryd.ntmps40
    go_wp2_with fail
    refine (mayReply_any id text a b c _ H1.out H2.out).mono ?_
    rintro e w1 ⟨rfl, hb⟩
    rw [HI.out]
    have k0 : w1.cell? ⟨w.heap.size, 0, none⟩ = some (.string id) := cell_after hb rfl
    have k1 : w1.cell? ⟨w.heap.size, 1, none⟩ = some (.int .i64 a) := cell_after hb rfl
    have k2 : w1.cell? ⟨w.heap.size, 2, none⟩ = some (.int .i64 b) := cell_after hb rfl
    have k3 : w1.cell? ⟨w.heap.size, 3, none⟩ = some (.int .i64 c) := cell_after hb rfl
    have k4 : w1.cell? ⟨w.heap.size, 4, none⟩ = some (.string text) := cell_after hb rfl
    have hlt : w.heap.size < w1.heap.size := size_after hb
    have hb01 : Below w.heap.size w w1 := ((Below.refl _ w).alloc (Nat.le_refl _) _).trans (hb.mono (by simp))
    have HC3 : Hid (∀ j (h : j < [a, b, c].length), ∃ b' o, some (⟨w1.heap.size, 0, none⟩ : Addr) = some ⟨b', o, none⟩ ∧ (w1.alloc (.cells #[.int .i64 a, .int .i64 b, .int .i64 c] 3)).cell? ⟨b', o + j, none⟩ = some (.int .i64 ([a, b, c][j] : Nat))) := Lib.hid (fun j h => ⟨_, 0, rfl, by
      rw [Nat.zero_add]
      have h3 : j = 0 ∨ j = 1 ∨ j = 2 := by simp at h; omega
      rcases h3 with rfl | rfl | rfl <;> exact cell_alloc rfl⟩)
    clear hb
    go_wp2_with fail
    refine (message_any 2 id text _ 3 3 [a, b, c] _ rfl (by omega) (by have := HA.out; have := HB.out; have := HC.out; simp; omega) HC3.out (by have := HII.out; omega) HTT.out ((HT.out.below hb01).below ((Below.refl _ w1).alloc (Nat.le_refl _) _))).mono ?_
    rintro e w2 ⟨p2, n2, c2, rfl, hl2, hr2, hb2⟩
    have HL2 := Lib.hid hl2
    have HR2 := Lib.hid hr2
    have hb02 : Below w.heap.size w w2 := (hb01.alloc hb01.size _).trans (hb2.mono (by simp; exact Nat.le_succ_of_le hb01.size))
    clear hl2 hr2
    go_wp2
    go_ret2
    exact .inr ⟨HI.out, ⟨p2, n2, c2, rfl, HL2.out, HR2.out, hb02⟩⟩
end Go.Proofs.YtefalhnllkkkhaaDoor
