/- Texts: wire.Text. -/
import Derived.Test.YtefalhnllkkkhaaGreatDoorPutP
import Derived.Lib.AppendZeros
import Derived.Lib.AppendStr
namespace Go.Proofs.YtefalhnllkkkhaaGreatDoor
open Go.RowKit
set_option linter.unusedVariables false

/-- A text's bytes. -/
def strB (s : ByteArray) : List UInt8 := s.data.toList
theorem strB_length (s : ByteArray) : (strB s).length = s.size := by simp [strB]
theorem strCells_eq (s : ByteArray) : Lib.strCells s = B8s (strB s) := rfl

/-- append(b, s...), s a text. -/
theorem wp_appstr {ops : Array Oper} {rest : List Oper} {o : Oper} {a : Act} {Q : Exit → Act → World → Prop} {w0 W : World} {base n : Nat} (hgd : o.guard = none) (s x : Operand)
    (ho : o.op = .call { callee := .builtin .append, args := #[s, x], argTypes := #[37, 9] })
    (v : Value) (xs : List UInt8) (t : ByteArray) (hs : a.eval s = v) (hx : a.eval x = .string t)
    (HO : W.ownsRow base 5 1 v n (B8s xs)) (HB : Below base w0 W) (hbase : base ≤ W.heap.size) (hl : n + t.size ≤ 140737488355328)
    (h : ∀ v1 w1, w1.ownsRow base 5 1 v1 (n + t.size) (B8s (xs ++ strB t)) → Below base w0 w1 → wpList Tryz.prog ops Q rest (a.put o.dst v1) w1) :
    wpList Tryz.prog ops Q (o :: rest) a W := by
  obtain ⟨i0, hi, hz0, hz1, hz2⟩ := info_parts info8
  refine Lib.wpList_append_own_string W hgd s x 37 9 ho base 5 i0 Tryz.underlying37 Tryz.underlying9 hi hz0 hz1 hz2 v n (B8s xs) hs HO t hx (by simp only [maxLen]; omega) hl hbase ?_
  intro v1 w1 hown hg _
  refine h v1 w1 (by rw [show B8s (xs ++ strB t) = B8s xs ++ Lib.strCells t from by rw [strCells_eq]; simp [B8s]]; exact hown) (HB.grown hg hbase fun k hk => (HO.lt k hk).1)

/-- A row of the call's own whose bytes are these. -/
def OwnQ (xs : List UInt8) (w w' : World) (e : Ending) : Prop :=
  ∃ v', e = .returned v' ∧ w'.ownsRow w.heap.size 5 1 v' xs.length (B8s xs) ∧ Below w.heap.size w w'

set_option maxHeartbeats 400000 in
set_option maxRecDepth 20000 in
theorem text_any (p : Option Addr) (n c : Nat) (xs : List UInt8) (t : ByteArray) (w : World) (hx : xs.length = n) (hbig : n + 9 + t.size ≤ 140737488355328) (hr : Rd w p xs) :
    Calls Tryz.prog 52 #[.slice p n c, .string t] w fun e w' => OwnQ (xs ++ varN t.size ++ strB t) w w' e := by
  have HX := Lib.hid hx
  have HB := Lib.hid hbig
  clear hx hbig
  go_enter Tryz.func52, Tryz.ntmps52
  go_wp2_with fail
  refine (put_any p n c xs t.size w HX.out (by have := HB.out; omega) (by have := HB.out; omega) hr).mono ?_
  rintro e w1 ⟨v1, rfl, hown, hb⟩
  have HO := Lib.hid hown
  have HL : Hid ((xs ++ varN t.size).length + t.size ≤ 140737488355328) := Lib.hid (by
    have := varN_le9 (n := t.size) (by have := HB.out; omega)
    rw [List.length_append, HX.out]
    have := HB.out
    omega)
  have HE : Hid ((xs ++ varN t.size).length + t.size = (xs ++ varN t.size ++ strB t).length) := Lib.hid (by rw [List.length_append (bs := strB t), strB_length])
  clear hown
  obtain ⟨ys, hys⟩ : ∃ ys, ys = xs ++ varN t.size := ⟨_, rfl⟩
  rw [← hys] at HO HL HE
  have HYS := Lib.hid hys
  clear hys
  go_wp2_with (at_builtin; refine wp_appstr (w0 := w) (base := w.heap.size) (n := ys.length) rfl (.tmp 8) (.tmp 9) rfl _ ys t rfl rfl HO.out hb hb.size HL.out ?_)
  intro v2 w2 hown2 hb2
  have HO2 := Lib.hid hown2
  clear hown2
  go_wp2
  go_ret
  exact ⟨_, rfl, by rw [← HYS.out, ← HE.out]; exact HO2.out, hb2⟩
end Go.Proofs.YtefalhnllkkkhaaGreatDoor
