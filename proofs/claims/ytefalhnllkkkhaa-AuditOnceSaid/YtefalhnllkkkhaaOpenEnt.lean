/- How a journal that came in lies: each entry in seven cells. -/
import Derived.Test.YtefalhnllkkkhaaOpen2
import Derived.Test.YtefalhnllkkkhaaOnce
namespace Go.Proofs.Ytefalhnllkkkhaa
open Go.ChangeShapes Go.WideShapes Go.ChangeAt Go.RowKit
set_option linter.unusedVariables false

theorem undE : Try.prog.underlying 38 = some (.struct (Try.prog.fieldsOf 38)) := by kernel_rfl
theorem undR : Try.prog.underlying 36 = some (.struct (Try.prog.fieldsOf 36)) := by kernel_rfl
theorem cellsI : Try.prog.cellsOf 3 = 1 := by kernel_rfl
theorem cellsS : Try.prog.cellsOf 9 = 1 := by kernel_rfl
theorem cellsR : Try.prog.cellsOf 36 = 5 := by kernel_rfl
theorem cellsE : Try.prog.cellsOf 38 = 7 := by kernel_rfl

section
variable {H : Type} {enc : TypeId × Value → H} {W : World}
theorem list5 {cs : List Value} (h : cs.length = 5) : ∃ a b c d e, cs = [a, b, c, d, e] := by
  match cs, h with
  | [a, b, c, d, e], _ => exact ⟨a, b, c, d, e, rfl⟩
theorem list7 {cs : List Value} (h : cs.length = 7) : ∃ a b c d e f g, cs = [a, b, c, d, e, f, g] := by
  match cs, h with
  | [a, b, c, d, e, f, g], _ => exact ⟨a, b, c, d, e, f, g, rfl⟩

theorem open_rep {m : Nat} {cs : List Value} {y : DataW H × List MemPlace} (h : TrodF enc W m 36 cs y) :
    ∃ r : Rep, cs = [.string r.id, .int .i64 r.status, .int .i64 r.session, .int .i64 r.why, .string r.text] := by
  have hl := struct_len undR h
  rw [cellsR] at hl
  obtain ⟨a, b, c, d, e, rfl⟩ := list5 hl
  obtain ⟨n0, y0, h0⟩ := struct_field undR h 0 9 0 1 (by kernel_rfl) cellsS
  obtain ⟨n1, y1, h1⟩ := struct_field undR h 1 3 1 1 (by kernel_rfl) cellsI
  obtain ⟨n2, y2, h2⟩ := struct_field undR h 2 3 2 1 (by kernel_rfl) cellsI
  obtain ⟨n3, y3, h3⟩ := struct_field undR h 3 3 3 1 (by kernel_rfl) cellsI
  obtain ⟨n4, y4, h4⟩ := struct_field undR h 4 9 4 1 (by kernel_rfl) cellsS
  obtain ⟨s0, e0, _, _⟩ := DataW.trod_string Try.underlying9 h0
  obtain ⟨s1, e1, _, _⟩ := DataW.trod_int Try.underlying3 h1
  obtain ⟨s2, e2, _, _⟩ := DataW.trod_int Try.underlying3 h2
  obtain ⟨s3, e3, _, _⟩ := DataW.trod_int Try.underlying3 h3
  obtain ⟨s4, e4, _, _⟩ := DataW.trod_string Try.underlying9 h4
  simp at e0 e1 e2 e3 e4
  subst e0 e1 e2 e3 e4
  exact ⟨⟨s0, s1, s2, s3, s4⟩, rfl⟩

theorem open_ent {m : Nat} {cs : List Value} {y : DataW H × List MemPlace} (h : TrodF enc W m 38 cs y) : ∃ x : Ent, cs = entCells x := by
  have hl := struct_len undE h
  rw [cellsE] at hl
  obtain ⟨a, b, c, d, e, f, g, rfl⟩ := list7 hl
  obtain ⟨n0, y0, h0⟩ := struct_field undE h 0 3 0 1 (by kernel_rfl) cellsI
  obtain ⟨n1, y1, h1⟩ := struct_field undE h 1 9 1 1 (by kernel_rfl) cellsS
  obtain ⟨n2, y2, h2⟩ := struct_field undE h 2 36 2 5 (by kernel_rfl) cellsR
  obtain ⟨s0, e0, _, _⟩ := DataW.trod_int Try.underlying3 h0
  obtain ⟨s1, e1, _, _⟩ := DataW.trod_string Try.underlying9 h1
  obtain ⟨r, e2⟩ := open_rep h2
  simp at e0 e1 e2
  obtain ⟨e2, e3, e4, e5, e6⟩ := e2
  subst e0 e1 e2 e3 e4 e5 e6
  exact ⟨⟨s0, s1, r⟩, rfl⟩

theorem open_ents {a : Option Addr} {n c : Nat} {d : DataW H} {p : List MemPlace}
    (h : DataW.Trod enc Try.prog W 0 (fun _ => true) true 22 (.slice a n c) d p) :
    ∃ es : List Ent, es.length = n ∧ Cells W a (es.flatMap entCells) ∧ n ≤ c ∧ c ≤ maxLen :=
  open_slice_of entCells Try.underlying22 cellsE (by omega) (fun m cs y h => open_ent h) (fun x => rfl) h
end
end Go.Proofs.Ytefalhnllkkkhaa
