/- What a law's walk is told of an argument that is a reply; the table of tens as a row lays it. -/
import Derived.Test.YtefalhnllkkkhaaDoorOpen2
import Derived.Test.YtefalhnllkkkhaaDoorTab
import Derived.Test.YtefalhnllkkkhaaDoorDigits
namespace Go.Proofs.YtefalhnllkkkhaaDoor
open Go.ChangeShapes Go.WideShapes Go.ChangeAt Go.RowKit
set_option linter.unusedVariables false

theorem undR : Tryd.prog.underlying 35 = some (.struct (Tryd.prog.fieldsOf 35)) := by kernel_rfl
theorem cellsI : Tryd.prog.cellsOf 3 = 1 := by kernel_rfl
theorem cellsS : Tryd.prog.cellsOf 9 = 1 := by kernel_rfl
theorem cellsR : Tryd.prog.cellsOf 35 = 5 := by kernel_rfl
theorem list5 {cs : List Value} (h : cs.length = 5) : ∃ a b c d e, cs = [a, b, c, d, e] := by
  match cs, h with
  | [a, b, c, d, e], _ => exact ⟨a, b, c, d, e, rfl⟩
set_option maxRecDepth 100000 in
theorem open_reply {H : Type} {enc : TypeId × Value → H} {W : World} {b0 : Nat} {v : Value} {d : DataW H} {p : List MemPlace} (hval : Value.okWide Tryd.prog W .any b0 35 v) (h0 : DataW.Trod enc Tryd.prog W 0 (fun _ => true) true 35 v d p) :
    ∃ (s0 : ByteArray) (s1 s2 s3 : Int) (s4 : ByteArray), v = .agg #[.string s0, .int .i64 s1, .int .i64 s2, .int .i64 s3, .string s4] ∧ s0.size ≤ maxLen ∧ s4.size ≤ maxLen := by
  have hv := okWide_struct undR hval
  obtain ⟨vs, hv⟩ := hv
  have ev := hv.1
  clear hv
  subst ev
  obtain ⟨m, h⟩ := h0
  have hl := struct_len undR h
  rw [cellsR] at hl
  obtain ⟨a, b, c, d, e, hcs⟩ := list5 hl
  rw [hcs] at h
  obtain ⟨n0, y0, h0⟩ := struct_field undR h 0 9 0 1 (by kernel_rfl) cellsS
  obtain ⟨n1, y1, h1⟩ := struct_field undR h 1 3 1 1 (by kernel_rfl) cellsI
  obtain ⟨n2, y2, h2⟩ := struct_field undR h 2 3 2 1 (by kernel_rfl) cellsI
  obtain ⟨n3, y3, h3⟩ := struct_field undR h 3 3 3 1 (by kernel_rfl) cellsI
  obtain ⟨n4, y4, h4⟩ := struct_field undR h 4 9 4 1 (by kernel_rfl) cellsS
  obtain ⟨s0, e0, _, z0⟩ := DataW.trod_string Tryd.underlying9 h0
  obtain ⟨s1, e1, _, _⟩ := DataW.trod_int Tryd.underlying3 h1
  obtain ⟨s2, e2, _, _⟩ := DataW.trod_int Tryd.underlying3 h2
  obtain ⟨s3, e3, _, _⟩ := DataW.trod_int Tryd.underlying3 h3
  obtain ⟨s4, e4, _, z4⟩ := DataW.trod_string Tryd.underlying9 h4
  simp at e0 e1 e2 e3 e4
  subst e0 e1 e2 e3 e4
  refine ⟨s0, s1, s2, s3, s4, ?_, z0, z4⟩
  congr 1
  apply Array.ext'
  simpa [Value.cells] using hcs

theorem tens_data {H : Type} : (Rows.laid_internal_strconv_uint64pow10 : DataW H) = Lib.tabData .u64 Lib.pow10Tab := rfl
theorem gTens : Tryd.prog.globalNamed "internal/strconv.uint64pow10" = some 4 := by kernel_rfl
theorem tens_of_laid {laid : List (String × DataW Unit)} {W : World} (h : laidMetH Tryd.prog laid W) (hp : (laid.all fun x => x.2.handleName?.isNone) = true)
    (hm : ("internal/strconv.uint64pow10", Rows.laid_internal_strconv_uint64pow10) ∈ laid) : Tens W :=
  tab_of_laid (t := 126) (e := 52) (n := 20) h hp (tens_data ▸ hm) gTens (by kernel_rfl) (by kernel_rfl) (by kernel_rfl) (by kernel_rfl) (by kernel_rfl)
end Go.Proofs.YtefalhnllkkkhaaDoor
