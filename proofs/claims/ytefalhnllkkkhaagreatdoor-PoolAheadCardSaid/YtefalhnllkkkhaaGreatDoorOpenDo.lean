/- What the laws of layer 5 are told of their calls. -/
import Derived.Test.YtefalhnllkkkhaaGreatDoorOpen2
import Derived.Test.YtefalhnllkkkhaaGreatDoorPoolDo
namespace Go.Proofs.YtefalhnllkkkhaaGreatDoor
open Go.ChangeShapes Go.WideShapes Go.ChangeAt Go.RowKit
set_option linter.unusedVariables false

section
variable {H : Type} {enc : TypeId × Value → H} {W : World}
theorem reach_eq : reachBytes = 140737488351232 := by decide
theorem open_slice_of3 {α : Type} (f : α → List Value) (G : α → Prop) {t e : TypeId} {k : Nat} {a : Option Addr} {n c : Nat} {d : DataW H} {p : List MemPlace} (ht : Tryz.prog.underlying t = some (.slice e)) (hk : Tryz.prog.cellsOf e = k) (hk0 : 0 < k) (hb1 : 1 ≤ Tryz.prog.bytesOf e)
    (hf : ∀ m cs y, TrodF enc W m e cs y → ∃ x, cs = f x ∧ G x) (hl : ∀ x, (f x).length = k)
    (h : DataW.Trod enc Tryz.prog W 0 (fun _ => true) true t (.slice a n c) d p) :
    ∃ es : List α, es.length = n ∧ Cells W a (es.flatMap f) ∧ (∀ x ∈ es, G x) ∧ n ≤ c ∧ c ≤ maxLen ∧ (∀ (ts : List TypeId) (ds : List (DataW H)) (j : Nat), (DataW.weightsEach Tryz.prog ts ds).all (· ≤ reachBytes) = true → ts[j]? = some t → ds[j]? = some d → n ≤ 140737488351232) := by
  obtain ⟨fuel, hfu⟩ := h
  rcases DataW.trod_slice ht hfu with ⟨hcs, _⟩ | ⟨x, len, cap, elems, rest, m, _, hcs, hd, hb, hlc, hcm, hel, he, _⟩
  · simp [Value.cells] at hcs
    obtain ⟨rfl, rfl, rfl⟩ := hcs
    exact ⟨[], rfl, Cells.nil _ _, by simp, Nat.le_refl _, by decide, fun _ _ _ _ _ _ => by omega⟩
  · simp [Value.cells] at hcs
    obtain ⟨rfl, rfl, rfl⟩ := hcs
    rw [hk] at he
    obtain ⟨es, hes, hr⟩ := list_of (fun i (x' : α) => W.cells? 0 (x.add (i * k)) k = some (f x') ∧ G x') n (fun i hi => by
      have h1 := he i hi
      rw [List.getElem?_eq_getElem (by omega)] at h1
      obtain ⟨cs, hc1, hc2⟩ := Option.bind_eq_some_iff.1 h1
      obtain ⟨x', rfl, hg⟩ := hf _ _ _ hc2
      exact ⟨x', hc1, hg⟩)
    refine ⟨es, hes, fun hne => ?_, fun y hy => ?_, hlc, hcm, fun ts ds j hs htt hdd => ?_⟩
    · have hpos : 0 < es.length := by
        rcases es with _ | ⟨y, es⟩
        · simp at hne
        · simp
      obtain ⟨b, o, sp⟩ := x
      obtain rfl : sp = none := by
        have h0 := (cells_at (hr 0 hpos).1).2 0 ((f es[0])[0]'(by rw [hl]; exact hk0)) (List.getElem?_eq_getElem _)
        simpa [Addr.add] using World.cell?_spot h0
      refine ⟨b, o, rfl, fun i v hv => ?_⟩
      obtain ⟨k', j, hk', rfl, hj, hv'⟩ := flat_get' f k es (fun x _ => hl x) i v hv
      have := (cells_at (hr k' hk').1).2 j v hv'
      rwa [Go.WideShapes.add_plain, Go.WideShapes.add_plain, Nat.add_assoc] at this
    · obtain ⟨i, hi, rfl⟩ := List.getElem_of_mem hy
      exact (hr i hi).2
    · simp only [Prod.mk.injEq] at hd
      rw [hd.1] at hdd
      have := sized_slice hs htt hdd ht
      rw [List.length_map, List.length_map, hel, reach_eq] at this
      have h2 : n * 1 ≤ (n + rest.length) * Tryz.prog.bytesOf e := Nat.mul_le_mul (Nat.le_add_right _ _) hb1
      omega
theorem undDo : Tryz.prog.underlying 39 = some (.struct (Tryz.prog.fieldsOf 39)) := by kernel_rfl
theorem cellsDo : Tryz.prog.cellsOf 39 = 4 := by kernel_rfl
theorem cellsI1 : Tryz.prog.cellsOf 3 = 1 := by kernel_rfl
theorem cellsB1 : Tryz.prog.cellsOf 37 = 1 := by kernel_rfl
theorem open_do {m : Nat} {cs : List Value} {y : DataW H × List MemPlace} (h : TrodF enc W m 39 cs y) : ∃ x : Do, cs = doCells x ∧ DoOk W x := by
  have hl := struct_len undDo h
  rw [cellsDo] at hl
  obtain ⟨a, b, c, d, rfl⟩ : ∃ a b c d, cs = [a, b, c, d] := by
    match cs, hl with
    | [a, b, c, d], _ => exact ⟨a, b, c, d, rfl⟩
  obtain ⟨n0, y0, h0⟩ := struct_field undDo h 0 3 0 1 (by kernel_rfl) cellsI1
  obtain ⟨n1, y1, h1⟩ := struct_field undDo h 1 3 1 1 (by kernel_rfl) cellsI1
  obtain ⟨n2, y2, h2⟩ := struct_field undDo h 2 3 2 1 (by kernel_rfl) cellsI1
  obtain ⟨n3, y3, h3⟩ := struct_field undDo h 3 37 3 1 (by kernel_rfl) cellsB1
  obtain ⟨s0, e0, _, _⟩ := DataW.trod_int Tryz.underlying3 h0
  obtain ⟨s1, e1, _, _⟩ := DataW.trod_int Tryz.underlying3 h1
  obtain ⟨s2, e2, _, _⟩ := DataW.trod_int Tryz.underlying3 h2
  simp at e0 e1 e2
  subst e0 e1 e2
  have hs : ∃ q n c, d = .slice q n c := by
    rcases DataW.trod_slice Tryz.underlying37 h3 with ⟨hcs, _⟩ | ⟨x, len, cap, _, _, _, _, hcs, _⟩
    · exact ⟨none, 0, 0, by simpa using hcs⟩
    · exact ⟨some x, len, cap, by simpa using hcs⟩
  obtain ⟨q, n, c', rfl⟩ := hs
  obtain ⟨xs, hx, hr, hc, hm, -⟩ := open_bytes (enc := enc) (W := W) (a := q) (n := n) (c := c') (d := y3.1) (p := y3.2) ⟨n3, by simpa [Value.cells] using h3⟩
  exact ⟨⟨s0, s1, s2, q, n, c', xs⟩, rfl, ⟨hr, hx, hc, hm⟩⟩
theorem open_dos {a : Option Addr} {n c : Nat} {d : DataW H} {p : List MemPlace}
    (h : DataW.Trod enc Tryz.prog W 0 (fun _ => true) true 22 (.slice a n c) d p) :
    ∃ es : List Do, es.length = n ∧ Cells W a (es.flatMap doCells) ∧ (∀ x ∈ es, DoOk W x) ∧ n ≤ c ∧ c ≤ maxLen ∧ (∀ (ts : List TypeId) (ds : List (DataW H)) (j : Nat), (DataW.weightsEach Tryz.prog ts ds).all (· ≤ reachBytes) = true → ts[j]? = some 22 → ds[j]? = some d → n ≤ 140737488351232) :=
  open_slice_of3 doCells (DoOk W) Tryz.underlying22 cellsDo (by omega) (by rw [show Tryz.prog.bytesOf 39 = 48 from by kernel_rfl]; omega) (fun m cs y h => open_do h) (fun x => rfl) h
end
end Go.Proofs.YtefalhnllkkkhaaGreatDoor
