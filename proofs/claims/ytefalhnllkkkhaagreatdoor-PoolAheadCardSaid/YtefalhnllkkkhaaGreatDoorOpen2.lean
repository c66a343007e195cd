/- What a law's walk is told of an argument that is a slice of structs, or a struct. -/
import Derived.Test.YtefalhnllkkkhaaGreatDoorOpen
namespace Go.Proofs.YtefalhnllkkkhaaGreatDoor
open Go.ChangeShapes Go.WideShapes Go.ChangeAt Go.RowKit
set_option linter.unusedVariables false

section
variable {H : Type} {enc : TypeId × Value → H} {W : World}
abbrev TrodF (enc : TypeId × Value → H) (W : World) (n : Nat) (t : TypeId) (cs : List Value) (x : DataW H × List MemPlace) : Prop :=
  DataW.trod enc Tryz.prog W 0 (fun _ => true) true n t cs = some x

theorem struct_field {t : TypeId} {fuel : Nat} {cs : List Value} {x : DataW H × List MemPlace} (ht : Tryz.prog.underlying t = some (.struct (Tryz.prog.fieldsOf t))) (h : TrodF enc W fuel t cs x)
    (i : Nat) (ft : TypeId) (off k : Nat) (hf : ((Tryz.prog.fieldsOf t)[i]?).map (fun f => (f.type, f.offset)) = some (ft, off)) (hk : Tryz.prog.cellsOf ft = k) :
    ∃ n y, TrodF enc W n ft ((cs.drop off).take k) y := by
  obtain ⟨xs, n, _, _, _, hl, hx⟩ := DataW.trod_struct ht h
  obtain ⟨f, hf1, hf2⟩ := Option.map_eq_some_iff.1 hf
  simp only [Prod.mk.injEq] at hf2
  obtain ⟨rfl, rfl⟩ := hf2
  subst hk
  have hi : i < xs.length := by rw [hl]; exact (Array.getElem?_eq_some_iff.1 hf1).1
  exact ⟨n, xs[i], by rw [TrodF, hx i f hf1, List.getElem?_eq_getElem hi]⟩

theorem struct_len {t : TypeId} {fuel : Nat} {cs : List Value} {x : DataW H × List MemPlace} (ht : Tryz.prog.underlying t = some (.struct (Tryz.prog.fieldsOf t))) (h : TrodF enc W fuel t cs x) : cs.length = Tryz.prog.cellsOf t := by
  obtain ⟨_, _, _, _, hl, _⟩ := DataW.trod_struct ht h
  exact hl

theorem list_of {α : Type} (R : Nat → α → Prop) : ∀ n, (∀ i, i < n → ∃ x, R i x) → ∃ l : List α, l.length = n ∧ ∀ i (h : i < l.length), R i l[i]
  | 0, _ => ⟨[], rfl, fun i h => absurd h (Nat.not_lt_zero _)⟩
  | n + 1, h => by
    obtain ⟨l, hl, hr⟩ := list_of R n (fun i hi => h i (by omega))
    obtain ⟨x, hx⟩ := h n (by omega)
    refine ⟨l ++ [x], by simp [hl], fun i hi => ?_⟩
    rcases Nat.lt_or_ge i l.length with h' | h'
    · rw [List.getElem_append_left h']; exact hr i h'
    · have : i = l.length := by simp at hi; omega
      subst this
      simpa [hl] using hx

theorem cells_at {a : Addr} {k : Nat} {cs : List Value} (h : W.cells? 0 a k = some cs) : cs.length = k ∧ ∀ i v, cs[i]? = some v → W.cell? (a.add i) = some v := by
  unfold World.cells? at h
  rw [if_pos (Nat.zero_le _)] at h
  have key : ∀ (n : Nat) (cs : List Value), (List.range n).mapM (fun i => W.cell? (a.add i)) = some cs → cs.length = n ∧ ∀ i v, cs[i]? = some v → W.cell? (a.add i) = some v := by
    intro n
    induction n with
    | zero => intro cs h; simp at h; subst h; exact ⟨rfl, fun i v h => by simp at h⟩
    | succ n ih =>
      intro cs h
      rw [List.range_succ, List.mapM_append] at h
      obtain ⟨xs, hxs, hb⟩ := Option.bind_eq_some_iff.1 h
      obtain ⟨ys, hys, hb⟩ := Option.bind_eq_some_iff.1 hb
      rw [List.mapM_cons, List.mapM_nil] at hys
      obtain ⟨y, hy, hb2⟩ := Option.bind_eq_some_iff.1 hys
      obtain rfl : ys = [y] := by simpa using hb2.symm
      obtain rfl : cs = xs ++ [y] := by simpa using hb.symm
      obtain ⟨hl, hx⟩ := ih xs hxs
      refine ⟨by simp [hl], fun i v hv => ?_⟩
      rcases Nat.lt_or_ge i xs.length with h' | h'
      · rw [List.getElem?_append_left h'] at hv; exact hx i v hv
      · rw [List.getElem?_append_right h'] at hv
        have : i - xs.length = 0 := by
          have := (List.getElem?_eq_some_iff.1 hv).1
          simp at this
          omega
        rw [this] at hv
        simp at hv
        subst hv
        rwa [show i = n from by omega]
  exact key k cs h

theorem flat_get' {α : Type} (f : α → List Value) (c : Nat) : ∀ (es : List α), (∀ x ∈ es, (f x).length = c) → ∀ (i : Nat) (v : Value), (es.flatMap f)[i]? = some v → ∃ (k j : Nat) (h : k < es.length), i = k * c + j ∧ j < c ∧ (f es[k])[j]? = some v
  | [], _, i, v, h => by simp at h
  | y :: es, hc, i, v, h => by
    rw [List.flatMap_cons] at h
    have hy := hc y (by simp)
    rcases Nat.lt_or_ge i (f y).length with h' | h'
    · rw [List.getElem?_append_left h'] at h
      exact ⟨0, i, by simp, by omega, by omega, by simpa using h⟩
    · rw [List.getElem?_append_right h'] at h
      obtain ⟨k, j, hk, e, hj, hv⟩ := flat_get' f c es (fun x hx => hc x (by simp [hx])) _ v h
      exact ⟨k + 1, j, by simp; omega, by rw [Nat.succ_mul]; omega, hj, by simpa using hv⟩

/-- A slice of elements of k cells, each read by 'f'. -/
theorem open_slice_of {α : Type} (f : α → List Value) {t e : TypeId} {k : Nat} {a : Option Addr} {n c : Nat} {d : DataW H} {p : List MemPlace} (ht : Tryz.prog.underlying t = some (.slice e)) (hk : Tryz.prog.cellsOf e = k) (hk0 : 0 < k)
    (hf : ∀ m cs y, TrodF enc W m e cs y → ∃ x, cs = f x) (hl : ∀ x, (f x).length = k)
    (h : DataW.Trod enc Tryz.prog W 0 (fun _ => true) true t (.slice a n c) d p) :
    ∃ es : List α, es.length = n ∧ Cells W a (es.flatMap f) ∧ n ≤ c ∧ c ≤ maxLen := by
  obtain ⟨fuel, hfu⟩ := h
  rcases DataW.trod_slice ht hfu with ⟨hcs, _⟩ | ⟨x, len, cap, elems, rest, m, _, hcs, _, hb, hlc, hcm, hel, he, _⟩
  · simp [Value.cells] at hcs
    obtain ⟨rfl, rfl, rfl⟩ := hcs
    exact ⟨[], rfl, Cells.nil _ _, Nat.le_refl _, by decide⟩
  · simp [Value.cells] at hcs
    obtain ⟨rfl, rfl, rfl⟩ := hcs
    rw [hk] at he
    obtain ⟨es, hes, hr⟩ := list_of (fun i (x' : α) => W.cells? 0 (x.add (i * k)) k = some (f x')) n (fun i hi => by
      have h1 := he i hi
      rw [List.getElem?_eq_getElem (by omega)] at h1
      obtain ⟨cs, hc1, hc2⟩ := Option.bind_eq_some_iff.1 h1
      obtain ⟨x', rfl⟩ := hf _ _ _ hc2
      exact ⟨x', hc1⟩)
    refine ⟨es, hes, fun hne => ?_, hlc, hcm⟩
    have hpos : 0 < es.length := by
      rcases es with _ | ⟨y, es⟩
      · simp at hne
      · simp
    obtain ⟨b, o, sp⟩ := x
    obtain rfl : sp = none := by
      have h0 := (cells_at (hr 0 hpos)).2 0 ((f es[0])[0]'(by rw [hl]; exact hk0)) (List.getElem?_eq_getElem _)
      simpa [Addr.add] using World.cell?_spot h0
    refine ⟨b, o, rfl, fun i v hv => ?_⟩
    obtain ⟨k', j, hk', rfl, hj, hv'⟩ := flat_get' f k es (fun x _ => hl x) i v hv
    have := (cells_at (hr k' hk')).2 j v hv'
    rwa [Go.WideShapes.add_plain, Go.WideShapes.add_plain, Nat.add_assoc] at this
end
end Go.Proofs.YtefalhnllkkkhaaGreatDoor
