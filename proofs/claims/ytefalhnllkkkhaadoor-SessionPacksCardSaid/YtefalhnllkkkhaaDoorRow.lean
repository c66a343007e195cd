/- A row of changes of a call's own: append of one change, and what it holds. -/
import Derived.Test.YtefalhnllkkkhaaDoorSpoil
namespace Go.Proofs.YtefalhnllkkkhaaDoor
open Go.RowKit
set_option linter.unusedVariables false

abbrev ChR := ByteArray × Value × List UInt8
def chRow (rows : List ChR) : List Value := rows.flatMap fun r => [.string r.1, r.2.1, .bool false]
theorem chRow_snoc (rows : List ChR) (r : ChR) : chRow (rows ++ [r]) = chRow rows ++ [.string r.1, r.2.1, .bool false] := by simp [chRow]
theorem chRow_length (rows : List ChR) : (chRow rows).length = rows.length * 3 := by
  induction rows with
  | nil => rfl
  | cons r rows ih =>
    have : chRow (r :: rows) = [.string r.1, r.2.1, .bool false] ++ chRow rows := rfl
    rw [this, List.length_append, ih]
    simp
    omega
theorem chRow_get (rows : List ChR) (i : Nat) (r : ChR) (h : rows[i]? = some r) : (chRow rows)[i * 3]? = some (.string r.1) ∧ (chRow rows)[i * 3 + 1]? = some r.2.1 ∧ (chRow rows)[i * 3 + 2]? = some (.bool false) := by
  induction rows generalizing i with
  | nil => simp at h
  | cons x rows ih =>
    have e : chRow (x :: rows) = .string x.1 :: x.2.1 :: .bool false :: chRow rows := rfl
    rw [e]
    cases i with
    | zero => simp at h; subst h; simp
    | succ i =>
      have := ih i (by simpa using h)
      rw [show (i + 1) * 3 = i * 3 + 1 + 1 + 1 from by omega, show i * 3 + 1 + 1 + 1 + 1 = (i * 3 + 1) + 1 + 1 + 1 from by omega, show i * 3 + 1 + 1 + 1 + 2 = (i * 3 + 2) + 1 + 1 + 1 from by omega]
      simpa using this

/-- A row of changes, and the bytes of each in a row of its own. -/
structure PackAt (w : World) (base : Nat) (v : Value) (rows : List ChR) : Prop where
  own : w.ownsRow base 40 3 v rows.length (chRow rows)
  each : ∀ r ∈ rows, w.ownsRow base 5 1 r.2.1 r.2.2.length (B8s r.2.2)
theorem PackAt.nil (w : World) (base : Nat) : PackAt w base (.slice none 0 0) [] := ⟨World.ownsRow_nil _ _ _ _, fun r h => by cases h⟩
theorem PackAt.later {w w' : World} {base : Nat} {v : Value} {rows : List ChR} (h : PackAt w base v rows) (hb : Below w.heap.size w w') : PackAt w' base v rows :=
  ⟨own_later h.own hb, fun r hr => own_later (h.each r hr) hb⟩
theorem infoCh : (Tryd.prog.info? 40).map (fun i => (i.zero, i.size, i.bytes)) = some (some (.agg #[.string ⟨#[]⟩, .slice none 0 0, .bool false]), 3, 48) := by kernel_rfl

theorem ch_news (W : World) (K : ByteArray) (q : Option Addr) (m d : Nat) (j : Nat) (u : Value) (h : [.string K, .slice q m d, .bool false][j]? = some u) :
    (W.alloc (.cells #[.string K, .slice q m d, .bool false] 40)).cell? ((⟨W.heap.size, 0, none⟩ : Addr).add j) = some u := by
  have hj : j = 0 ∨ j = 1 ∨ j = 2 := by
    have := (List.getElem?_eq_some_iff.1 h).1
    simp at this
    omega
  rcases hj with rfl | rfl | rfl
  · cases h; exact cell_alloc rfl
  · cases h; exact cell_alloc rfl
  · cases h; exact cell_alloc rfl

theorem wp_appch {ops : Array Oper} {rest : List Oper} {o : Oper} {a : Act} {Q : Exit → Act → World → Prop} {w0 W : World} {base : Nat} (hgd : o.guard = none) (s x : Operand)
    (ho : o.op = .call { callee := .builtin .append, args := #[s, x], argTypes := #[36, 36] })
    (v : Value) (rows : List ChR) (K : ByteArray) (q : Option Addr) (m d : Nat) (xs : List UInt8) (hs : a.eval s = v) (hx : a.eval x = .slice (some ⟨W.heap.size, 0, none⟩) 1 1)
    (hxl : xs.length = m) (HX : W.ownsRow base 5 1 (.slice q m d) m (B8s xs)) (HO : PackAt W base v rows) (HB : Below base w0 W) (hbase : base ≤ W.heap.size) (hl : rows.length ≤ 1000)
    (h : ∀ v1 w1, PackAt w1 base v1 (rows ++ [(K, .slice q m d, xs)]) → Below base w0 w1 → wpList Tryd.prog ops Q rest (a.put o.dst v1) w1) :
    wpList Tryd.prog ops Q (o :: rest) a (W.alloc (.cells #[.string K, .slice q m d, .bool false] 40)) := by
  obtain ⟨i0, hi, hz0, hz1, hz2⟩ := info_parts infoCh
  subst hxl
  refine wpList_append_own _ hgd s x 36 ho base 40 i0 (.agg #[.string ⟨#[]⟩, .slice none 0 0, .bool false]) 3 48 Tryd.underlying36 hi hz0 hz1 hz2 rfl (by decide) v rows.length (chRow rows) hs (HO.own.alloc _) ⟨W.heap.size, 0, none⟩ 1 1 [.string K, .slice q xs.length d, .bool false] hx rfl
    (ch_news W K q xs.length d) (by simp [Value.oneCell']) (by simp only [maxLen]; omega) (by omega) (by simp; omega) ?_
  intro v1 w1 hown hg _
  have hb1 : Below base w0 w1 := (HB.alloc hbase _).grown hg (by simp; omega) (fun k hk => (HO.own.lt k hk).1)
  have hkeep : ∀ (sv : Value) (ys : List UInt8), W.ownsRow base 5 1 sv ys.length (B8s ys) → w1.ownsRow base 5 1 sv ys.length (B8s ys) := fun sv ys hy => by
    refine (hy.alloc _).kept hg ?_
    rcases hy.2 with ⟨rfl, _⟩ | ⟨g, cap, cur, rfl, _, hgb, _⟩
    · exact .inl rfl
    · refine .inr fun e' => ?_
      have e' := e'.symm
      rcases HO.own.2 with ⟨e, _⟩ | ⟨g2, cap2, cur2, e, _, hgb2, _⟩
      · rw [e] at e'; simp [Value.ownBlock] at e'
      · rw [e] at e'
        have e3 : g2 = g := by simpa [Value.ownBlock] using e'
        rw [e3, hgb] at hgb2
        cases hgb2
  refine h v1 w1 ⟨?_, ?_⟩ hb1
  · rw [chRow_snoc, List.length_append]; exact hown
  · intro r hr
    rcases List.mem_append.1 hr with hr | hr
    · exact hkeep _ _ (HO.each r hr)
    · rw [List.mem_singleton.1 hr]
      exact hkeep _ _ HX

theorem PackAt.chs {w : World} {base : Nat} {v : Value} {rows : List ChR} (h : PackAt w base v rows) : ChsAt w v (rows.map fun r => (r.1, r.2.2)) := by
  rcases h.own.2 with ⟨rfl, h0⟩ | ⟨g, cap, cur, rfl, hb, hh, h1, h2, h3, h4⟩
  · exact ⟨none, 0, 0, rfl, by simpa using h0, Nat.le_refl _, by simp, fun h => absurd h (by omega)⟩
  · refine ⟨_, _, cap, rfl, by simp, h1, h2, fun hn => ⟨g, 0, rfl, fun i K xs hi => ?_⟩⟩
    obtain ⟨r, hr, e⟩ : ∃ r, rows[i]? = some r ∧ (r.1, r.2.2) = (K, xs) := by
      rw [List.getElem?_map] at hi
      cases hr : rows[i]? with
      | none => rw [hr] at hi; cases hi
      | some r => rw [hr] at hi; exact ⟨r, rfl, by simpa using hi⟩
    obtain ⟨K', sv, xs'⟩ := r
    simp only [Prod.mk.injEq] at e
    obtain ⟨rfl, rfl⟩ := e
    have ho := h.each _ (List.mem_of_getElem? hr)
    obtain ⟨q, d, e, hrd, -, -, -⟩ := own_rd ho
    obtain ⟨q', d', e', hle⟩ := own_slice ho
    simp only at e e'
    subst e
    cases e'
    obtain ⟨g0, g1, g2⟩ := chRow_get rows i _ hr
    have hcell : ∀ j u, (chRow rows)[j]? = some u → w.cell? ⟨g, j, none⟩ = some u := fun j u hj => by
      have hj2 : j < rows.length * 3 := by have := (List.getElem?_eq_some_iff.1 hj).1; rw [chRow_length] at this; exact this
      have : cur.toList[j]? = some u := by
        rw [← h4, List.getElem?_take_of_lt hj2] at hj
        exact hj
      simp only [World.cell?, hh]
      simpa using this
    exact ⟨q, _, d, rfl, hrd, by simpa using hcell _ _ g0, by simpa using hcell _ _ g1, by simpa using hcell _ _ g2⟩
/-- One change of the row. -/
theorem PackAt.at {w : World} {base : Nat} {v : Value} {rows : List ChR} (h : PackAt w base v rows) (k : Nat) (hk : k < rows.length) :
    ∃ g c K q m d xs, v = .slice (some ⟨g, 0, none⟩) rows.length c ∧ rows.length ≤ c ∧ w.cell? ⟨g, k * 3, none⟩ = some (.string K) ∧ w.cell? ⟨g, k * 3 + 1, none⟩ = some (.slice q m d) ∧ w.cell? ⟨g, k * 3 + 2, none⟩ = some (.bool false) ∧ m ≤ maxLen ∧
      w.ownsRow base 5 1 (.slice q m d) m (B8s xs) := by
  rcases h.own.2 with ⟨rfl, h0⟩ | ⟨g, cap, cur, rfl, hb, hh, h1, h2, h3, h4⟩
  · omega
  · obtain ⟨⟨K, sv, xs⟩, hr⟩ : ∃ r, rows[k]? = some r := ⟨_, List.getElem?_eq_getElem hk⟩
    have ho := h.each _ (List.mem_of_getElem? hr)
    obtain ⟨q, d, e, -, -, hm, -⟩ := own_rd ho
    simp only at e
    subst e
    obtain ⟨g0, g1, g2⟩ := chRow_get rows k _ hr
    have hcell : ∀ j u, (chRow rows)[j]? = some u → w.cell? ⟨g, j, none⟩ = some u := fun j u hj => by
      have hj2 : j < rows.length * 3 := by have := (List.getElem?_eq_some_iff.1 hj).1; rw [chRow_length] at this; exact this
      have : cur.toList[j]? = some u := by
        rw [← h4, List.getElem?_take_of_lt hj2] at hj
        exact hj
      simp only [World.cell?, hh]
      simpa using this
    exact ⟨g, cap, K, q, _, d, xs, rfl, h1, hcell _ _ g0, hcell _ _ g1, hcell _ _ g2, hm, ho⟩
theorem own_byteRow {w : World} {base : Nat} {q : Option Addr} {m d : Nat} {xs : List UInt8} (h : w.ownsRow base 5 1 (.slice q m d) m (B8s xs)) : ByteRow w base q m := fun hm => by
  obtain ⟨g, cap, cur, e, hb, hh, hx, hc, hcm⟩ := own8 h hm
  cases e
  refine ⟨g, 0, rfl, hb, fun i hi => ⟨xs[i]'(by omega), ?_, ?_⟩⟩
  · simp only [World.cell?, hh, Nat.zero_add]
    simp [B8s, List.getElem?_append_left, hx, hi]
  · exact frozen_of hh
end Go.Proofs.YtefalhnllkkkhaaDoor
