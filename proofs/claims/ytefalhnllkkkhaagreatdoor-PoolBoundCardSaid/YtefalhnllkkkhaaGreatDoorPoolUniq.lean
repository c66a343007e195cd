/- Clone, Compact, Contains of a row of ints of its own. -/
import Derived.Test.YtefalhnllkkkhaaGreatDoorPoolTable
import Derived.Lib.SlicesCompact
namespace Go.Proofs.YtefalhnllkkkhaaGreatDoor
open Go.RowKit Go.Shelf Go.Sort
set_option linter.unusedVariables false

theorem cellsI_at {w : World} {base n c g : Nat} {zs : List Int} (h : w.ownsRow base 3 1 (.slice (some ⟨g, 0, none⟩) n c) n (zs.map (Value.int .i64))) : ∀ j, j < zs.length → w.cell? ⟨g, 0 + j, none⟩ = some (.int .i64 (zs.getD j 0)) := fun j hj => by
  have hl : (zs.map (Value.int .i64)).length = n * 1 := h.1
  obtain ⟨g', e, -, -, hc⟩ := own_at1 h (by simp at hl; omega)
  cases e
  rw [Nat.zero_add]
  exact hc j _ (by rw [List.getElem?_map, List.getElem?_eq_getElem hj, List.getD_eq_getElem?_getD, List.getElem?_eq_getElem hj]; rfl)
set_option maxRecDepth 20000 in
theorem cloneI_nil (w : World) : Calls Tryz.prog 25 #[.slice none 0 0] w fun e w' => e = .returned (.slice none 0 0) ∧ w' = w := by
  have q22 : ∀ (w : World) (a : Option Addr) (n c n' c' : Nat), (binOp .eql 63 (.slice a n c) (.slice none n' c')).run Tryz.prog w = .ok (.bool a.isNone) w := fun w a n c n' c' => Lib.run_eql_slice_nil w _ _ a n c n' c' Tryz.underlying63
  go_enter Tryz.func25, Tryz.ntmps25
  go_wp2_with fail
  go_ret
  exact ⟨rfl, rfl⟩
theorem cloneI_any (base n : Nat) (v : Value) (zs : List Int) (w : World) (h : w.ownsRow base 3 1 v n (zs.map (Value.int .i64))) (hn : n ≤ 1000000) :
    Calls Tryz.prog 25 #[v] w fun e w' => ∃ v', e = .returned v' ∧ w'.ownsRow w.heap.size 3 1 v' n (zs.map (Value.int .i64)) ∧ Below w.heap.size w w' := by
  have hl : zs.length = n := by have := h.1; simpa using this
  have h0 := h
  rcases h.2 with ⟨rfl, e0⟩ | ⟨g, cap, cur, rfl, hb, hg, h1, h2, h3, h4⟩
  · subst e0
    obtain rfl : zs = [] := List.eq_nil_of_length_eq_zero hl
    refine (cloneI_nil w).mono ?_
    rintro e w' ⟨rfl, rfl⟩
    exact ⟨_, rfl, World.ownsRow_nil _ _ _ _, Below.refl _ _⟩
  · rcases Nat.eq_zero_or_pos n with e0 | e0
    · subst e0
      obtain rfl : zs = [] := List.eq_nil_of_length_eq_zero hl
      refine (Tryz.slices_Clone_int_zero ⟨g, 0, none⟩ cap w).mono ?_
      rintro e w' ⟨v', rfl, ho, -, hb⟩
      exact ⟨_, rfl, ho, hb⟩
    · refine (Tryz.slices_Clone_int g 0 n cap zs w (by omega) (by omega) (cellsI_at h0)).mono ?_
      rintro e w' ⟨v', rfl, ho, -, hb⟩
      rw [← hl, List.take_length, hl] at ho
      exact ⟨_, rfl, ho, hb⟩
theorem compact_uniq {zs : List Int} (h : zs.Nodup) : Lib.compact zs = zs := by
  refine Lib.compact_all zs fun j hj => ?_
  rcases Nat.eq_zero_or_pos j with h0 | h0
  · exact Lib.keeps_lt_one _ _ (by omega)
  · refine Lib.keeps_pos ?_
    rw [getElem!_pos zs.toArray j (by simpa using hj), getElem!_pos zs.toArray (j - 1) (by simp; omega)]
    simp only [List.getElem_toArray]
    intro e
    have := (List.getElem_inj h).1 e
    omega
theorem below_setCellsN {B b : Nat} {a : World} (hb : B ≤ b) : ∀ (vs : List Value) (o : Nat) (w : World), Below B a w → Below B a (w.setCells b o vs)
  | [], _, _, h => h
  | v :: r, o, w, h => below_setCellsN hb r (o + 1) _ (h.setCell (by exact hb) v)
theorem compactI_any (base n : Nat) (v : Value) (zs : List Int) (w : World) (h : w.ownsRow base 3 1 v n (zs.map (Value.int .i64))) (hn : n ≤ 1000000) (hu : zs.Nodup) :
    Calls Tryz.prog 24 #[v] w fun e w' => (∃ q c, e = .returned (.slice q n c)) ∧ Below base w w' := by
  have hl : zs.length = n := by have := h.1; simpa using this
  have h0 := h
  rcases h.2 with ⟨rfl, e0⟩ | ⟨g, cap, cur, rfl, hb, hg, h1, h2, h3, h4⟩
  · subst e0
    refine (Tryz.slices_Compact_int_empty none 0 w).mono ?_
    rintro e w' ⟨rfl, rfl⟩
    exact ⟨⟨_, _, rfl⟩, Below.refl _ _⟩
  · rcases Nat.eq_zero_or_pos n with e0 | e0
    · subst e0
      refine (Tryz.slices_Compact_int_empty _ cap w).mono ?_
      rintro e w' ⟨rfl, rfl⟩
      exact ⟨⟨_, _, rfl⟩, Below.refl _ _⟩
    · refine (Tryz.slices_Compact_int_cells g 0 n cap zs w (by omega) (by omega) h1 (cellsI_at h0) (fun j hj => frozenC hg)).mono ?_
      rintro e w' ⟨rfl, q, rfl⟩
      have e1 : zs.take n = zs := by rw [← hl, List.take_length]
      rw [e1, compact_uniq hu, hl]
      exact ⟨⟨_, _, rfl⟩, below_setCellsN hb _ _ _ (below_drewN' w q)⟩
theorem containsI_any (base n : Nat) (v : Value) (zs : List Int) (x : Int) (w : World) (h : w.ownsRow base 3 1 v n (zs.map (Value.int .i64))) (hn : n ≤ 1000000) :
    Calls Tryz.prog 26 #[v, .int .i64 x] w fun e w' => e = .returned (.bool (zs.contains x)) ∧ w' = w := by
  have hl : zs.length = n := by have := h.1; simpa using this
  have h0 := h
  rcases h.2 with ⟨rfl, e0⟩ | ⟨g, cap, cur, rfl, hb, hg, h1, h2, h3, h4⟩
  · subst e0
    obtain rfl : zs = [] := List.eq_nil_of_length_eq_zero hl
    exact Tryz.slices_Contains_int_empty none 0 x w
  · rcases Nat.eq_zero_or_pos n with e0 | e0
    · subst e0
      obtain rfl : zs = [] := List.eq_nil_of_length_eq_zero hl
      exact Tryz.slices_Contains_int_empty _ cap x w
    · have := Tryz.slices_Contains_int g 0 n cap zs x w (by omega) (by omega) (cellsI_at h0)
      rw [← hl, List.take_length, hl] at this
      exact this
end Go.Proofs.YtefalhnllkkkhaaGreatDoor
