/- audit.Once and the document's Once, over a journal's entries as they lie. -/
import Derived.Test.YtefalhnllkkkhaaMap
import Derived.Maps.OwnOps
import Derived.Outline
namespace Go.Proofs.Ytefalhnllkkkhaa
open Go.RowKit
set_option linter.unusedVariables false

/-- A reply. -/
structure Rep where
  id : ByteArray
  status : Int
  session : Int
  why : Int
  text : ByteArray
deriving DecidableEq
/-- An entry of a journal. -/
structure Ent where
  kind : Int
  id : ByteArray
  rep : Rep

abbrev repV (r : Rep) : Value := .agg #[.string r.id, .int .i64 r.status, .int .i64 r.session, .int .i64 r.why, .string r.text]

theorem beqL (a b : ByteArray) : (a.toList == b.toList) = decide (a = b) := by rw [← beq_toListBytes, bytes_beq]

theorem eq_rep (a b : Rep) (w : World) :
    (binOp .eql 36 (.agg #[.string a.id, .int .i64 a.status, .int .i64 a.session, .int .i64 a.why, .string a.text]) (.agg #[.string b.id, .int .i64 b.status, .int .i64 b.session, .int .i64 b.why, .string b.text])).run Try.prog w = .ok (.bool (decide (a = b))) w := by
  go_simp
  obtain ⟨a1, a2, a3, a4, a5⟩ := a
  obtain ⟨b1, b2, b3, b4, b5⟩ := b
  simp only [Rep.mk.injEq]
  have e1 : ∀ x y : ByteArray, x.toList = y.toList ↔ x = y := fun x y => by
    have := beqL x y
    rw [Bool.eq_iff_iff] at this
    simpa using this
  simp only [e1]
  by_cases h1 : a1 = b1
  · by_cases h2 : a2 = b2
    · by_cases h3 : a3 = b3
      · by_cases h4 : a4 = b4
        · by_cases h5 : a5 = b5
          · simp [h1, h2, h3, h4, h5]
          · simp [h5]
        · simp [h4]
      · simp [h3]
    · simp [h2]
  · simp [h1]

theorem neq_rep (a b : Rep) (w : World) :
    (binOp .neq 36 (.agg #[.string a.id, .int .i64 a.status, .int .i64 a.session, .int .i64 a.why, .string a.text]) (.agg #[.string b.id, .int .i64 b.status, .int .i64 b.session, .int .i64 b.why, .string b.text])).run Try.prog w = .ok (.bool (!decide (a = b))) w := by
  go_simp
  obtain ⟨a1, a2, a3, a4, a5⟩ := a
  obtain ⟨b1, b2, b3, b4, b5⟩ := b
  simp only [Rep.mk.injEq]
  have e1 : ∀ x y : ByteArray, x.toList = y.toList ↔ x = y := fun x y => by
    have := beqL x y
    rw [Bool.eq_iff_iff] at this
    simpa using this
  simp only [e1]
  by_cases h1 : a1 = b1
  · by_cases h2 : a2 = b2
    · by_cases h3 : a3 = b3
      · by_cases h4 : a4 = b4
        · by_cases h5 : a5 = b5
          · simp [h1, h2, h3, h4, h5]
          · simp [h5, h1, h2, h3, h4]
        · simp [h4, h1, h2, h3]
      · simp [h3, h1, h2]
    · simp [h2, h1]
  · simp [h1]

def entCells (x : Ent) : List Value := [.int .i64 x.kind, .string x.id, .string x.rep.id, .int .i64 x.rep.status, .int .i64 x.rep.session, .int .i64 x.rep.why, .string x.rep.text]

theorem flat_get {α : Type} (f : α → List Value) (c : Nat) : ∀ (es : List α), (∀ x ∈ es, (f x).length = c) → ∀ (k j : Nat) (x : α), es[k]? = some x → j < c → (es.flatMap f)[c * k + j]? = (f x)[j]?
  | [], _, k, j, x, h, _ => by simp at h
  | y :: es, hc, 0, j, x, h, hj => by
    simp at h
    subst h
    rw [List.flatMap_cons, List.getElem?_append_left (by rw [hc y (by simp)]; omega)]
    simp
  | y :: es, hc, k + 1, j, x, h, hj => by
    rw [List.flatMap_cons, List.getElem?_append_right (by rw [hc y (by simp)]; have : c * (k + 1) = c * k + c := Nat.mul_succ _ _; omega), hc y (by simp)]
    have e : c * (k + 1) + j - c = c * k + j := by have : c * (k + 1) = c * k + c := Nat.mul_succ _ _; omega
    rw [e]
    exact flat_get f c es (fun x hx => hc x (by simp [hx])) k j x (by simpa using h) hj

/-- The seven cells of an entry. -/
theorem ent_cells {w : World} {p : Option Addr} {es : List Ent} (h : Cells w p (es.flatMap entCells)) {k : Nat} (hk : k < es.length) :
    ∃ b o, p = some ⟨b, o, none⟩ ∧ w.cell? ⟨b, o + k * 7, none⟩ = some (.int .i64 es[k].kind) ∧ w.cell? ⟨b, o + k * 7 + 1, none⟩ = some (.string es[k].id) ∧ w.cell? ⟨b, o + k * 7 + 2, none⟩ = some (.string es[k].rep.id) ∧
      w.cell? ⟨b, o + k * 7 + 3, none⟩ = some (.int .i64 es[k].rep.status) ∧ w.cell? ⟨b, o + k * 7 + 4, none⟩ = some (.int .i64 es[k].rep.session) ∧ w.cell? ⟨b, o + k * 7 + 5, none⟩ = some (.int .i64 es[k].rep.why) ∧ w.cell? ⟨b, o + k * 7 + 6, none⟩ = some (.string es[k].rep.text) := by
  obtain ⟨b, o, hp, hc⟩ := h (by
    intro e
    have := flat_get entCells 7 es (fun x _ => rfl) k 0 es[k] (by simp [hk]) (by omega)
    rw [e] at this
    simp [entCells] at this)
  have g : ∀ j v, (entCells es[k])[j]? = some v → w.cell? ⟨b, o + (7 * k + j), none⟩ = some v := fun j v hv => hc _ _ (by
    rw [flat_get entCells 7 es (fun x _ => rfl) k j es[k] (by simp [hk]) (by have := (List.getElem?_eq_some_iff.1 hv).1; simpa [entCells] using this)]
    exact hv)
  have m7 : 7 * k = k * 7 := Nat.mul_comm _ _
  rw [m7] at g
  exact ⟨b, o, hp, g 0 _ rfl, g 1 _ rfl, g 2 _ rfl, g 3 _ rfl, g 4 _ rfl, g 5 _ rfl, g 6 _ rfl⟩

theorem zrep (w : World) : (zeroValue 36).run Try.prog w = .ok (.agg #[.string ByteArray.empty, .int .i64 0, .int .i64 0, .int .i64 0, .string ByteArray.empty]) w := by kernel_rfl

/-- The replies that were committed, by name. -/
def step (m : List (ByteArray × Rep)) (x : Ent) : List (ByteArray × Rep) := if x.kind = 1 then put m x.id x.rep else m
def done (es : List Ent) : List (ByteArray × Rep) := es.foldl step []
theorem done_snoc {es : List Ent} {k : Nat} (hk : k < es.length) : done (es.take (k + 1)) = step (done (es.take k)) es[k] := by
  unfold done
  rw [List.take_succ_eq_append_getElem hk, List.foldl_append]
  rfl

/-- What is wrong with an entry behind others. -/
def bad (m : List (ByteArray × Rep)) (x : Ent) : Prop := (x.kind = 1 ∧ (look m x.id).isSome = true) ∨ (x.kind = 2 ∧ x.rep.why ≠ 4 ∧ look m x.id ≠ some x.rep)
/-- What Once answers. -/
def OnceV (es : List Ent) (v : Int) : Prop :=
  (v = 0 ∧ ∀ i x, es[i]? = some x → ¬ bad (done (es.take i)) x) ∨ (v = 240 ∧ ∃ i x, es[i]? = some x ∧ bad (done (es.take i)) x ∧ ∀ j y, j < i → es[j]? = some y → ¬ bad (done (es.take j)) y)

def Good (es : List Ent) (k : Nat) : Prop := ∀ i x, i < k → es[i]? = some x → ¬ bad (done (es.take i)) x
theorem Good.snoc {es : List Ent} {k : Nat} (h : Good es k) (hk : k < es.length) (hx : ¬ bad (done (es.take k)) es[k]) : Good es (k + 1) := by
  intro i x hi hx'
  rcases Nat.lt_or_ge i k with h' | h'
  · exact h i x h' hx'
  · obtain rfl : i = k := by omega
    rw [List.getElem?_eq_getElem hk] at hx'
    cases hx'
    exact hx
theorem Good.ends {es : List Ent} {k : Nat} (h : Good es k) (hk : k < es.length) (hx : bad (done (es.take k)) es[k]) : OnceV es 240 :=
  .inr ⟨rfl, k, _, List.getElem?_eq_getElem hk, hx, fun j y hj hy => h j y hj hy⟩
theorem Good.all {es : List Ent} {k : Nat} (h : Good es k) (hk : es.length ≤ k) : OnceV es 0 :=
  .inl ⟨rfl, fun i x hx => h i x (by have := (List.getElem?_eq_some_iff.1 hx).1; omega) hx⟩

theorem below_alloc2 {w wr : World} (hb : Below w.heap.size w wr) (o1 o2 : Obj) : Below w.heap.size w ((wr.alloc o1).alloc o2) :=
  (hb.alloc hb.size _).alloc (hb.alloc hb.size _).size _

theorem ret_one {k1 : IntKind} {a b : Int} (h : a = b) : Ending.returned (.int k1 a) = .returned (.int k1 b) := by rw [h]

set_option maxHeartbeats 2000000 in
theorem once_any (p : Option Addr) (n c : Nat) (es : List Ent) (w : World) (hn : es.length = n) (hm : n ≤ maxLen) (h : Cells w p (es.flatMap entCells)) :
    Calls Try.prog 6 #[.slice p n c] w fun e w' => (∃ v, e = .returned (.int .i64 v) ∧ OnceV es v) ∧ Below w.heap.size w w' := by
  unfold maxLen at hm
  have hmm := @run_makeMap Try.prog
  have nr := neq_rep
  have HN := Lib.hid hn
  clear hn
  go_enter Try.func6, Try.ntmps6
  go_wp2
  go_loopw [11] (fun i wr => (∃ k : Nat, k ≤ n ∧ i = .int .i64 k ∧ Hid (Good es k) ∧ Hid (MapIs strKeys wr w.heap.size (mapV repV (done (es.take k))))) ∧ Below w.heap.size w wr) (fun i _ => n - (intOf i).toNat)
  case atStart => exact ⟨⟨0, Nat.zero_le _, rfl, Lib.hid (fun i x h => absurd h (Nat.not_lt_zero _)), Lib.hid (MapIs.made w)⟩, (Below.refl _ w).alloc (Nat.le_refl _) _⟩
  case round =>
    obtain ⟨⟨k, hk, rfl, HG, HM⟩, hb⟩ := hrel
    by_cases hlt : k < n
    · have hkl : k < es.length := by rw [HN.out]; exact hlt
      obtain ⟨b, o, rfl, c0, c1, c2, c3, c4, c5, c6⟩ := ent_cells h (k := k) hkl
      have up : ∀ {a v}, w.cell? a = some v → wr.cell? a = some v := fun {a v} h => (hb.cell (cell_lt h)).trans h
      have c0 := up c0
      have c1 := up c1
      have c2 := up c2
      have c3 := up c3
      have c4 := up c4
      have c5 := up c5
      have c6 := up c6
      have HS := Lib.hid (done_snoc hkl)
      have GS := Lib.hid (HG.out.snoc hkl)
      have GE := Lib.hid (HG.out.ends hkl)
      clear up
      generalize es[k] = x at *
      generalize hM : done (es.take k) = M at *
      clear hM
      rcases hl : look M x.id with _ | r
      · have HL := Lib.hid hl
        clear hl
        by_cases e1 : x.kind = 1
        · have hk1 : (x.kind == 1) = true := by rw [beq_iff_eq]; exact e1
          have HK := Lib.hid e1
          have HB : Hid (¬ bad M x) := Lib.hid (by unfold bad; rw [HL.out]; simp [e1])
          clear e1
          go_wp2_with (first | (at_lookup; refine wpList_look_ok (KK := strKeys) rfl _ _ 34 rfl 9 36 Try.underlying34 Try.underlying9 _ zrep x.id rfl rfl (HM.out.alloc _) ?_; rw [look_mapV, HL.out, Option.map_none, Option.getD_none, Option.isSome_none]) | (at_mapUpdate; refine wpList_store (KK := strKeys) (m := mapV repV M) rfl _ _ _ 34 rfl 9 36 Try.underlying34 Try.underlying9 x.id (repV x.rep) rfl rfl rfl ((HM.out.alloc _).alloc _) ?_))
          intro w1 hM1 hu1
          have hb1 : Below w.heap.size w w1 := (below_alloc2 hb _ _).trans (hu1.below (B := w.heap.size) (below_alloc2 hb _ _).size (by intro i hi; omega))
          rw [put_mapV] at hM1
          have HM1 := Lib.hid hM1
          clear hM1 hu1
          go_wp2
          go_roundw
          case rel => exact ⟨⟨k + 1, by omega, by go_num, Lib.hid (GS.out HB.out), Lib.hid (by rw [HS.out, step, if_pos HK.out]; exact HM1.out)⟩, hb1⟩
          case measure => simp [intOf]; omega
        · by_cases e2 : x.kind = 2
          · by_cases e4 : x.rep.why = 4
            · have hk1 : (x.kind == 1) = false := by rw [beq_eq_false_iff_ne]; exact e1
              have hk2 : (x.kind == 2) = true := by rw [beq_iff_eq]; exact e2
              have hw4 : (x.rep.why != 4) = false := by rw [bne_eq_false_iff_eq]; exact e4
              have HK := Lib.hid e1
              have HB : Hid (¬ bad M x) := Lib.hid (by unfold bad; rw [HL.out]; simp [e1, e4])
              clear e1 e2 e4
              go_wp2_with (first | (at_lookup; refine wpList_look_ok (KK := strKeys) rfl _ _ 34 rfl 9 36 Try.underlying34 Try.underlying9 _ zrep x.id rfl rfl (HM.out.alloc _) ?_; rw [look_mapV, HL.out, Option.map_none, Option.getD_none, Option.isSome_none]) | fail)
              go_roundw
              case rel => exact ⟨⟨k + 1, by omega, by go_num, Lib.hid (GS.out HB.out), Lib.hid (by rw [HS.out, step, if_neg HK.out]; exact (HM.out.alloc _).alloc _)⟩, (below_alloc2 hb _ _)⟩
              case measure => simp [intOf]; omega
            · have hk1 : (x.kind == 1) = false := by rw [beq_eq_false_iff_ne]; exact e1
              have hk2 : (x.kind == 2) = true := by rw [beq_iff_eq]; exact e2
              have hw4 : (x.rep.why != 4) = true := by rw [bne_iff_ne]; exact e4
              have HK := Lib.hid e1
              have HB : Hid (bad M x) := Lib.hid (by unfold bad; rw [HL.out]; simp [e2, e4])
              clear e1 e2 e4
              go_wp2_with (first | (at_lookup; refine wpList_look_ok (KK := strKeys) rfl _ _ 34 rfl 9 36 Try.underlying34 Try.underlying9 _ zrep x.id rfl rfl (HM.out.alloc _) ?_; rw [look_mapV, HL.out, Option.map_none, Option.getD_none, Option.isSome_none]) | fail)
              go_ret
              exact ⟨⟨240, rfl, GE.out HB.out⟩, (below_alloc2 hb _ _)⟩
          · have hk1 : (x.kind == 1) = false := by rw [beq_eq_false_iff_ne]; exact e1
            have hk2 : (x.kind == 2) = false := by rw [beq_eq_false_iff_ne]; exact e2
            have HK := Lib.hid e1
            have HB : Hid (¬ bad M x) := Lib.hid (by unfold bad; rw [HL.out]; simp [e1, e2])
            clear e1 e2
            go_wp2_with (first | (at_lookup; refine wpList_look_ok (KK := strKeys) rfl _ _ 34 rfl 9 36 Try.underlying34 Try.underlying9 _ zrep x.id rfl rfl (HM.out.alloc _) ?_; rw [look_mapV, HL.out, Option.map_none, Option.getD_none, Option.isSome_none]) | fail)
            go_roundw
            case rel => exact ⟨⟨k + 1, by omega, by go_num, Lib.hid (GS.out HB.out), Lib.hid (by rw [HS.out, step, if_neg HK.out]; exact (HM.out.alloc _).alloc _)⟩, (below_alloc2 hb _ _)⟩
            case measure => simp [intOf]; omega
      · have HL := Lib.hid hl
        clear hl
        by_cases e1 : x.kind = 1
        · have hk1 : (x.kind == 1) = true := by rw [beq_iff_eq]; exact e1
          have HB : Hid (bad M x) := Lib.hid (by unfold bad; rw [HL.out]; simp [e1])
          clear e1
          go_wp2_with (first | (at_lookup; refine wpList_look_ok (KK := strKeys) rfl _ _ 34 rfl 9 36 Try.underlying34 Try.underlying9 _ zrep x.id rfl rfl (HM.out.alloc _) ?_; rw [look_mapV, HL.out, Option.map_some, Option.getD_some, Option.isSome_some]) | fail)
          go_ret
          exact ⟨⟨240, rfl, GE.out HB.out⟩, (below_alloc2 hb _ _)⟩
        · by_cases e2 : x.kind = 2
          · by_cases e4 : x.rep.why = 4
            · have hk1 : (x.kind == 1) = false := by rw [beq_eq_false_iff_ne]; exact e1
              have hk2 : (x.kind == 2) = true := by rw [beq_iff_eq]; exact e2
              have hw4 : (x.rep.why != 4) = false := by rw [bne_eq_false_iff_eq]; exact e4
              have HK := Lib.hid e1
              have HB : Hid (¬ bad M x) := Lib.hid (by unfold bad; rw [HL.out]; simp [e1, e4])
              clear e1 e2 e4
              go_wp2_with (first | (at_lookup; refine wpList_look_ok (KK := strKeys) rfl _ _ 34 rfl 9 36 Try.underlying34 Try.underlying9 _ zrep x.id rfl rfl (HM.out.alloc _) ?_; rw [look_mapV, HL.out, Option.map_some, Option.getD_some, Option.isSome_some]) | fail)
              go_roundw
              case rel => exact ⟨⟨k + 1, by omega, by go_num, Lib.hid (GS.out HB.out), Lib.hid (by rw [HS.out, step, if_neg HK.out]; exact (HM.out.alloc _).alloc _)⟩, (below_alloc2 hb _ _)⟩
              case measure => simp [intOf]; omega
            · by_cases e5 : r = x.rep
              · have hk1 : (x.kind == 1) = false := by rw [beq_eq_false_iff_ne]; exact e1
                have hk2 : (x.kind == 2) = true := by rw [beq_iff_eq]; exact e2
                have hw4 : (x.rep.why != 4) = true := by rw [bne_iff_ne]; exact e4
                have hd : decide (r = x.rep) = true := decide_eq_true e5
                have HK := Lib.hid e1
                have HB : Hid (¬ bad M x) := Lib.hid (by unfold bad; rw [HL.out]; simp [e1, e5])
                clear e1 e2 e4 e5
                go_wp2_with (first | (at_lookup; refine wpList_look_ok (KK := strKeys) rfl _ _ 34 rfl 9 36 Try.underlying34 Try.underlying9 _ zrep x.id rfl rfl (HM.out.alloc _) ?_; rw [look_mapV, HL.out, Option.map_some, Option.getD_some, Option.isSome_some]) | fail)
                go_roundw
                case rel => exact ⟨⟨k + 1, by omega, by go_num, Lib.hid (GS.out HB.out), Lib.hid (by rw [HS.out, step, if_neg HK.out]; exact (HM.out.alloc _).alloc _)⟩, (below_alloc2 hb _ _)⟩
                case measure => simp [intOf]; omega
              · have hk1 : (x.kind == 1) = false := by rw [beq_eq_false_iff_ne]; exact e1
                have hk2 : (x.kind == 2) = true := by rw [beq_iff_eq]; exact e2
                have hw4 : (x.rep.why != 4) = true := by rw [bne_iff_ne]; exact e4
                have hd : decide (r = x.rep) = false := decide_eq_false e5
                have HK := Lib.hid e1
                have HB : Hid (bad M x) := Lib.hid (by unfold bad; rw [HL.out]; simp [e2, e4, e5])
                clear e1 e2 e4 e5
                go_wp2_with (first | (at_lookup; refine wpList_look_ok (KK := strKeys) rfl _ _ 34 rfl 9 36 Try.underlying34 Try.underlying9 _ zrep x.id rfl rfl (HM.out.alloc _) ?_; rw [look_mapV, HL.out, Option.map_some, Option.getD_some, Option.isSome_some]) | fail)
                go_ret
                exact ⟨⟨240, rfl, GE.out HB.out⟩, (below_alloc2 hb _ _)⟩
          · have hk1 : (x.kind == 1) = false := by rw [beq_eq_false_iff_ne]; exact e1
            have hk2 : (x.kind == 2) = false := by rw [beq_eq_false_iff_ne]; exact e2
            have HK := Lib.hid e1
            have HB : Hid (¬ bad M x) := Lib.hid (by unfold bad; rw [HL.out]; simp [e1, e2])
            clear e1 e2
            go_wp2_with (first | (at_lookup; refine wpList_look_ok (KK := strKeys) rfl _ _ 34 rfl 9 36 Try.underlying34 Try.underlying9 _ zrep x.id rfl rfl (HM.out.alloc _) ?_; rw [look_mapV, HL.out, Option.map_some, Option.getD_some, Option.isSome_some]) | fail)
            go_roundw
            case rel => exact ⟨⟨k + 1, by omega, by go_num, Lib.hid (GS.out HB.out), Lib.hid (by rw [HS.out, step, if_neg HK.out]; exact (HM.out.alloc _).alloc _)⟩, (below_alloc2 hb _ _)⟩
            case measure => simp [intOf]; omega
    · go_wp2
      go_ret
      exact ⟨⟨0, rfl, HG.out.all (by rw [HN.out]; omega)⟩, hb⟩
end Go.Proofs.Ytefalhnllkkkhaa
