/- The document's Once, over a journal's entries as they lie; that it answers what audit.Once answers. -/
import Derived.Test.YtefalhnllkkkhaaOnce
namespace Go.Proofs.Ytefalhnllkkkhaa
open Go.RowKit
set_option linter.unusedVariables false

/-! ### The document's -/
/-- Behind j entries: one of these was committed under x's name with x's reply. -/
def Found (es : List Ent) (j : Nat) (x : Ent) : Prop := ∃ i y, i < j ∧ es[i]? = some y ∧ y.kind = 1 ∧ y.id = x.id ∧ y.rep = x.rep
def Named (es : List Ent) (j : Nat) (x : Ent) : Prop := ∃ i y, i < j ∧ es[i]? = some y ∧ y.kind = 1 ∧ y.id = x.id
def badR (es : List Ent) (k : Nat) (x : Ent) : Prop := (x.kind = 1 ∧ Named es k x) ∨ (x.kind = 2 ∧ x.rep.why ≠ 4 ∧ ¬ Found es k x)
def GoodR (es : List Ent) (k : Nat) : Prop := ∀ i x, i < k → es[i]? = some x → ¬ badR es i x
/-- What the document's Once answers. -/
def OnceR (es : List Ent) (v : Int) : Prop :=
  (v = 0 ∧ ∀ i x, es[i]? = some x → ¬ badR es i x) ∨ (v = 240 ∧ ∃ i x, es[i]? = some x ∧ badR es i x ∧ ∀ j y, j < i → es[j]? = some y → ¬ badR es j y)
theorem GoodR.snoc {es : List Ent} {k : Nat} (h : GoodR es k) (hk : k < es.length) (hx : ¬ badR es k es[k]) : GoodR es (k + 1) := by
  intro i x hi hx'
  rcases Nat.lt_or_ge i k with h' | h'
  · exact h i x h' hx'
  · obtain rfl : i = k := by omega
    rw [List.getElem?_eq_getElem hk] at hx'
    cases hx'
    exact hx
theorem GoodR.ends {es : List Ent} {k : Nat} (h : GoodR es k) (hk : k < es.length) (hx : badR es k es[k]) : OnceR es 240 :=
  .inr ⟨rfl, k, _, List.getElem?_eq_getElem hk, hx, fun j y hj hy => h j y hj hy⟩
theorem GoodR.all {es : List Ent} {k : Nat} (h : GoodR es k) (hk : es.length ≤ k) : OnceR es 0 :=
  .inl ⟨rfl, fun i x hx => h i x (by have := (List.getElem?_eq_some_iff.1 hx).1; omega) hx⟩

/-- What the inner scan holds. -/
def ScanI (es : List Ent) (j : Nat) (x : Ent) (f : Bool) : Prop := (f = true ↔ Found es j x) ∧ (x.kind = 1 → ¬ Named es j x)
theorem ScanI.start (es : List Ent) (x : Ent) : ScanI es 0 x false :=
  ⟨⟨fun h => (by cases h), fun ⟨_, _, h, _⟩ => absurd h (Nat.not_lt_zero _)⟩, fun _ ⟨_, _, h, _⟩ => absurd h (Nat.not_lt_zero _)⟩
theorem ScanI.skip {es : List Ent} {j : Nat} {x : Ent} {f : Bool} (h : ScanI es j x f) (hj : j < es.length) (hn : ¬ (es[j].kind = 1 ∧ es[j].id = x.id)) : ScanI es (j + 1) x f := by
  obtain ⟨h1, h2⟩ := h
  have key : ∀ i y, i < j + 1 → es[i]? = some y → y.kind = 1 → y.id = x.id → i < j := fun i y hi hy h1 h2 => by
    rcases Nat.lt_or_ge i j with h' | h'
    · exact h'
    · obtain rfl : i = j := by omega
      rw [List.getElem?_eq_getElem hj] at hy
      cases hy
      exact absurd ⟨h1, h2⟩ hn
  refine And.intro (h1.trans (Iff.intro (fun hh => ?_) (fun hh => ?_))) (fun hx hh => ?_)
  · obtain ⟨i, y, a, b, c, d, e⟩ := hh
    exact ⟨i, y, by omega, b, c, d, e⟩
  · obtain ⟨i, y, a, b, c, d, e⟩ := hh
    exact ⟨i, y, key i y a b c d, b, c, d, e⟩
  · obtain ⟨i, y, a, b, c, d⟩ := hh
    exact h2 hx ⟨i, y, key i y a b c d, b, c, d⟩
theorem ScanI.hit {es : List Ent} {j : Nat} {x : Ent} {f : Bool} (h : ScanI es j x f) (hj : j < es.length) (h1 : es[j].kind = 1) (h2 : es[j].id = x.id) (hx : ¬ x.kind = 1) : ScanI es (j + 1) x (f || decide (es[j].rep = x.rep)) := by
  refine ⟨?_, fun h => absurd h hx⟩
  rw [Bool.or_eq_true, decide_eq_true_eq, h.1]
  refine ⟨fun hh => ?_, fun hh => ?_⟩
  · rcases hh with ⟨i, y, a, b, c, d, e⟩ | e
    · exact ⟨i, y, by omega, b, c, d, e⟩
    · exact ⟨j, _, by omega, List.getElem?_eq_getElem hj, h1, h2, e⟩
  · obtain ⟨i, y, a, b, c, d, e⟩ := hh
    rcases Nat.lt_or_ge i j with h' | h'
    · exact .inl ⟨i, y, h', b, c, d, e⟩
    · obtain rfl : i = j := by omega
      rw [List.getElem?_eq_getElem hj] at b
      cases b
      exact .inr e
theorem ScanI.named {es : List Ent} {j k : Nat} {x : Ent} (hk : j < k) (hj : j < es.length) (h1 : es[j].kind = 1) (h2 : es[j].id = x.id) (hx : x.kind = 1) : badR es k x :=
  .inl ⟨hx, j, _, hk, List.getElem?_eq_getElem hj, h1, h2⟩
theorem ScanI.bad {es : List Ent} {k : Nat} {x : Ent} {f : Bool} (h : ScanI es k x f) : badR es k x ↔ (x.kind = 2 ∧ x.rep.why ≠ 4 ∧ f = false) := by
  unfold badR
  rw [← h.1]
  constructor
  · rintro (⟨a, b⟩ | ⟨a, b, c⟩)
    · exact absurd b (h.2 a)
    · exact ⟨a, b, by simpa using c⟩
  · rintro ⟨a, b, c⟩
    exact .inr ⟨a, b, by simp [c]⟩

set_option maxHeartbeats 2000000 in
theorem refonce_any (p : Option Addr) (n c : Nat) (es : List Ent) (w : World) (hn : es.length = n) (hnc : n ≤ c) (hm : c ≤ maxLen) (h : Cells w p (es.flatMap entCells)) :
    Calls Try.prog 7 #[.slice p n c] w fun e w' => (∃ v, e = .returned (.int .i64 v) ∧ OnceR es v) ∧ Below w.heap.size w w' := by
  unfold maxLen at hm
  have er := eq_rep
  have HN := Lib.hid hn
  clear hn
  go_enter Try.func7, Try.ntmps7
  go_wp2
  go_loopw [10] (fun i wr => (∃ k : Nat, k ≤ n ∧ i = .int .i64 k ∧ Hid (GoodR es k)) ∧ Below w.heap.size w wr) (fun i _ => n - (intOf i).toNat)
  case atStart => exact ⟨⟨0, Nat.zero_le _, rfl, Lib.hid (fun i x h => absurd h (Nat.not_lt_zero _))⟩, Below.refl _ w⟩
  case round =>
    obtain ⟨⟨k, hk, rfl, HG⟩, hb⟩ := hrel
    obtain ⟨wo, rfl⟩ : ∃ wo : World, wo = wr := ⟨_, rfl⟩
    by_cases hlt : k < n
    · have hkl : k < es.length := by rw [HN.out]; exact hlt
      obtain ⟨b, o, rfl, c0, c1, c2, c3, c4, c5, c6⟩ := ent_cells h (k := k) hkl
      have up : ∀ {a v}, w.cell? a = some v → wo.cell? a = some v := fun {a v} h => (hb.cell (cell_lt h)).trans h
      have c0 := up c0
      have c1 := up c1
      have c2 := up c2
      have c3 := up c3
      have c4 := up c4
      have c5 := up c5
      have c6 := up c6
      have GS := Lib.hid (HG.out.snoc hkl)
      have GE := Lib.hid (HG.out.ends hkl)
      clear up
      generalize es[k] = x at *
      go_wp2_with fail
      go_loopw [5, 19] (fun f i wi => (∃ (j : Nat) (fb : Bool), j ≤ k ∧ i = .int .i64 j ∧ f = .bool fb ∧ Hid (ScanI es j x fb)) ∧ Below (wo.heap.size + 1) (wo.alloc (Obj.cells #[Value.int IntKind.i64 x.kind, Value.string x.id, Value.string x.rep.id, Value.int IntKind.i64 x.rep.status, Value.int IntKind.i64 x.rep.session, Value.int IntKind.i64 x.rep.why, Value.string x.rep.text] 38)) wi) (fun _ i _ => k - (intOf i).toNat)
      case atStart => exact ⟨⟨0, false, Nat.zero_le _, rfl, rfl, Lib.hid (ScanI.start es x)⟩, Below.refl _ _⟩
      case round =>
        obtain ⟨⟨j, fb, hj, rfl, rfl, HI⟩, hbi⟩ := hrel
        have hb1 : Below w.heap.size w (wo.alloc (Obj.cells #[Value.int IntKind.i64 x.kind, Value.string x.id, Value.string x.rep.id, Value.int IntKind.i64 x.rep.status, Value.int IntKind.i64 x.rep.session, Value.int IntKind.i64 x.rep.why, Value.string x.rep.text] 38)) := hb.alloc hb.size _
        have hbw : Below w.heap.size w wr := hb1.trans (hbi.mono (Nat.le_succ_of_le hb.size))
        have hsz : wo.heap.size + 1 ≤ wr.heap.size := by have := hbi.size; simpa using this
        have hsz' : wo.heap.size < wr.heap.size := hsz
        have x0 : wr.cell? ⟨wo.heap.size, 0, none⟩ = some (.int .i64 x.kind) := (hbi.cell (p := ⟨wo.heap.size, 0, none⟩) (by simp)).trans (by simp)
        have x1 : wr.cell? ⟨wo.heap.size, 1, none⟩ = some (.string x.id) := (hbi.cell (p := ⟨wo.heap.size, 1, none⟩) (by simp)).trans (by simp)
        have x2 : wr.cell? ⟨wo.heap.size, 2, none⟩ = some (.string x.rep.id) := (hbi.cell (p := ⟨wo.heap.size, 2, none⟩) (by simp)).trans (by simp)
        have x3 : wr.cell? ⟨wo.heap.size, 3, none⟩ = some (.int .i64 x.rep.status) := (hbi.cell (p := ⟨wo.heap.size, 3, none⟩) (by simp)).trans (by simp)
        have x4 : wr.cell? ⟨wo.heap.size, 4, none⟩ = some (.int .i64 x.rep.session) := (hbi.cell (p := ⟨wo.heap.size, 4, none⟩) (by simp)).trans (by simp)
        have x5 : wr.cell? ⟨wo.heap.size, 5, none⟩ = some (.int .i64 x.rep.why) := (hbi.cell (p := ⟨wo.heap.size, 5, none⟩) (by simp)).trans (by simp)
        have x6 : wr.cell? ⟨wo.heap.size, 6, none⟩ = some (.string x.rep.text) := (hbi.cell (p := ⟨wo.heap.size, 6, none⟩) (by simp)).trans (by simp)
        by_cases hltj : j < k
        · have hjl : j < es.length := by omega
          obtain ⟨b', o', hbo, d0, d1, d2, d3, d4, d5, d6⟩ := ent_cells h (k := j) hjl
          cases hbo
          have up : ∀ {a v}, w.cell? a = some v → wr.cell? a = some v := fun {a v} h => (hbw.cell (cell_lt h)).trans h
          have d0 := up d0
          have d1 := up d1
          have d2 := up d2
          have d3 := up d3
          have d4 := up d4
          have d5 := up d5
          have d6 := up d6
          have IS := Lib.hid (HI.out.skip hjl)
          have IH := Lib.hid (HI.out.hit hjl)
          have IN := Lib.hid (fun (h1 : es[j].kind = 1) (h2 : es[j].id = x.id) (hx : x.kind = 1) => ScanI.named hltj hjl h1 h2 hx)
          clear up
          generalize es[j] = y at *
          have al : ∀ o', Below (wo.heap.size + 1) (wo.alloc (Obj.cells #[Value.int IntKind.i64 x.kind, Value.string x.id, Value.string x.rep.id, Value.int IntKind.i64 x.rep.status, Value.int IntKind.i64 x.rep.session, Value.int IntKind.i64 x.rep.why, Value.string x.rep.text] 38)) (wr.alloc o') := fun o' => hbi.alloc hsz o'
          by_cases e1 : y.kind = 1
          · have hk1 : (y.kind != 1) = false := by rw [bne_eq_false_iff_eq]; exact e1
            by_cases e2 : y.id = x.id
            · have hi1 : (y.id.toList == x.id.toList) = true := by rw [beqL]; exact decide_eq_true e2
              by_cases e3 : x.kind = 1
              · have hx1 : (x.kind == 1) = true := by rw [beq_iff_eq]; exact e3
                have HB := Lib.hid (IN.out e1 e2 e3)
                clear e1 e2 e3
                go_wp2_with fail
                go_ret
                exact ⟨⟨240, rfl, GE.out HB.out⟩, hbw.alloc hbw.size _⟩
              · have hx1 : (x.kind == 1) = false := by rw [beq_eq_false_iff_ne]; exact e3
                have HB := Lib.hid (IH.out e1 e2 e3)
                clear e1 e2 e3
                cases fb
                · rw [Bool.false_or] at HB
                  go_wp2_with fail
                  go_roundw
                  case rel => exact ⟨⟨j + 1, decide (y.rep = x.rep), by omega, by go_num, rfl, HB⟩, al _⟩
                  case measure => simp [intOf]; omega
                · rw [Bool.true_or] at HB
                  go_wp2_with fail
                  go_roundw
                  case rel => exact ⟨⟨j + 1, true, by omega, by go_num, rfl, HB⟩, al _⟩
                  case measure => simp [intOf]; omega
            · have hi1 : (y.id.toList == x.id.toList) = false := by rw [beqL]; exact decide_eq_false e2
              have HB := Lib.hid (IS.out (fun h => e2 h.2))
              clear e1 e2
              go_wp2_with fail
              go_roundw
              case rel => exact ⟨⟨j + 1, fb, by omega, by go_num, rfl, HB⟩, al _⟩
              case measure => simp [intOf]; omega
          · have hk1 : (y.kind != 1) = true := by rw [bne_iff_ne]; exact e1
            have HB := Lib.hid (IS.out (fun h => e1 h.1))
            clear e1
            go_wp2_with fail
            go_roundw
            case rel => exact ⟨⟨j + 1, fb, by omega, by go_num, rfl, HB⟩, al _⟩
            case measure => simp [intOf]; omega
        · obtain rfl : j = k := by omega
          have HB := Lib.hid HI.out.bad
          have NX : ∀ (hn : ¬ badR es j x), (∃ k', k' ≤ n ∧ (Value.int .i64 ((j : Int) + 1)) = .int .i64 (k' : Nat) ∧ Hid (GoodR es k')) := fun hn => ⟨j + 1, by omega, by go_num, Lib.hid (GS.out hn)⟩
          by_cases e1 : x.kind = 2
          · have hx1 : (x.kind == 2) = true := by rw [beq_iff_eq]; exact e1
            cases fb
            · by_cases e2 : x.rep.why = 4
              · have hw : (x.rep.why != 4) = false := by rw [bne_eq_false_iff_eq]; exact e2
                have HQ := Lib.hid (show ¬ badR es j x from fun h => (HB.out.1 h).2.1 e2)
                clear e1 e2
                go_wp2_with fail
                go_roundw
                case rel => exact ⟨NX HQ.out, hbw⟩
                case measure => simp [intOf]; omega
              · have hw : (x.rep.why != 4) = true := by rw [bne_iff_ne]; exact e2
                have HQ := Lib.hid (show badR es j x from HB.out.2 ⟨e1, e2, rfl⟩)
                clear e1 e2
                go_wp2_with fail
                go_ret
                exact ⟨⟨240, rfl, GE.out HQ.out⟩, hbw⟩
            · have HQ := Lib.hid (show ¬ badR es j x from fun h => (by cases (HB.out.1 h).2.2))
              clear e1
              go_wp2_with fail
              go_roundw
              case rel => exact ⟨NX HQ.out, hbw⟩
              case measure => simp [intOf]; omega
          · have hx1 : (x.kind == 2) = false := by rw [beq_eq_false_iff_ne]; exact e1
            have HQ := Lib.hid (show ¬ badR es j x from fun h => e1 (HB.out.1 h).1)
            clear e1
            go_wp2_with fail
            go_roundw
            case rel => exact ⟨NX HQ.out, hbw⟩
            case measure => simp [intOf]; omega
    · go_wp2
      go_ret
      exact ⟨⟨0, rfl, HG.out.all (by rw [HN.out]; omega)⟩, hb⟩

/-! ### The two are one -/
theorem look_done (es : List Ent) : ∀ k, k ≤ es.length → GoodR es k → ∀ (nm : ByteArray) (r : Rep), look (done (es.take k)) nm = some r ↔ ∃ i y, i < k ∧ es[i]? = some y ∧ y.kind = 1 ∧ y.id = nm ∧ y.rep = r
  | 0, _, _, nm, r => by simp [done, look]
  | k + 1, hk, hg, nm, r => by
    have ih := look_done es k (by omega) (fun i x hi hx => hg i x (by omega) hx) nm r
    have hkl : k < es.length := by omega
    have hb := hg k es[k] (by omega) (List.getElem?_eq_getElem hkl)
    rw [done_snoc (by omega), step]
    by_cases h1 : es[k].kind = 1
    · rw [if_pos h1, look_put]
      by_cases h2 : nm = es[k].id
      · rw [if_pos h2]
        constructor
        · intro e
          exact ⟨k, _, by omega, List.getElem?_eq_getElem (by omega), h1, h2.symm, by simpa using e⟩
        · rintro ⟨i, y, a, b, c, d, e⟩
          rcases Nat.lt_or_ge i k with h | h
          · exact absurd (.inl ⟨h1, i, y, h, b, c, d.trans h2⟩) hb
          · obtain rfl : i = k := by omega
            rw [List.getElem?_eq_getElem hkl] at b
            obtain rfl := Option.some.inj b
            rw [e]
      · rw [if_neg h2, ih]
        constructor
        · rintro ⟨i, y, a, b, c, d, e⟩
          exact ⟨i, y, by omega, b, c, d, e⟩
        · rintro ⟨i, y, a, b, c, d, e⟩
          rcases Nat.lt_or_ge i k with h | h
          · exact ⟨i, y, h, b, c, d, e⟩
          · obtain rfl : i = k := by omega
            rw [List.getElem?_eq_getElem hkl] at b
            obtain rfl := Option.some.inj b
            exact absurd d.symm h2
    · rw [if_neg h1, ih]
      constructor
      · rintro ⟨i, y, a, b, c, d, e⟩
        exact ⟨i, y, by omega, b, c, d, e⟩
      · rintro ⟨i, y, a, b, c, d, e⟩
        rcases Nat.lt_or_ge i k with h | h
        · exact ⟨i, y, h, b, c, d, e⟩
        · obtain rfl : i = k := by omega
          rw [List.getElem?_eq_getElem hkl] at b
          obtain rfl := Option.some.inj b
          exact absurd c h1

theorem bad_iff (es : List Ent) (k : Nat) (x : Ent) (hk : k ≤ es.length) (hg : GoodR es k) : bad (done (es.take k)) x ↔ badR es k x := by
  have hl := look_done es k hk hg x.id
  unfold bad badR Named Found
  constructor
  · rintro (⟨a, b⟩ | ⟨a, b, c⟩)
    · obtain ⟨r, hr⟩ := Option.isSome_iff_exists.1 b
      obtain ⟨i, y, h1, h2, h3, h4, h5⟩ := (hl r).1 hr
      exact .inl ⟨a, i, y, h1, h2, h3, h4⟩
    · exact .inr ⟨a, b, fun h => c ((hl _).2 h)⟩
  · rintro (⟨a, i, y, h1, h2, h3, h4⟩ | ⟨a, b, c⟩)
    · exact .inl ⟨a, Option.isSome_iff_exists.2 ⟨_, (hl _).2 ⟨i, y, h1, h2, h3, h4, rfl⟩⟩⟩
    · exact .inr ⟨a, b, fun h => c ((hl _).1 h)⟩

theorem good_iff (es : List Ent) : ∀ k, k ≤ es.length → (Good es k ↔ GoodR es k)
  | 0, _ => ⟨fun _ i x h => absurd h (Nat.not_lt_zero _), fun _ i x h => absurd h (Nat.not_lt_zero _)⟩
  | k + 1, hk => by
    have ih := good_iff es k (by omega)
    have hkl : k < es.length := by omega
    constructor
    · intro h
      have hg := ih.1 fun i x hi hx => h i x (by omega) hx
      exact hg.snoc hkl (fun hb => h k _ (by omega) (List.getElem?_eq_getElem hkl) ((bad_iff es k _ (by omega) hg).2 hb))
    · intro h
      have hg : GoodR es k := fun i x hi hx => h i x (by omega) hx
      exact (ih.2 hg).snoc hkl (fun hb => h k _ (by omega) (List.getElem?_eq_getElem hkl) ((bad_iff es k _ (by omega) hg).1 hb))

theorem once_one {es : List Ent} {v v' : Int} (h : OnceV es v) (h' : OnceR es v') : v = v' := by
  rcases h with ⟨rfl, h⟩ | ⟨rfl, i, x, hx, hb, hg⟩
  · rcases h' with ⟨rfl, _⟩ | ⟨rfl, j, y, hy, hb', hg'⟩
    · rfl
    · have hj : j < es.length := (List.getElem?_eq_some_iff.1 hy).1
      exact absurd ((bad_iff es j y (by omega) (fun i x hi hx => hg' i x hi hx)).2 hb') (h j y hy)
  · rcases h' with ⟨rfl, h'⟩ | ⟨rfl, _⟩
    · have hi : i < es.length := (List.getElem?_eq_some_iff.1 hx).1
      have hgr : GoodR es i := (good_iff es i (by omega)).1 (fun j y hj hy => hg j y hj hy)
      exact absurd ((bad_iff es i x (by omega) hgr).1 hb) (h' i x hx)
    · rfl

set_option maxHeartbeats 400000 in
theorem auditOnce_walk (p : Option Addr) (n c : Nat) (es : List Ent) (w : World) (hn : es.length = n) (hnc : n ≤ c) (hm : c ≤ maxLen) (h : Cells w p (es.flatMap entCells)) :
    Calls Try.prog 3 #[.slice p n c] w fun e w' => e = .returned (.bool true) ∧ Below w.heap.size w w' := by
  go_enter Try.func3, Try.ntmps3
  go_wp2_with fail
  refine (once_any p n c es _ hn (by omega) h).mono ?_
  rintro e w1 ⟨⟨v, rfl, hv⟩, hb1⟩
  go_wp2_with fail
  refine (refonce_any p n c es _ hn hnc hm (h.below hb1)).mono ?_
  rintro e w2 ⟨⟨v', rfl, hv'⟩, hb2⟩
  obtain rfl := once_one hv hv'
  go_wp2
  go_ret
  exact ⟨rfl, hb1.trans (hb2.mono hb1.size)⟩
end Go.Proofs.Ytefalhnllkkkhaa
