/- for k, v := range m, over a map keyed by ints: whatever order the tape says. -/
import Derived.Test.YtheeomjfpnijbaaGreatDoorPoolMap
import Derived.Maps.RangeWalk
namespace Go.Proofs.YtheeomjfpnijbaaGreatDoor
open Go.RowKit
set_option linter.unusedVariables false

section
variable {P : Program} {w : World} {b r : Nat} {m : List (Int × Value)} {kt : TypeId}
def heldR (v : Value) : Option (DataW Value × List MemPlace) := some (DataW.held v, [])
def dataZ (m : List (Int × Value)) : DataW Value := .map ((m.map fun x => (Lit.int .i64 x.1, DataW.held x.2)).foldr DataW.insert [])
theorem MapZ.ownsH (h : MapZ w b m) (hk : P.underlying kt = some (.int .i64)) : w.ownsMap P kt heldR b m.length (dataZ m) := by
  obtain ⟨es, c, h1, h2, h3, h4, h5⟩ := h
  have hl : es.size = m.length := by simpa using congrArg List.length h2
  have hrd : ∀ x ∈ es.toList, ∃ y ∈ m, x.key = .int .i64 y.1 ∧ x.val = y.2 ∧ WideElems.rd P kt heldR x = some (Lit.int .i64 y.1, .held y.2) := by
    intro x hx
    have : (x.key, x.val) ∈ es.toList.map (fun e => (e.key, e.val)) := List.mem_map.2 ⟨x, hx, rfl⟩
    rw [h2] at this
    obtain ⟨y, hy, hye⟩ := List.mem_map.1 this
    simp only [Prod.mk.injEq] at hye
    have hkx : x.key = .int .i64 y.1 := hye.1.symm
    have hvx : x.val = y.2 := hye.2.symm
    refine ⟨y, hy, hkx, hvx, ?_⟩
    have hko := Maps.keyOf_int_mk (P := P) hk (wfI (h5 y hy).1 (h5 y hy).2)
    simp [WideElems.rd, hkx, hko, hvx, heldR]
  refine ⟨es, c, h1, ⟨by rw [hl]; simp only [maxLen]; omega, h3, fun x hx => ?_⟩, by omega, ?_⟩
  · obtain ⟨y, -, -, -, hy⟩ := hrd x hx
    exact ⟨_, hy⟩
  · unfold dataZ
    congr 2
    have e : es.toList.map (WideElems.rg P kt heldR) = es.toList.map (fun e => match e.key with | .int _ a => (Lit.int .i64 a, DataW.held e.val) | _ => (.bool false, .nil)) := by
      refine List.map_congr_left fun x hx => ?_
      obtain ⟨y, -, hk, hv, hy⟩ := hrd x hx
      simp [WideElems.rg, hy, hk, hv]
    rw [e]
    have e2 := congrArg (List.map fun p : Value × Value => match p.1 with | .int _ a => (Lit.int .i64 a, DataW.held p.2) | _ => ((.bool false : Lit), (DataW.nil : DataW Value))) h2
    simp only [List.map_map, Function.comp_def] at e2
    exact e2.symm

/-- A range over a map under way: which keys are still to come. -/
def ItZ (P : Program) (kt : TypeId) (w : World) (b r : Nat) (m : List (Int × Value)) (todo : Int → Bool) (cnt : Nat) : Prop :=
  ∃ left, w.ranges P kt heldR b r m.length (dataZ m) left cnt ∧ (∀ x : Int, left (.int .i64 x) = todo x) ∧ (m.map (·.1)).Nodup ∧ ∀ x ∈ m, -9223372036854775808 ≤ x.1 ∧ x.1 < 9223372036854775808
theorem ItZ.upd {S : Nat → Prop} {w' : World} {todo : Int → Bool} {cnt : Nat} (h : ItZ P kt w b r m todo cnt) (hu : Upd S w w') (h1 : ¬ S b) (h2 : ¬ S r) : ItZ P kt w' b r m todo cnt := by
  obtain ⟨left, ⟨es, clock, since, seen, c0, hb, F, hs, hD, hr, rest⟩, q⟩ := h
  exact ⟨left, ⟨es, clock, since, seen, c0, (hu.block b (Array.getElem?_eq_some_iff.1 hb).1 h1).trans hb, F, hs, hD, (hu.block r (Array.getElem?_eq_some_iff.1 hr).1 h2).trans hr, rest⟩, q⟩
theorem ItZ.below {w' : World} {todo : Int → Bool} {cnt : Nat} (h : ItZ P kt w b r m todo cnt) (hb : Below w.heap.size w w') : ItZ P kt w' b r m todo cnt := h.upd (Upd.of_below' hb (fun _ => False)) (fun h => h) (fun h => h)
theorem ItZ.left_eq {todo : Int → Bool} {cnt : Nat} (h : ItZ P kt w b r m todo cnt) : w.rangeLeft b r = cnt := by
  obtain ⟨left, hr, -⟩ := h
  exact hr.left_eq
theorem ItZ.lt {todo : Int → Bool} {cnt : Nat} (h : ItZ P kt w b r m todo cnt) : r < w.heap.size := by
  obtain ⟨left, hr, -⟩ := h
  exact hr.lt
theorem has_dataZ (x : Int) (hx : (Lit.int .i64 x).wf = true) : Maps.has (dataZ m) (.int .i64 x) = decide (x ∈ m.map (·.1)) := by
  rw [Bool.eq_iff_iff, decide_eq_true_iff]
  constructor
  · intro h
    obtain ⟨p, hp, hpk⟩ := List.any_eq_true.1 h
    obtain ⟨y, hy, rfl⟩ := List.mem_map.1 (mem_sorted.1 hp)
    have := WideAt.sameKey_eq hpk
    simp only [Lit.int.injEq] at this
    exact List.mem_map.2 ⟨y, hy, by simpa using this⟩
  · intro h
    obtain ⟨y, hy, rfl⟩ := List.mem_map.1 h
    refine List.any_eq_true.2 ⟨(Lit.int .i64 y.1, DataW.held y.2), mem_sorted.2 (List.mem_map.2 ⟨y, hy, rfl⟩), ?_⟩
    simp [Lit.sameKey]

/-! At the operations. -/
variable {ops : Array Oper} {rest : List Oper} {o : Oper} {a : Act} {Q : Exit → Act → World → Prop}
theorem wpList_rangeZ (hg : o.guard = none) (mm : Operand) (t : TypeId) (hop : o.op = Op.range t mm) (et : TypeId) (ht : P.underlying t = some (.map kt et)) (hk : P.underlying kt = some (.int .i64)) (hm : a.eval mm = .map (some b)) (h : MapZ w b m)
    (hK : ∀ w' todo, ItZ P kt w' b w.heap.size m todo m.length → (∀ x ∈ m.map (·.1), todo x = true) → Below w.heap.size w w' → w'.heap.size = w.heap.size + 1 → wpList P ops Q rest (a.put o.dst (.pointer (some ⟨w.heap.size, 0, none⟩))) w') :
    wpList P ops Q (o :: rest) a w := by
  have hz := h
  refine wpList_range_own w hg mm t hop kt et (Maps.int_keyed hk) ht heldR b m.length (dataZ m) hm (h.ownsH hk) fun w' hr hgr hs => ?_
  obtain ⟨es, c, h1, h2, h3, h4, h5⟩ := hz
  have hcnt : Maps.size (dataZ m) = m.length := by simp [Maps.size, dataZ, length_sorted]
  rw [hcnt] at hr
  refine hK w' (fun x => Maps.has (dataZ m) (.int .i64 x)) ⟨_, hr, fun _ => rfl, h.nodup, h5⟩ (fun x hx => ?_) ⟨hgr.os, hgr.tape, hgr.output, hgr.size, fun k hk => hgr.block k hk (by simp)⟩ hs
  obtain ⟨y, hy, rfl⟩ := List.mem_map.1 hx
  rw [has_dataZ y.1 (wfI (h5 y hy).1 (h5 y hy).2)]
  exact decide_eq_true hx
theorem wpList_nextZ (hg : o.guard = none) (it : Operand) (hop : o.op = Op.next it false) (hk : P.underlying kt = some (.int .i64)) {todo : Int → Bool} {cnt : Nat} (hit : a.eval it = .pointer (some ⟨r, 0, none⟩)) (h : ItZ P kt w b r m todo cnt)
    (hDone : (∀ x, todo x = false) → wpList P ops Q rest (a.put o.dst (.tuple #[.bool false])) w)
    (hMore : ∀ (x : Int) (v : Value) (w' : World) (cnt' : Nat), look m x = some v → todo x = true → ItZ P kt w' b r m (fun z => todo z && decide (z ≠ x)) cnt' → cnt' < cnt → Upd (fun k => k = r) w w' → w'.heap.size = w.heap.size →
      (Instr.entry (.pointer (some ⟨r, 0, none⟩))).run P w' = .ok (.tuple #[.int .i64 x, v]) w' → wpList P ops Q rest (a.put o.dst (.tuple #[.bool true, .int .i64 x, v])) w') :
    wpList P ops Q (o :: rest) a w := by
  obtain ⟨left, hr, htodo, hnd, hbd⟩ := h
  refine wpList_next_ranges w hg it hop kt (Maps.int_keyed hk) heldR (Value.int .i64) (fun v : Value => v) (fun key kl hkey => by obtain ⟨x, rfl, _⟩ := Maps.keyOf_int_inv hk hkey; exact ⟨x, rfl⟩) (fun v y _ => ⟨v, rfl⟩) b r m.length (dataZ m) left cnt hit hr
    (fun _ hl => hDone fun x => by rw [← htodo]; exact hl _) ?_
  intro x v kl y w' cnt' hkey hlk hv hat hrg hlt hgr hsz hen
  obtain ⟨x', ex, rfl, hwf⟩ := Maps.keyOf_int_inv hk hkey
  cases ex
  have hxm : x ∈ m.map (·.1) := by
    obtain ⟨es, clock, since, seen, c0, hb, F, hs, hD, hri, hold, hc, hl1, hl2, -⟩ := hr
    obtain ⟨e, he, hek⟩ := hl2 _ hlk
    have hmem : (WideElems.rg P kt heldR e) ∈ (es.toList.map (WideElems.rg P kt heldR)).foldr DataW.insert [] := mem_sorted.2 (List.mem_map.2 ⟨e, he, rfl⟩)
    have hD' : (m.map fun x => (Lit.int .i64 x.1, DataW.held x.2)).foldr DataW.insert [] = (es.toList.map (WideElems.rg P kt heldR)).foldr DataW.insert [] := by
      unfold dataZ at hD
      exact DataW.map.inj hD
    rw [← hD'] at hmem
    obtain ⟨z, hz, hze⟩ := List.mem_map.1 (mem_sorted.1 hmem)
    have := congrArg Prod.fst hze
    rw [hek] at this
    simp only [Lit.int.injEq] at this
    exact List.mem_map.2 ⟨z, hz, by simpa using this⟩
  obtain ⟨z, hz, rfl⟩ := List.mem_map.1 hxm
  have hlook := look_of_mem hnd (show (z.1, z.2) ∈ m from hz)
  have hyv : y.1 = DataW.held v := by cases hv; rfl
  have hvz : v = z.2 := by
    have h1 := hat DataW.nil
    rw [hyv] at h1
    unfold dataZ DataW.atKey at h1
    simp only at h1
    cases hf : ((m.map fun x => (Lit.int .i64 x.1, DataW.held x.2)).foldr DataW.insert []).find? (fun p => p.1.sameKey (.int .i64 z.1)) with
    | none => rw [hf] at h1; cases h1
    | some p =>
      rw [hf] at h1
      obtain ⟨q, hq, rfl⟩ := List.mem_map.1 (mem_sorted.1 (List.mem_of_find?_eq_some hf))
      have hqs := List.find?_some (p := fun p : Lit × DataW Value => p.1.sameKey (.int .i64 z.1)) hf
      have hqk := WideAt.sameKey_eq hqs
      simp only [Lit.int.injEq, true_and] at hqk
      have h2 := look_of_mem hnd (show (q.1, q.2) ∈ m from hq)
      rw [hqk, hlook] at h2
      simp only [DataW.held.injEq] at h1
      rw [← h1]
      exact (Option.some.inj h2).symm
  rw [hvz] at hen ⊢
  refine hMore z.1 z.2 w' cnt' hlook (by rw [← htodo]; exact hlk) ⟨_, hrg, fun q => ?_, hnd, hbd⟩ hlt ⟨hgr.os, hgr.tape, hgr.output, hgr.size, fun k hk hn => hgr.block k hk (fun e => hn (by cases e; rfl))⟩ hsz hen
  rw [htodo]
  congr 1
  rw [Bool.eq_iff_iff]
  simp [Lit.sameKey]
end
end Go.Proofs.YtheeomjfpnijbaaGreatDoor
