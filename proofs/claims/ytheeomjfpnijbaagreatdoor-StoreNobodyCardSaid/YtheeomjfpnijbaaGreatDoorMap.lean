/- Maps, told by a list of keys and values: what a look-up and a store come to. -/
import Derived.Test.YtheeomjfpnijbaaGreatDoorBase
namespace Go.Proofs.YtheeomjfpnijbaaGreatDoor
open Go.RowKit
set_option linter.unusedVariables false

/-- Keys of one plain kind. -/
structure KeyKind (K : Type) [DecidableEq K] where
  enc : K → Value
  kind : TypeDesc
  same : ∀ a b, Instr.sameNow kind (enc a) (enc b) = some (decide (a = b))
  bits : ∀ a n, Instr.sameBits n (enc a) (enc a) = true
  plain : ∀ (P : Program) (t : TypeId) (e : Bool) (n : Nat) (a : K) (w : World), P.underlying t = some kind → (Instr.checkKey e (n + 1) t (enc a)).run P w = .ok () w

theorem bytes_beq (a b : ByteArray) : (a == b) = decide (a = b) := by
  by_cases h : a = b
  · subst h
    obtain ⟨d⟩ := a
    simp only [decide_true]
    show (d == d) = true
    simp
  · have : ¬ a.data = b.data := fun e => h (by cases a; cases b; cases e; rfl)
    obtain ⟨d⟩ := a
    obtain ⟨e⟩ := b
    simp only [h, decide_false]
    show (d == e) = false
    simpa using this

def strKeys : KeyKind ByteArray where
  enc := .string
  kind := .string
  same := fun a b => by show some (a == b) = _; rw [bytes_beq]
  bits := fun a n => by cases n <;> simp [Instr.sameBits, bytes_beq]
  plain := fun P t e n a w h => by simp [Instr.checkKey, run_underlying h]
def intKeys : KeyKind Int where
  enc := .int .i64
  kind := .int .i64
  same := fun a b => rfl
  bits := fun a n => by cases n <;> simp [Instr.sameBits]
  plain := fun P t e n a w h => by simp [Instr.checkKey, run_underlying h]

section
variable {K : Type} [DecidableEq K] (KK : KeyKind K)

/-- Block b is a map of these entries. -/
def MapIs (w : World) (b : Nat) (m : List (K × Value)) : Prop :=
  ∃ es clock, w.heap[b]? = some (.map es clock) ∧ es.toList.map (fun e => (e.key, e.val)) = m.map (fun x => (KK.enc x.1, x.2))

def look {V : Type} (m : List (K × V)) (k : K) : Option V := (m.find? fun x => decide (x.1 = k)).map (·.2)
/-- A store. -/
def put {V : Type} (m : List (K × V)) (k : K) (v : V) : List (K × V) := if (look m k).isSome then m.set (m.findIdx fun x => decide (x.1 = k)) (k, v) else m ++ [(k, v)]

theorem findNow_is (k : K) : ∀ (es : List MapEntry) (m : List (K × Value)) (i : Nat), es.map (fun e => (e.key, e.val)) = m.map (fun x => (KK.enc x.1, x.2)) →
    Instr.findNow KK.kind (KK.enc k) es i = some ((look m k).map fun v => (i + m.findIdx fun x => decide (x.1 = k), v))
  | [], [], i, _ => rfl
  | [], x :: m, i, h => by simp at h
  | e :: es, [], i, h => by simp at h
  | e :: es, x :: m, i, h => by
    simp only [List.map_cons, List.cons.injEq, Prod.mk.injEq] at h
    obtain ⟨⟨h1, h2⟩, h3⟩ := h
    have ih := findNow_is k es m (i + 1) h3
    unfold Instr.findNow
    rw [h1, KK.same, ih]
    by_cases hk : k = x.1
    · subst hk
      simp [look, h2, List.findIdx_cons]
    · have hk' : ¬ x.1 = k := fun h => hk h.symm
      rw [decide_eq_false hk]
      have e1 : look (x :: m) k = look m k := by unfold look; rw [List.find?_cons_of_neg (by simp [hk'])]
      have e2 : (x :: m).findIdx (fun x => decide (x.1 = k)) = m.findIdx (fun x => decide (x.1 = k)) + 1 := by rw [List.findIdx_cons, decide_eq_false hk']; rfl
      rw [e1, e2, show i + (m.findIdx (fun x => decide (x.1 = k)) + 1) = i + 1 + m.findIdx (fun x => decide (x.1 = k)) from by omega]

variable {KK}
variable {P : Program} {w : World} {b : Nat} {m : List (K × Value)}

theorem MapIs.find {t kt : TypeId} (h : MapIs KK w b m) (hk : P.underlying kt = some KK.kind) (k : K) :
    ∃ es clock, w.heap[b]? = some (.map es clock) ∧ (Instr.findKey kt (KK.enc k) es.toList).run P w = .ok ((look m k).map fun v => (m.findIdx (fun x => decide (x.1 = k)), v)) w := by
  obtain ⟨es, clock, hb, he⟩ := h
  refine ⟨es, clock, hb, ?_⟩
  have := findNow_is KK k es.toList m 0 he
  simp only [Nat.zero_add] at this
  simp [Instr.findKey, run_underlying hk, this]

/-- 'v, ok := m[k]'. -/
theorem MapIs.lookup_ok {t kt et : TypeId} (h : MapIs KK w b m) (ht : P.underlying t = some (.map kt et)) (hk : P.underlying kt = some KK.kind) {z : Value} (hz : (zeroValue et).run P w = .ok z w) (k : K) :
    (Instr.lookup t (.map (some b)) (KK.enc k) true).run P w = .ok (.tuple #[(look m k).getD z, .bool (look m k).isSome]) w := by
  obtain ⟨es, clock, hb, hf⟩ := h.find (t := t) hk k
  have hc : ∀ e, (Instr.checkKey e 10000 kt (KK.enc k)).run P w = .ok () w := fun e => KK.plain P kt e 9999 k w hk
  have hg : (getObj b).run P w = .ok (.map es clock) w := by simp [getObj, Sem.run, hb]
  rcases hl : look m k with _ | v
  · rw [hl] at hf
    simp [Instr.lookup, run_underlying ht, hg, hc, hf, hz]
  · rw [hl] at hf
    simp [Instr.lookup, run_underlying ht, hg, hc, hf]

/-- 'm[k]'. -/
theorem MapIs.lookup {t kt et : TypeId} (h : MapIs KK w b m) (ht : P.underlying t = some (.map kt et)) (hk : P.underlying kt = some KK.kind) {z : Value} (hz : (zeroValue et).run P w = .ok z w) (k : K) :
    (Instr.lookup t (.map (some b)) (KK.enc k) false).run P w = .ok ((look m k).getD z) w := by
  obtain ⟨es, clock, hb, hf⟩ := h.find (t := t) hk k
  have hc : ∀ e, (Instr.checkKey e 10000 kt (KK.enc k)).run P w = .ok () w := fun e => KK.plain P kt e 9999 k w hk
  have hg : (getObj b).run P w = .ok (.map es clock) w := by simp [getObj, Sem.run, hb]
  rcases hl : look m k with _ | v
  · rw [hl] at hf
    simp [Instr.lookup, run_underlying ht, hg, hc, hf, hz]
  · rw [hl] at hf
    simp [Instr.lookup, run_underlying ht, hg, hc, hf]

/-- A block of its own turned. -/
def setObjAt (w : World) (b : Nat) (o : Obj) : World := { w with heap := w.heap.setIfInBounds b o }
theorem setObjAt_upd (w : World) (b : Nat) (o : Obj) : Upd (fun k => k = b) w (setObjAt w b o) :=
  ⟨rfl, rfl, rfl, by simp [setObjAt], fun k hk hn => by simp only [setObjAt]; rw [Array.getElem?_setIfInBounds, if_neg (fun h => hn h.symm)]⟩
theorem setObjAt_at {w : World} {b : Nat} {o : Obj} (h : b < w.heap.size) : (setObjAt w b o).heap[b]? = some o := by
  simp [setObjAt, h]

theorem find_findIdx {α : Type} (p : α → Bool) : ∀ l : List α, l.find? p = l[l.findIdx p]?
  | [] => rfl
  | x :: l => by
    cases h : p x
    · rw [List.find?_cons_of_neg (by simp [h]), List.findIdx_cons, h, find_findIdx p l]; simp
    · rw [List.find?_cons_of_pos h, List.findIdx_cons, h]; simp

theorem look_some {V : Type} {m : List (K × V)} {k : K} {u : V} (h : look m k = some u) : ∃ x, m[m.findIdx fun x => decide (x.1 = k)]? = some x ∧ x.1 = k ∧ x.2 = u := by
  unfold look at h
  obtain ⟨x, hx, rfl⟩ := Option.map_eq_some_iff.1 h
  have hx' := hx
  rw [find_findIdx] at hx
  have := List.find?_some hx'
  exact ⟨x, hx, by simpa using this, rfl⟩

theorem set_map : ∀ (es : List MapEntry) (m : List (K × Value)) (i : Nat) (e' : MapEntry → MapEntry) (k : K) (v : Value), es.map (fun e => (e.key, e.val)) = m.map (fun x => (KK.enc x.1, x.2)) → (∀ e, (e' e).key = KK.enc k ∧ (e' e).val = v) →
    (es.modify i e').map (fun e => (e.key, e.val)) = (m.set i (k, v)).map (fun x => (KK.enc x.1, x.2))
  | [], [], i, e', k, v, _, _ => by simp
  | [], x :: m, i, e', k, v, h, _ => by simp at h
  | e :: es, [], i, e', k, v, h, _ => by simp at h
  | e :: es, x :: m, 0, e', k, v, h, he => by
    simp only [List.map_cons, List.cons.injEq] at h
    simp [h.2, he e]
  | e :: es, x :: m, i + 1, e', k, v, h, he => by
    simp only [List.map_cons, List.cons.injEq] at h
    simp only [List.modify_succ_cons, List.set_cons_succ, List.map_cons, h.1, set_map es m i e' k v h.2 he]

/-- 'm[k] = v'. -/
theorem MapIs.store {t kt et : TypeId} (h : MapIs KK w b m) (ht : P.underlying t = some (.map kt et)) (hk : P.underlying kt = some KK.kind) (k : K) (v : Value) :
    ∃ w', (Instr.mapUpdate t (.map (some b)) (KK.enc k) v).run P w = .ok () w' ∧ MapIs KK w' b (put m k v) ∧ Upd (fun i => i = b) w w' := by
  obtain ⟨es, clock, hb, hf⟩ := h.find (t := t) hk k
  obtain ⟨es', clock', hb', he⟩ := h
  obtain ⟨rfl, rfl⟩ : es' = es ∧ clock' = clock := by rw [hb] at hb'; cases hb'; exact ⟨rfl, rfl⟩
  have hc : (Instr.checkKey false 10000 kt (KK.enc k)).run P w = .ok () w := KK.plain P kt false 9999 k w hk
  have hg : (getObj b).run P w = .ok (.map es' clock') w := by simp [getObj, Sem.run, hb]
  have hs : ∀ o, (setObj b o).run P w = .ok () (setObjAt w b o) := fun o => by simp [setObj, Sem.run, hb, setObjAt]
  have hlt : b < w.heap.size := (Array.getElem?_eq_some_iff.1 hb).1
  rcases hl : look m k with _ | u
  · rw [hl] at hf
    refine ⟨setObjAt w b (.map (es'.push { key := KK.enc k, val := v, born := clock' }) (clock' + 1)), ?_, ⟨_, _, setObjAt_at hlt, ?_⟩, setObjAt_upd _ _ _⟩
    · simp [Instr.mapUpdate, run_underlying ht, hg, hc, hf, hs]
    · unfold put
      rw [hl]
      simp [he]
  · rw [hl] at hf
    obtain ⟨x, hx, hx1, _⟩ := look_some hl
    generalize hi : m.findIdx (fun x => decide (x.1 = k)) = i at *
    have hk' : ((es'[i]?).map (·.key)).getD (KK.enc k) = KK.enc k := by
      have e1 : (es'.toList.map (fun e => (e.key, e.val)))[i]? = some (KK.enc x.1, x.2) := by rw [he]; simp [hx]
      rw [List.getElem?_map] at e1
      obtain ⟨e0, h0, h1⟩ := Option.map_eq_some_iff.1 e1
      rw [Array.getElem?_toList] at h0
      simp only [Prod.mk.injEq] at h1
      rw [h0]
      simp [h1.1, hx1]
    refine ⟨setObjAt w b (.map (es'.modify i fun e => { e with key := KK.enc k, val := v }) clock'), ?_, ⟨_, _, setObjAt_at hlt, ?_⟩, setObjAt_upd _ _ _⟩
    · simp [Instr.mapUpdate, run_underlying ht, hg, hc, hf, hs, Instr.keyThatStays, hk', KK.bits]
    · unfold put
      rw [hl, hi]
      simp only [Option.isSome_some, if_true, Array.toList_modify]
      exact set_map es'.toList m i _ k v he (fun e => ⟨rfl, rfl⟩)

theorem look_cons {V : Type} (x : K × V) (m : List (K × V)) (k : K) : look (x :: m) k = if x.1 = k then some x.2 else look m k := by
  unfold look
  by_cases h : x.1 = k
  · rw [List.find?_cons_of_pos (by simp [h]), if_pos h]; rfl
  · rw [List.find?_cons_of_neg (by simp [h]), if_neg h]
theorem put_cons {V : Type} (x : K × V) (m : List (K × V)) (k : K) (v : V) : put (x :: m) k v = if x.1 = k then (k, v) :: m else x :: put m k v := by
  unfold put
  rw [look_cons]
  by_cases h : x.1 = k
  · simp [h, List.findIdx_cons]
  · rw [if_neg h, if_neg h]
    cases hl : (look m k).isSome
    · simp
    · simp [List.findIdx_cons, h]

theorem look_put {V : Type} (m : List (K × V)) (k k' : K) (v : V) : look (put m k v) k' = if k' = k then some v else look m k' := by
  induction m with
  | nil =>
    by_cases h : k' = k
    · subst h; simp [put, look]
    · have h' : ¬ k = k' := fun e => h e.symm
      simp [put, look, h, h']
  | cons x m ih =>
    rw [put_cons]
    by_cases h : x.1 = k
    · rw [if_pos h, look_cons, look_cons, h]
      by_cases h' : k = k'
      · simp [h']
      · rw [if_neg h', if_neg h', if_neg (fun e => h' e.symm)]
    · rw [if_neg h, look_cons, look_cons, ih]
      by_cases h' : x.1 = k'
      · rw [if_pos h', if_pos h', if_neg (fun e => h (h'.trans e))]
      · rw [if_neg h', if_neg h']

/-- The values told by a word of their own. -/
def mapV {V : Type} (f : V → Value) (m : List (K × V)) : List (K × Value) := m.map fun x => (x.1, f x.2)
theorem look_mapV {V : Type} (f : V → Value) (m : List (K × V)) (k : K) : look (mapV f m) k = (look m k).map f := by
  induction m with
  | nil => rfl
  | cons x m ih =>
    show look ((x.1, f x.2) :: mapV f m) k = _
    rw [look_cons, look_cons, ih]
    by_cases h : x.1 = k
    · rw [if_pos h, if_pos h]; rfl
    · rw [if_neg h, if_neg h]
theorem put_mapV {V : Type} (f : V → Value) (m : List (K × V)) (k : K) (v : V) : put (mapV f m) k (f v) = mapV f (put m k v) := by
  induction m with
  | nil => rfl
  | cons x m ih =>
    show put ((x.1, f x.2) :: mapV f m) k (f v) = _
    rw [put_cons, put_cons, ih]
    by_cases h : x.1 = k
    · rw [if_pos h, if_pos h]; rfl
    · rw [if_neg h, if_neg h]; rfl

/-! At the operations. -/
section
variable {ops : Array Oper} {rest : List Oper} {o : Oper} {a : Act} {Q : Exit → Act → World → Prop}
theorem wpList_store (hg : o.guard = none) (mm x v : Operand) (t : TypeId) (hop : o.op = Op.mapUpdate t mm x v) (kt et : TypeId) (ht : P.underlying t = some (.map kt et)) (hk : P.underlying kt = some KK.kind)
    (k : K) (val : Value) (hm : a.eval mm = .map (some b)) (hx : a.eval x = KK.enc k) (hv : a.eval v = val) (h : MapIs KK w b m)
    (hK : ∀ w', MapIs KK w' b (put m k val) → Upd (fun i => i = b) w w' → wpList P ops Q rest (a.put o.dst undef) w') : wpList P ops Q (o :: rest) a w := by
  refine wpList_plain hg fun K' hK' => ?_
  obtain ⟨w', hrun, r1, r2⟩ := h.store ht hk k val
  unfold Oper.wp
  simp [execOp, hop, hm, hx, hv, hrun, Result.andThen]
  exact hK' _ _ (hK w' r1 r2)
theorem wpList_look_ok (hg : o.guard = none) (mm x : Operand) (t : TypeId) (hop : o.op = Op.lookup t mm x true) (kt et : TypeId) (ht : P.underlying t = some (.map kt et)) (hk : P.underlying kt = some KK.kind)
    (z : Value) (hz : ∀ w, (zeroValue et).run P w = .ok z w) (k : K) (hm : a.eval mm = .map (some b)) (hx : a.eval x = KK.enc k) (h : MapIs KK w b m)
    (hK : wpList P ops Q rest (a.put o.dst (.tuple #[(look m k).getD z, .bool (look m k).isSome])) w) : wpList P ops Q (o :: rest) a w := by
  refine wpList_plain hg fun K' hK' => ?_
  have hrun := h.lookup_ok ht hk (hz w) k
  unfold Oper.wp
  simp [execOp, hop, hm, hx, hrun, Result.andThen]
  exact hK' _ _ hK
theorem wpList_look (hg : o.guard = none) (mm x : Operand) (t : TypeId) (hop : o.op = Op.lookup t mm x false) (kt et : TypeId) (ht : P.underlying t = some (.map kt et)) (hk : P.underlying kt = some KK.kind)
    (z : Value) (hz : ∀ w, (zeroValue et).run P w = .ok z w) (k : K) (hm : a.eval mm = .map (some b)) (hx : a.eval x = KK.enc k) (h : MapIs KK w b m)
    (hK : wpList P ops Q rest (a.put o.dst ((look m k).getD z)) w) : wpList P ops Q (o :: rest) a w := by
  refine wpList_plain hg fun K' hK' => ?_
  have hrun := h.lookup ht hk (hz w) k
  unfold Oper.wp
  simp [execOp, hop, hm, hx, hrun, Result.andThen]
  exact hK' _ _ hK
end
theorem MapIs.lt (h : MapIs KK w b m) : b < w.heap.size := by
  obtain ⟨es, clock, hb, _⟩ := h
  exact (Array.getElem?_eq_some_iff.1 hb).1
theorem MapIs.upd {S : Nat → Prop} {w' : World} (h : MapIs KK w b m) (hu : Upd S w w') (hn : ¬ S b) : MapIs KK w' b m := by
  have hl := h.lt
  obtain ⟨es, clock, hb, he⟩ := h
  exact ⟨es, clock, (hu.block b hl hn).trans hb, he⟩
theorem MapIs.alloc (h : MapIs KK w b m) (o : Obj) : MapIs KK (w.alloc o) b m :=
  h.upd (Upd.of_below' ((Below.refl _ w).alloc (Nat.le_refl _) o) (fun _ => False)) (fun h => h)
theorem MapIs.made (w : World) : MapIs KK (w.alloc (.map #[] 0)) w.heap.size ([] : List (K × Value)) :=
  ⟨#[], 0, heap_alloc_new w _, rfl⟩
end
end Go.Proofs.YtheeomjfpnijbaaGreatDoor
