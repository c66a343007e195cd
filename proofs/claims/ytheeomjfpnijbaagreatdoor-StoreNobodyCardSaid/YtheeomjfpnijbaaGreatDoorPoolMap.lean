/- A map of ints with its stamps: insert where absent, delete, length, the keys. -/
import Derived.Test.YtheeomjfpnijbaaGreatDoorMap
import Derived.Test.YtheeomjfpnijbaaGreatDoorPoolNone
import Derived.Test.YtheeomjfpnijbaaGreatDoorShelf
import Derived.Maps.OwnSet
import Derived.Maps.RangeWalk
namespace Go.Proofs.YtheeomjfpnijbaaGreatDoor
open Go.RowKit Go.MapKept
set_option linter.unusedVariables false

/-- Block b is a map of these entries, each key once. -/
def MapZ (w : World) (b : Nat) (m : List (Int × Value)) : Prop :=
  ∃ es clock, w.heap[b]? = some (.map es clock) ∧ es.toList.map (fun e => (e.key, e.val)) = m.map (fun x => (intKeys.enc x.1, x.2)) ∧ Stamped es clock ∧ m.length ≤ 100000 ∧ ∀ x ∈ m, -9223372036854775808 ≤ x.1 ∧ x.1 < 9223372036854775808

variable {P : Program} {w : World} {b : Nat} {m : List (Int × Value)}
theorem MapZ.is (h : MapZ w b m) : MapIs intKeys w b m := by
  obtain ⟨es, c, h1, h2, -⟩ := h
  exact ⟨es, c, h1, h2⟩
theorem MapZ.lt (h : MapZ w b m) : b < w.heap.size := h.is.lt
theorem MapZ.upd {S : Nat → Prop} {w' : World} (h : MapZ w b m) (hu : Upd S w w') (hS : ¬ S b) : MapZ w' b m := by
  have hl := h.lt
  obtain ⟨es, c, h1, h2⟩ := h
  exact ⟨es, c, (hu.block b hl hS).trans h1, h2⟩
theorem MapZ.nodup (h : MapZ w b m) : (m.map (·.1)).Nodup := by
  obtain ⟨es, c, h1, h2, h3, -⟩ := h
  have e : es.toList.map (·.key) = (m.map (·.1)).map intKeys.enc := by
    have := congrArg (List.map Prod.fst) h2
    simpa [List.map_map, Function.comp_def] using this
  have h4 : (es.toList.map (·.key)).Nodup := h3.2.2
  rw [e] at h4
  exact (List.pairwise_map.1 h4).imp fun {a b} hne he => hne (by rw [he])
theorem MapZ.made (w : World) : MapZ (w.alloc (.map #[] 0)) w.heap.size [] :=
  ⟨#[], 0, heap_alloc_new w _, rfl, stamped_empty 0, by simp, by simp⟩
theorem MapZ.len {t kt et : TypeId} (h : MapZ w b m) (ht : P.underlying t = some (.map kt et)) (ty : TypeId) : (Builtin.len_ #[t] ty #[.map (some b)]).run P w = .ok (.int .i64 m.length) w := by
  obtain ⟨es, c, h1, h2, -⟩ := h
  have hl : es.size = m.length := by simpa using congrArg List.length h2
  simp [Builtin.len_, run_underlying ht, show (getObj b).run P w = .ok (.map es c) w from by simp [getObj, Sem.run, h1], goInt, Result.andThen, hl]
theorem MapZ.insert {t kt et : TypeId} (h : MapZ w b m) (ht : P.underlying t = some (.map kt et)) (hk : P.underlying kt = some (.int .i64)) (k : Int) (v : Value) (hn : look m k = none) (hr : m.length < 100000) (hk1 : -9223372036854775808 ≤ k) (hk2 : k < 9223372036854775808) :
    ∃ w', (Instr.mapUpdate t (.map (some b)) (.int .i64 k) v).run P w = .ok () w' ∧ MapZ w' b (m ++ [(k, v)]) ∧ Upd (fun i => i = b) w w' := by
  obtain ⟨es0, clock0, hb0, hf⟩ := h.is.find (t := t) hk k
  have hlt := h.lt
  obtain ⟨es, clock, hb, he, hs, hl, hw⟩ := h
  obtain ⟨rfl, rfl⟩ : es0 = es ∧ clock0 = clock := by rw [hb0] at hb; cases hb; exact ⟨rfl, rfl⟩
  have hc : (Instr.checkKey false 10000 kt (intKeys.enc k)).run P w = .ok () w := intKeys.plain P kt false 9999 k w hk
  have hg : (getObj b).run P w = .ok (.map es0 clock0) w := by simp [getObj, Sem.run, hb]
  have hso : ∀ o, (setObj b o).run P w = .ok () (setObjAt w b o) := fun o => by simp [setObj, Sem.run, hb, setObjAt]
  rw [hn] at hf
  have hc' : (Instr.checkKey false 10000 kt (.int .i64 k)).run P w = .ok () w := hc
  have hf' : (Instr.findKey kt (.int .i64 k) es0.toList).run P w = .ok none w := hf
  have hkeys : ∀ x ∈ es0.toList, x.key ≠ intKeys.enc k := by
    intro x hx hxe
    have : (x.key, x.val) ∈ es0.toList.map (fun e => (e.key, e.val)) := List.mem_map.2 ⟨x, hx, rfl⟩
    rw [he] at this
    obtain ⟨y, hy, hye⟩ := List.mem_map.1 this
    simp only [Prod.mk.injEq] at hye
    have hyk : y.1 = k := by have e := hye.1.trans hxe; simpa [intKeys] using e
    unfold look at hn
    rw [Option.map_eq_none_iff, List.find?_eq_none] at hn
    exact hn y hy (by simp [hyk])
  refine ⟨setObjAt w b (.map (es0.push { key := intKeys.enc k, val := v, born := clock0 }) (clock0 + 1)), ?_, ⟨_, _, setObjAt_at hlt, ?_, stamped_push hs hkeys, by simp; omega, ?_⟩, setObjAt_upd _ _ _⟩
  · show (Instr.mapUpdate t (.map (some b)) (.int .i64 k) v).run P w = _
    simp [Instr.mapUpdate, run_underlying ht, hg, hc', hf', hso]
    rfl
  · simp [he]
  · intro x hx
    rcases List.mem_append.1 hx with h | h
    · exact hw x h
    · simp at h
      subst h
      exact ⟨hk1, hk2⟩

theorem eraseIdx_of_map {α β : Type} (f : α → β) : ∀ (l : List α) (i : Nat), (l.map f).eraseIdx i = (l.eraseIdx i).map f
  | [], i => by simp
  | x :: l, 0 => rfl
  | x :: l, i + 1 => by simp [eraseIdx_of_map f l i]
def del {V : Type} (m : List (Int × V)) (k : Int) : List (Int × V) := m.eraseIdx (m.findIdx fun x => decide (x.1 = k))
theorem MapZ.delete {t kt et : TypeId} (h : MapZ w b m) (ht : P.underlying t = some (.map kt et)) (hk : P.underlying kt = some (.int .i64)) (k : Int) (ty : TypeId) {u : Value} (hn : look m k = some u) :
    ∃ w', (Builtin.delete_ #[t, kt] ty #[.map (some b), .int .i64 k]).run P w = .ok (.tuple #[]) w' ∧ MapZ w' b (del m k) ∧ Upd (fun i => i = b) w w' := by
  obtain ⟨es0, clock0, hb0, hf⟩ := h.is.find (t := t) hk k
  have hlt := h.lt
  obtain ⟨es, clock, hb, he, hs, hl, hw⟩ := h
  obtain ⟨rfl, rfl⟩ : es0 = es ∧ clock0 = clock := by rw [hb0] at hb; cases hb; exact ⟨rfl, rfl⟩
  have hc : ∀ e, (Instr.checkKey e 10000 kt (.int .i64 k)).run P w = .ok () w := fun e => intKeys.plain P kt e 9999 k w hk
  have hg : (getObj b).run P w = .ok (.map es0 clock0) w := by simp [getObj, Sem.run, hb]
  have hso : ∀ o, (setObj b o).run P w = .ok () (setObjAt w b o) := fun o => by simp [setObj, Sem.run, hb, setObjAt]
  rw [hn] at hf
  have hf' : (Instr.findKey kt (.int .i64 k) es0.toList).run P w = .ok (some (m.findIdx (fun x => decide (x.1 = k)), u)) w := hf
  obtain ⟨x, hx, -, -⟩ := look_some hn
  have hi : m.findIdx (fun x => decide (x.1 = k)) < es0.size := by
    have h1 := (List.getElem?_eq_some_iff.1 hx).1
    have h2 : es0.size = m.length := by simpa using congrArg List.length he
    omega
  have hsub : (es0.eraseIdxIfInBounds (m.findIdx (fun x => decide (x.1 = k)))).toList = es0.toList.eraseIdx (m.findIdx (fun x => decide (x.1 = k))) := by
    unfold Array.eraseIdxIfInBounds
    rw [dif_pos hi]
    simp
  refine ⟨setObjAt w b (.map (es0.eraseIdxIfInBounds (m.findIdx (fun x => decide (x.1 = k)))) clock0), ?_, ⟨_, _, setObjAt_at hlt, ?_, stamped_erase hs _, ?_, ?_⟩, setObjAt_upd _ _ _⟩
  · simp [Builtin.delete_, run_underlying ht, hg, hc, hf', hso, Result.andThen]
  · rw [hsub]
    unfold del
    rw [← eraseIdx_of_map, he, eraseIdx_of_map]
  · unfold del
    have := (List.eraseIdx_sublist m (m.findIdx (fun x => decide (x.1 = k)))).length_le
    omega
  · intro x hx
    exact hw x ((List.eraseIdx_sublist _ _).subset hx)

/-- What the keys' iterator is told of a map. -/
def keysD (m : List (Int × Value)) : DataW Nat := .map ((m.map fun x => (Lit.int .i64 x.1, DataW.nil)).foldr DataW.insert [])
theorem wfI {x : Int} (h1 : -9223372036854775808 ≤ x) (h2 : x < 9223372036854775808) : (Lit.int .i64 x).wf = true := by
  have e1 : IntKind.i64.min = -9223372036854775808 := by decide
  have e2 : IntKind.i64.max = 9223372036854775807 := by decide
  simp only [Lit.wf, e1, e2, Bool.and_eq_true, decide_eq_true_eq]
  omega
theorem MapZ.owns {kt : TypeId} (h : MapZ w b m) (hk : P.underlying kt = some (.int .i64)) : w.ownsMap P kt (fun _ => some (DataW.nil, [])) b m.length (keysD m) := by
  obtain ⟨es, c, h1, h2, h3, h4, h5⟩ := h
  have hl : es.size = m.length := by simpa using congrArg List.length h2
  have hrd : ∀ x ∈ es.toList, ∃ y ∈ m, x.key = .int .i64 y.1 ∧ WideElems.rd P kt (fun _ => some ((DataW.nil : DataW Nat), [])) x = some (Lit.int .i64 y.1, .nil) := by
    intro x hx
    have : (x.key, x.val) ∈ es.toList.map (fun e => (e.key, e.val)) := List.mem_map.2 ⟨x, hx, rfl⟩
    rw [h2] at this
    obtain ⟨y, hy, hye⟩ := List.mem_map.1 this
    simp only [Prod.mk.injEq] at hye
    have hkx : x.key = .int .i64 y.1 := hye.1.symm
    refine ⟨y, hy, hkx, ?_⟩
    have hko := Maps.keyOf_int_mk (P := P) hk (wfI (h5 y hy).1 (h5 y hy).2)
    simp [WideElems.rd, hkx, hko]
  refine ⟨es, c, h1, ⟨by rw [hl]; simp only [maxLen]; omega, h3, fun x hx => ?_⟩, by omega, ?_⟩
  · obtain ⟨y, -, -, hy⟩ := hrd x hx
    exact ⟨_, hy⟩
  · unfold keysD
    congr 2
    have e : es.toList.map (WideElems.rg P kt fun _ => some ((DataW.nil : DataW Nat), [])) = es.toList.map (fun e => match e.key with | .int _ a => (Lit.int .i64 a, (DataW.nil : DataW Nat)) | _ => (.bool false, .nil)) := by
      refine List.map_congr_left fun x hx => ?_
      obtain ⟨y, -, hk, hy⟩ := hrd x hx
      simp [WideElems.rg, hy, hk]
    rw [e]
    have e2 := congrArg (List.map fun p : Value × Value => match p.1 with | .int _ a => (Lit.int .i64 a, (DataW.nil : DataW Nat)) | _ => (.bool false, .nil)) h2
    simp only [List.map_map, Function.comp_def] at e2
    exact e2.symm
theorem keys_perm {ys : List Int} (h : ys.Perm (Go.intKeys (keysD m))) : ys.Perm (m.map (·.1)) := by
  refine h.trans ?_
  show (List.map (fun p : Lit × DataW Nat => Go.intOf p.1) _).Perm _
  refine ((WideShapes.sorted_perm _).map _).trans ?_
  rw [List.map_map]
  exact List.Perm.of_eq (List.map_congr_left fun x _ => rfl)
theorem keys_size : Go.Maps.size (keysD m) = m.length := by
  show ((m.map fun x => (Lit.int .i64 x.1, (DataW.nil : DataW Nat))).foldr DataW.insert []).length = _
  rw [length_sorted]
  simp

section
variable {ops : Array Oper} {rest : List Oper} {o : Oper} {a : Act} {Q : Exit → Act → World → Prop}
theorem wpList_insertZ (hg : o.guard = none) (mm x v : Operand) (t : TypeId) (hop : o.op = Op.mapUpdate t mm x v) (kt et : TypeId) (ht : P.underlying t = some (.map kt et)) (hk : P.underlying kt = some (.int .i64))
    (k : Int) (val : Value) (hm : a.eval mm = .map (some b)) (hx : a.eval x = .int .i64 k) (hv : a.eval v = val) (h : MapZ w b m) (hn : look m k = none) (hr : m.length < 100000) (hk1 : -9223372036854775808 ≤ k) (hk2 : k < 9223372036854775808)
    (hK : ∀ w', MapZ w' b (m ++ [(k, val)]) → Upd (fun i => i = b) w w' → wpList P ops Q rest (a.put o.dst undef) w') : wpList P ops Q (o :: rest) a w := by
  refine wpList_plain hg fun K' hK' => ?_
  obtain ⟨w', hrun, r1, r2⟩ := h.insert ht hk k val hn hr hk1 hk2
  unfold Oper.wp
  simp [execOp, hop, hm, hx, hv, hrun, Result.andThen]
  exact hK' _ _ (hK w' r1 r2)
theorem wpList_deleteZ (hg : o.guard = none) (mm x : Operand) (t kt : TypeId) (hop : o.op = Op.call { callee := Callee.builtin Builtin.delete, args := #[mm, x], argTypes := #[t, kt] }) (et : TypeId) (ht : P.underlying t = some (.map kt et)) (hk : P.underlying kt = some (.int .i64))
    (k : Int) (hm : a.eval mm = .map (some b)) (hx : a.eval x = .int .i64 k) (h : MapZ w b m) {u : Value} (hn : look m k = some u)
    (hK : ∀ w', MapZ w' b (del m k) → Upd (fun i => i = b) w w' → wpList P ops Q rest (a.put o.dst (.tuple #[])) w') : wpList P ops Q (o :: rest) a w := by
  refine wpList_plain hg fun K' hK' => ?_
  obtain ⟨w', hrun, r1, r2⟩ := h.delete ht hk k o.type hn
  unfold Oper.wp
  simp [execOp, hop, resolve, invoke, builtin, hm, hx, hrun, Result.andThen]
  exact hK' _ _ (hK w' r1 r2)
end
theorem look_mem {V : Type} {m : List (Int × V)} {k : Int} {u : V} (h : look m k = some u) : (k, u) ∈ m := by
  obtain ⟨x, hx, h1, h2⟩ := look_some h
  have := List.mem_of_getElem? hx
  cases x
  simp only at h1 h2
  subst h1 h2
  exact this
theorem look_of_mem {V : Type} : ∀ {m : List (Int × V)} (hn : (m.map (·.1)).Nodup) {k : Int} {u : V}, (k, u) ∈ m → look m k = some u
  | [], _, k, u, h => by cases h
  | x :: m, hn, k, u, h => by
    rw [look_cons]
    rw [List.map_cons, List.nodup_cons] at hn
    rcases List.mem_cons.1 h with h | h
    · rw [← h]; simp
    · rw [if_neg (fun e => hn.1 (by rw [e]; exact List.mem_map.2 ⟨(k, u), h, rfl⟩)), look_of_mem hn.2 h]
theorem look_none_iff {V : Type} : ∀ {m : List (Int × V)} {k : Int}, look m k = none ↔ k ∉ m.map (·.1)
  | [], k => by simp [look]
  | x :: m, k => by
    rw [look_cons]
    by_cases h : x.1 = k
    · simp [h]
    · have h' : ¬ k = x.1 := fun e => h e.symm
      rw [if_neg h, look_none_iff, List.map_cons, List.mem_cons, not_or]
      exact ⟨fun e => ⟨h', e⟩, fun e => e.2⟩
theorem look_append {V : Type} : ∀ {m : List (Int × V)} {k j : Int} {u : V}, look (m ++ [(k, u)]) j = (look m j).or (if k = j then some u else none)
  | [], k, j, u => by simp [look]
  | x :: m, k, j, u => by
    rw [List.cons_append, look_cons, look_cons, look_append (m := m)]
    by_cases h : x.1 = j <;> simp [h]
theorem look_del {V : Type} : ∀ {m : List (Int × V)} (hn : (m.map (·.1)).Nodup) {k j : Int}, look (del m k) j = if j = k then none else look m j
  | [], _, k, j => by simp [del, look]
  | x :: m, hn, k, j => by
    rw [List.map_cons, List.nodup_cons] at hn
    by_cases h : x.1 = k
    · have e : del (x :: m) k = m := by simp [del, List.findIdx_cons, h]
      rw [e, look_cons]
      by_cases hj : j = k
      · subst hj
        rw [if_pos rfl, look_none_iff, ← h]
        exact hn.1
      · rw [if_neg hj, if_neg (fun e => hj (by rw [← e, h]))]
    · have e : del (x :: m) k = x :: del m k := by simp [del, List.findIdx_cons, h]
      rw [e, look_cons, look_cons, look_del hn.2]
      by_cases hj : j = k
      · subst hj
        simp [h]
      · simp [hj]
theorem del_length {V : Type} {m : List (Int × V)} {k : Int} {u : V} (h : look m k = some u) : (del m k).length + 1 = m.length := by
  obtain ⟨x, hx, -, -⟩ := look_some h
  have := (List.getElem?_eq_some_iff.1 hx).1
  unfold del
  rw [List.length_eraseIdx_of_lt this]
  omega
theorem del_nodup {V : Type} {m : List (Int × V)} (h : (m.map (·.1)).Nodup) (k : Int) : ((del m k).map (·.1)).Nodup := by
  unfold del
  rw [← eraseIdx_of_map]
  exact h.sublist (List.eraseIdx_sublist _ _)
theorem del_mem {V : Type} {m : List (Int × V)} {k : Int} {x : Int × V} (h : x ∈ del m k) : x ∈ m := (List.eraseIdx_sublist _ _).subset h
theorem del_mapV {V U : Type} (f : V → U) (m : List (Int × V)) (k : Int) : del (m.map fun x => (x.1, f x.2)) k = (del m k).map fun x => (x.1, f x.2) := by
  unfold del
  rw [← eraseIdx_of_map]
  congr 1
  induction m with
  | nil => rfl
  | cons x m ih => simp [List.findIdx_cons, ih]
theorem look_mapVZ {V U : Type} (f : V → U) (m : List (Int × V)) (k : Int) : look (m.map fun x => (x.1, f x.2)) k = (look m k).map f := by
  induction m with
  | nil => rfl
  | cons x m ih =>
    rw [List.map_cons, look_cons, look_cons, ih]
    by_cases h : x.1 = k <;> simp [h]
end Go.Proofs.YtheeomjfpnijbaaGreatDoor
