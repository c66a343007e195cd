/- slices.AppendSeq, Collect over whatever iterator of ints; slices.Values; maps.Keys at no map. -/
import Derived.Test.YtheeomjfpnijbaaGreatDoorLogZero
namespace Go.Proofs.YtheeomjfpnijbaaGreatDoor
open Go.RowKit Go.Shelf
set_option linter.unusedVariables false
attribute [local go_sem] Oper.semAt_some

theorem infoInt : (Tryz.prog.info? 3).map (fun i => (i.zero, i.size, i.bytes)) = some (some (.int .i64 0), 1, 8) := by kernel_rfl

set_option maxRecDepth 100000 in
set_option maxHeartbeats 2000000 in
theorem appendInts_in (F : Fence) (n : Nat) (hf : F.fn 284) (gf : Nat) (hg : F.fn gf) (eg : ∀ args w, (callFunc gf args).run Tryz.prog w = .ok (.enter gf args) w) (hro : F.round = none) (hn : 2 ≤ n) (lb : Array Value) (N : Nat) (hN : N ≤ 1000000000) (S Sp : List Int → Prop) (w : World)
    {Kp : World → World → Prop} (hKt : ∀ {A B C : World}, Kp A B → Kp B C → Kp A C) (hKb : ∀ (W : World) (l : Nat) (o o' : Obj), w.heap.size ≤ l → W.heap[l]? = some o → o.isCells = false → o.isWalk = false → Kp W (W.putObj l o')) (hKo : ∀ W W', KeepsOthers W W' → Below w.heap.size W W' → Kp W W')
    (hseq : SeqStopsK F (n - 1) Tryz.prog gf lb (fun x : Int => #[Value.int .i64 x]) Kp S Sp N w) :
    CallsIn F n Tryz.prog 284 #[.slice none 0 0, .func (.func gf) #[] lb] w fun e w' => ∃ v ys, e = .returned v ∧ S ys ∧ w'.ownsRow w.heap.size 3 1 v ys.length (ys.map (Value.int .i64)) ∧ Below w.heap.size w w' := by
  have h1 : 1 ≤ n := by omega
  obtain ⟨i0, hi, hz0, hz1, hz2⟩ := info_parts infoInt
  refine callsIn_of_wp_marks Tryz.func284 rfl hf ?_ hro
  simp only [Tryz.ntmps284, List.size_toArray, List.length_cons, List.length_nil, Nat.reduceAdd, Nat.reduceSub, Array.replicate_succ, Array.replicate_zero, List.push_toArray, List.append_toArray, List.nil_append, List.cons_append]
  gi_wp2
  have bO := Boxed.new w 107 (.slice none 0 0)
  have hB0 : Below w.heap.size w (w.alloc (.cells #[.slice none 0 0] 107)) := (Below.refl _ w).alloc (Nat.le_refl _) _
  refine wpIn_rangeFunc_ownF hro h1 (gf := gf) (lb := lb) rfl hg eg
    hseq hKt (fun W l o o' h => hKb W l o o' (by simp at h; omega)) hB0 (fun _ => rfl)
    (fun (pre : List Int) W => (∃ v, Boxed W w.heap.size 107 v ∧ W.ownsRow w.heap.size 3 1 v pre.length (pre.map (Value.int .i64)) ∧ True) ∧ Below w.heap.size w W)
    (fun _ _ _ => False)
    (OwnFrom.and (Own.from (holdsRow_own w.heap.size w.heap.size 107 3 1 (fun (pre : List Int) => pre.length) (fun (pre : List Int) => pre.map (Value.int .i64)) (fun _ _ => True)) _) (ownFrom_below (Nat.le_refl _) (by simp)))
    (fun _ _ _ _ _ hs _ _ => hs)
    ⟨⟨_, bO, World.ownsRow_nil _ _ _ _, trivial⟩, hB0⟩
    (fun x => { tmps := #[.slice none 0 0, .func (.func gf) #[] lb, .pointer (some ⟨w.heap.size, 0, none⟩), undef, .slice none 0 0, .int .i64 x, .func (.func gf) #[] lb, .int .i64 x, undef, undef, undef, undef, undef], defers := [] }) ?assign ?body ?done ?stop
  case assign =>
    intro l x W K hK
    gi_wp2
    exact hK
  case body =>
    rintro l pre x W ⟨⟨v, hv, hrow, -⟩, hB⟩ hlt
    have hc := hv.cell
    gi_wp2_with (gi_at_builtin; refine wpListIn_append_own _ rfl _ _ 107 rfl w.heap.size 3 i0 (.int .i64 0) 1 8 Tryz.underlying107 hi hz0 hz1 hz2 rfl (by decide) _ _ _ rfl (hrow.alloc _) ⟨W.heap.size, 0, none⟩ 1 1 [.int .i64 x] rfl rfl (cell_one_new _ _ _) (by simp [Value.oneCell']) (by simp only [maxLen]; omega) (by omega) (by have := hB.size; simp; omega) ?_; intro v' w1 hown' hgrow _; obtain ⟨g', cap', rfl⟩ := ownsRow_succ hown'; obtain ⟨hv1, hv2, hr2, hk2, hb2⟩ := hv.appended (by decide) hrow hB.size (Nat.le_refl _) hown' hgrow; have hc1 := hv1.cell; have hf1 := hv1.frozen)
    exact ⟨hk2, hKo _ _ hk2 hb2, ⟨_, hv2, by rw [List.map_append, List.length_append, List.map_cons, List.map_nil]; exact hr2, trivial⟩, hB.trans hb2⟩
  case done =>
    rintro D ys W hD hS ⟨⟨v, hv, hrow, -⟩, hB⟩ hK
    have hc := hv.cell
    gi_wp2
    refine ⟨by simp, .inl ⟨_, _, rfl, run_takeDeferred hK, ?_⟩⟩
    exact ⟨_, results_tmp rfl _ _ _, v, ys, rfl, hS, ownsRow_putObj hrow _ hK rfl, hB.trans (belowK_b (w := w) (Nat.le_refl _) W D _ _ (by simp at hD; omega) hK rfl rfl)⟩
  case stop =>
    rintro D c pre W _ _ h _
    exact h.elim

set_option maxHeartbeats 1000000 in
theorem collectInts_in (F : Fence) (n : Nat) (hc : F.fn 259) (hf : F.fn 284) (gf : Nat) (hg : F.fn gf) (eg : ∀ args w, (callFunc gf args).run Tryz.prog w = .ok (.enter gf args) w) (hro : F.round = none) (hn : 3 ≤ n) (lb : Array Value) (N : Nat) (hN : N ≤ 1000000000) (S Sp : List Int → Prop) (w : World)
    {Kp : World → World → Prop} (hKt : ∀ {A B C : World}, Kp A B → Kp B C → Kp A C) (hKb : ∀ (W : World) (l : Nat) (o o' : Obj), w.heap.size ≤ l → W.heap[l]? = some o → o.isCells = false → o.isWalk = false → Kp W (W.putObj l o')) (hKo : ∀ W W', KeepsOthers W W' → Below w.heap.size W W' → Kp W W')
    (hseq : SeqStopsK F (n - 1 - 1) Tryz.prog gf lb (fun x : Int => #[Value.int .i64 x]) Kp S Sp N w) :
    CallsIn F n Tryz.prog 259 #[.func (.func gf) #[] lb] w fun e w' => ∃ v ys, e = .returned v ∧ S ys ∧ w'.ownsRow w.heap.size 3 1 v ys.length (ys.map (Value.int .i64)) ∧ Below w.heap.size w w' := by
  have h1 : 1 ≤ n := by omega
  refine callsIn_of_wp Tryz.func259 rfl hc ?_ hro
  simp only [Tryz.ntmps259, List.size_toArray, List.length_cons, List.length_nil, Nat.reduceAdd, Nat.reduceSub, Array.replicate_succ, Array.replicate_zero, List.push_toArray, List.append_toArray, List.nil_append, List.cons_append]
  have hcall := appendInts_in F (n - 1) hf gf hg eg hro (by omega) lb N hN S Sp w (Kp := Kp) hKt hKb hKo hseq
  gi_wp2_with (gi_at_call 284; refine (appendInts_in F (n - 1) hf gf hg eg hro (by omega) lb N hN S Sp w (Kp := Kp) hKt hKb hKo hseq).mono ?_; rintro e w' ⟨v, ys, rfl, hS, hrow, hb⟩)
  go_ret
  exact ⟨v, ys, rfl, hS, hrow, hb⟩

set_option maxRecDepth 100000 in
set_option maxHeartbeats 1000000 in
/-- maps.Keys's iterator at no map: nothing comes. -/
theorem keysNil_stops (F : Fence) (n : Nat) (hf : F.fn 296) (hro : F.round = none) (Bm n₀ : Nat) (w : World) (hB : Bm < w.heap.size) (hm : w.cell? ⟨Bm, 0, none⟩ = some (.map none)) :
    SeqStopsK F n Tryz.prog 296 #[.pointer (some ⟨Bm, 0, none⟩)] (fun x : Int => #[Value.int .i64 x]) (Below n₀) (fun ys => ys = []) (fun _ => False) 0 w :=
  fun l J Jx W hW hJ _ hY h0 => by
    have hm' := (hW.cell (p := ⟨Bm, 0, none⟩) hB).trans hm
    refine callsIn_of_wp Tryz.func296 rfl hf ?_ hro
    simp only [Tryz.ntmps296, List.size_toArray, List.length_cons, List.length_nil, Nat.reduceAdd, Nat.reduceSub, Array.replicate_succ, Array.replicate_zero, List.push_toArray, List.append_toArray, List.nil_append, List.cons_append]
    have hrg := run_range_nilMap (P := Tryz.prog) W 257 3 317 Tryz.underlying257
    have hnx : ∀ ty, (Instr.next (.pointer (some ⟨W.heap.size, 0, none⟩)) false ty).run Tryz.prog (W.alloc (.mapIter none 0 #[] 0)) = _ := fun ty => run_next_nilMap _ ty 0 0 #[]
    gi_wp2
    refine wpIn_loop_rounds 1 ?_
    rw [roundsIn_succ]
    gi_wp2
    go_end0
    exact ⟨⟨_, rfl⟩, .inl ⟨[], rfl, hJ [] W _ none h0 (World.grownBy_alloc W _ none) (fun r e => by cases e)⟩⟩
end Go.Proofs.YtheeomjfpnijbaaGreatDoor

/- The sorts of no element; slices.Values, Sorted, SortedFunc of nothing. -/
namespace Go.Proofs.YtheeomjfpnijbaaGreatDoor
open Go.RowKit Go.Shelf
set_option linter.unusedVariables false
attribute [local go_sem] Oper.semAt_some

set_option maxRecDepth 100000 in
set_option maxHeartbeats 1000000 in
theorem len64_zero (w : World) : Calls Tryz.prog 277 #[.int .u64 0] w fun e w' => e = .returned (.int .i64 0) ∧ w' = w := by
  go_enter Tryz.func277, Tryz.ntmps277
  go_wp2
  go_ret
  exact ⟨by kernel_rfl, rfl⟩
set_option maxRecDepth 100000 in
set_option maxHeartbeats 1000000 in
theorem len_zero (w : World) : Calls Tryz.prog 232 #[.int .u64 0] w fun e w' => e = .returned (.int .i64 0) ∧ w' = w := by
  go_enter Tryz.func232, Tryz.ntmps232
  go_wp2_with fail
  refine (len64_zero _).mono ?_
  rintro e w' ⟨rfl, rfl⟩
  go_wp2
  go_ret
  exact ⟨rfl, rfl⟩
set_option maxHeartbeats 1000000 in
theorem insert_zero (v u : Value) (w : World) : Calls Tryz.prog 267 #[v, .int .i64 0, .int .i64 0] w fun e w' => (∃ x, e = .returned x) ∧ w' = w := by
  go_enter Tryz.func267, Tryz.ntmps267
  go_wp2
  go_loopw [6] (fun i wr => i = .int .i64 1 ∧ wr = w) (fun _ _ => 0)
  case atStart => exact ⟨rfl, rfl⟩
  case round =>
    obtain ⟨rfl, rfl⟩ := hrel
    go_wp2
    go_end0
    exact ⟨⟨_, rfl⟩, rfl⟩
set_option maxHeartbeats 1000000 in
theorem insertF_zero (v u : Value) (w : World) : Calls Tryz.prog 310 #[v, .int .i64 0, .int .i64 0, u] w fun e w' => (∃ x, e = .returned x) ∧ w' = w := by
  go_enter Tryz.func310, Tryz.ntmps310
  go_wp2
  go_loopw [8] (fun i wr => i = .int .i64 1 ∧ wr = w) (fun _ _ => 0)
  case atStart => exact ⟨rfl, rfl⟩
  case round =>
    obtain ⟨rfl, rfl⟩ := hrel
    go_wp2
    go_end0
    exact ⟨⟨_, rfl⟩, rfl⟩
set_option maxHeartbeats 1000000 in
theorem pdq_zero (v u : Value) (l : Int) (w : World) : Calls Tryz.prog 231 #[v, .int .i64 0, .int .i64 0, .int .i64 l] w fun e w' => (∃ x, e = .returned x) ∧ w' = w := by
  go_enter Tryz.func231, Tryz.ntmps231
  go_wp2_with fail
  go_loopw [1, 2, 3, 8, 9] (fun i j k p q wr => i = .int .i64 0 ∧ j = .int .i64 0 ∧ k = .int .i64 l ∧ p = .bool true ∧ q = .bool true ∧ wr = w) (fun _ _ _ _ _ _ => 0)
  case atStart => exact ⟨rfl, rfl, rfl, rfl, rfl, rfl⟩
  case round =>
    obtain ⟨rfl, rfl, rfl, rfl, rfl, rfl⟩ := hrel
    go_wp2_with fail
    refine (insert_zero v u _).mono ?_
    rintro e w' ⟨⟨x, rfl⟩, rfl⟩
    go_wp2
    go_returns
    exact ⟨⟨_, rfl⟩, rfl⟩
set_option maxHeartbeats 1000000 in
theorem pdqF_zero (v u : Value) (l : Int) (w : World) : Calls Tryz.prog 305 #[v, .int .i64 0, .int .i64 0, .int .i64 l, u] w fun e w' => (∃ x, e = .returned x) ∧ w' = w := by
  go_enter Tryz.func305, Tryz.ntmps305
  go_wp2_with fail
  go_loopw [1, 2, 3, 10, 11] (fun i j k p q wr => i = .int .i64 0 ∧ j = .int .i64 0 ∧ k = .int .i64 l ∧ p = .bool true ∧ q = .bool true ∧ wr = w) (fun _ _ _ _ _ _ => 0)
  case atStart => exact ⟨rfl, rfl, rfl, rfl, rfl, rfl⟩
  case round =>
    obtain ⟨rfl, rfl, rfl, rfl, rfl, rfl⟩ := hrel
    go_wp2_with fail
    refine (insertF_zero v u _).mono ?_
    rintro e w' ⟨⟨x, rfl⟩, rfl⟩
    go_wp2
    go_returns
    exact ⟨⟨_, rfl⟩, rfl⟩
set_option maxHeartbeats 1000000 in
theorem sort_zero (p : Option Addr) (c : Nat) (w : World) : Calls Tryz.prog 173 #[.slice p 0 c] w fun e w' => (∃ x, e = .returned x) ∧ w' = w := by
  go_enter Tryz.func173, Tryz.ntmps173
  go_wp2_with fail
  refine (len_zero _).mono ?_
  rintro e w' ⟨rfl, rfl⟩
  go_wp2_with fail
  refine (pdq_zero _ undef _ _).mono ?_
  rintro e w' ⟨⟨x, rfl⟩, rfl⟩
  go_wp2
  go_end0
  exact ⟨⟨_, rfl⟩, rfl⟩
set_option maxHeartbeats 1000000 in
theorem sortFunc_zero (p : Option Addr) (c : Nat) (u : Value) (w : World) : Calls Tryz.prog 295 #[.slice p 0 c, u] w fun e w' => (∃ x, e = .returned x) ∧ w' = w := by
  go_enter Tryz.func295, Tryz.ntmps295
  go_wp2_with fail
  refine (len_zero _).mono ?_
  rintro e w' ⟨rfl, rfl⟩
  go_wp2_with fail
  refine (pdqF_zero _ _ _ _).mono ?_
  rintro e w' ⟨⟨x, rfl⟩, rfl⟩
  go_wp2
  go_end0
  exact ⟨⟨_, rfl⟩, rfl⟩
/-- A nil slice, or one of no element. -/
theorem own_zero {w : World} {base n size : Nat} {e : TypeId} {v : Value} {xs : List Value} (h : w.ownsRow base e size v n xs) : ∃ p c, v = .slice p n c := by
  rcases h.2 with ⟨rfl, rfl⟩ | ⟨g, cap, cur, rfl, hb, hh, h1, h2, _⟩
  · exact ⟨none, 0, rfl⟩
  · exact ⟨_, cap, rfl⟩

/-- slices.SortedFunc over maps.Keys of no map: nothing. -/
theorem keys_any (m : Option Nat) (w : World) : Calls Tryz.prog 286 #[.map m] w fun e w' => e = .returned (.func (.func 296) #[] #[.pointer (some ⟨w.heap.size, 0, none⟩)]) ∧ w' = w.alloc (.cells #[.map m] 257) := by
  go_enter Tryz.func286, Tryz.ntmps286
  go_wp2
  go_ret
  exact ⟨rfl, rfl⟩
theorem keepsB (n : Nat) (w : World) (h : n = w.heap.size) : ∀ W W', KeepsOthers W W' → Below w.heap.size W W' → Below n W W' := fun W W' _ hb => by rw [h]; exact hb
set_option maxHeartbeats 1000000 in
theorem sortedFuncNil_any (Bm : Nat) (u : Value) (w : World) (hm : w.cell? ⟨Bm, 0, none⟩ = some (.map none)) :
    Calls Tryz.prog 285 #[.func (.func 296) #[] #[.pointer (some ⟨Bm, 0, none⟩)], u] w fun e w' => ∃ p c, e = .returned (.slice p 0 c) ∧ Below w.heap.size w w' := by
  have hcol : Calls Tryz.prog 259 #[.func (.func 296) #[] #[.pointer (some ⟨Bm, 0, none⟩)]] w fun e w' => ∃ p c, e = .returned (.slice p 0 c) ∧ Below w.heap.size w w' := by
    refine (callsIn_wide (n := 5)).1 ?_
    refine (collectInts_in Fence.wide 5 trivial trivial 296 trivial (enters_of Tryz.func296 (by kernel_rfl) rfl) rfl (by omega) _ 0 (by omega) (fun ys => ys = []) (fun _ => False) w (Kp := Below w.heap.size) belowK_t (belowK_b (Nat.le_refl _)) (fun _ _ _ h => h)
      (keysNil_stops Fence.wide 3 trivial rfl Bm w.heap.size w (cell_lt hm) hm)).mono ?_
    rintro e w' ⟨v, ys, rfl, rfl, hown, hb⟩
    obtain ⟨p, c, rfl⟩ := own_zero hown
    exact ⟨p, c, rfl, hb⟩
  go_enter Tryz.func285, Tryz.ntmps285
  go_wp2_with fail
  refine hcol.mono ?_
  rintro e w1 ⟨p, c, rfl, hb⟩
  go_wp2_with fail
  refine (sortFunc_zero p c u _).mono ?_
  rintro e w2 ⟨⟨x, rfl⟩, rfl⟩
  go_wp2
  go_ret
  exact ⟨p, c, rfl, hb⟩
set_option maxRecDepth 100000 in
set_option maxHeartbeats 1000000 in
/-- slices.Values's iterator over no element: nothing comes. -/
theorem valuesNil_stops (F : Fence) (n : Nat) (hf : F.fn 260) (hro : F.round = none) (Bs n₀ c : Nat) (p : Option Addr) (w : World) (hm : w.cell? ⟨Bs, 0, none⟩ = some (.slice p 0 c)) :
    SeqStopsK F n Tryz.prog 260 #[.pointer (some ⟨Bs, 0, none⟩)] (fun x : Int => #[Value.int .i64 x]) (Below n₀) (fun ys => ys = []) (fun _ => False) 0 w :=
  fun l J Jx W hW hJ _ hY h0 => by
    have hm' := (hW.cell (p := ⟨Bs, 0, none⟩) (cell_lt hm)).trans hm
    refine callsIn_of_wp Tryz.func260 rfl hf ?_ hro
    simp only [Tryz.ntmps260, List.size_toArray, List.length_cons, List.length_nil, Nat.reduceAdd, Nat.reduceSub, Array.replicate_succ, Array.replicate_zero, List.push_toArray, List.append_toArray, List.nil_append, List.cons_append]
    gi_wp2
    gi_loopw [7] (fun i wr => i = .int .i64 0 ∧ J [] wr) (fun _ _ => 0)
    case atStart => exact ⟨rfl, h0⟩
    case round =>
      obtain ⟨rfl, hJs⟩ := hrel
      gi_wp2
      go_end0
      exact ⟨⟨_, rfl⟩, .inl ⟨[], rfl, hJs⟩⟩
theorem values_any (p : Option Addr) (n c : Nat) (w : World) : Calls Tryz.prog 215 #[.slice p n c] w fun e w' => e = .returned (.func (.func 260) #[] #[.pointer (some ⟨w.heap.size, 0, none⟩)]) ∧ w' = w.alloc (.cells #[.slice p n c] 107) := by
  go_enter Tryz.func215, Tryz.ntmps215
  go_wp2
  go_ret
  exact ⟨rfl, rfl⟩
set_option maxHeartbeats 1000000 in
theorem sortedNil_any (Bm c0 : Nat) (p0 : Option Addr) (w : World) (hm : w.cell? ⟨Bm, 0, none⟩ = some (.slice p0 0 c0)) :
    Calls Tryz.prog 214 #[.func (.func 260) #[] #[.pointer (some ⟨Bm, 0, none⟩)]] w fun e w' => ∃ p c, e = .returned (.slice p 0 c) ∧ Below w.heap.size w w' := by
  have hcol : Calls Tryz.prog 259 #[.func (.func 260) #[] #[.pointer (some ⟨Bm, 0, none⟩)]] w fun e w' => ∃ p c, e = .returned (.slice p 0 c) ∧ Below w.heap.size w w' := by
    refine (callsIn_wide (n := 5)).1 ?_
    refine (collectInts_in Fence.wide 5 trivial trivial 260 trivial (enters_of Tryz.func260 (by kernel_rfl) rfl) rfl (by omega) _ 0 (by omega) (fun ys => ys = []) (fun _ => False) w (Kp := Below w.heap.size) belowK_t (belowK_b (Nat.le_refl _)) (fun _ _ _ h => h)
      (valuesNil_stops Fence.wide 3 trivial rfl Bm w.heap.size c0 p0 w hm)).mono ?_
    rintro e w' ⟨v, ys, rfl, rfl, hown, hb⟩
    obtain ⟨p, c, rfl⟩ := own_zero hown
    exact ⟨p, c, rfl, hb⟩
  go_enter Tryz.func214, Tryz.ntmps214
  go_wp2_with fail
  refine hcol.mono ?_
  rintro e w1 ⟨p, c, rfl, hb⟩
  go_wp2_with fail
  refine (sort_zero p c _).mono ?_
  rintro e w2 ⟨⟨x, rfl⟩, rfl⟩
  go_wp2
  go_ret
  exact ⟨p, c, rfl, hb⟩
end Go.Proofs.YtheeomjfpnijbaaGreatDoor
