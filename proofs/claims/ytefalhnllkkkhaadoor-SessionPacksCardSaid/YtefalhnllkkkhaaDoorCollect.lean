/- slices.Collect over slices.Chunk of bytes: the pieces, in their order. -/
import Derived.Test.YtefalhnllkkkhaaDoorChunk
import Derived.RangeFuncFrom
import Derived.Maps.AppendAt
namespace Go.Proofs.YtefalhnllkkkhaaDoor
open Go.RowKit Go.Shelf
set_option linter.unusedVariables false
attribute [local go_sem] Oper.semAt_some

set_option maxRecDepth 100000 in
set_option maxHeartbeats 1000000 in
theorem chunk1_none_in (F : Fence) (n : Nat) (hf : F.fn 48) (hro : F.round = none) (l Bs Bn c : Nat) (p : Option Addr) (J : List Nat → World → Prop)
    (W : World) (hBs : W.cell? ⟨Bs, 0, none⟩ = some (.slice p 0 c)) (hBn : W.cell? ⟨Bn, 0, none⟩ = some (.int .i64 1400)) (h0 : J [] W) :
    CallsIn F n Tryd.prog 48 #[.func (.yield l) #[] #[], .pointer (some ⟨Bs, 0, none⟩), .pointer (some ⟨Bn, 0, none⟩)] W fun e W' => (∃ v, e = .returned v) ∧ J [] W' := by
  refine callsIn_of_wp Tryd.func48 rfl hf ?_ hro
  simp only [Tryd.ntmps48, List.size_toArray, List.length_cons, List.length_nil, Nat.reduceAdd, Nat.reduceSub, Array.replicate_succ, Array.replicate_zero, List.push_toArray, List.append_toArray, List.nil_append, List.cons_append]
  gi_wp2
  gi_loopw [4] (fun i wr => i = .int .i64 0 ∧ wr.cell? ⟨Bs, 0, none⟩ = some (.slice p 0 c) ∧ J [] wr) (fun _ _ => 0)
  case atStart => exact ⟨rfl, hBs, h0⟩
  case round =>
    obtain ⟨rfl, hBs', hJs⟩ := hrel
    gi_wp2
    go_end0
    exact ⟨⟨_, rfl⟩, hJs⟩

theorem chunk_stops (F : Fence) (n : Nat) (hf : F.fn 48) (hro : F.round = none) (hn : 1 ≤ n) (Bs Bn n₀ b off len cap K : Nat) (hK : K = (len + 1399) / 1400) (hlen : len ≤ 140737488351232) (hcap : len ≤ cap) (hcm : cap ≤ 9223372036854775807)
    (w : World) (hB1 : Bs < n₀) (hB2 : Bn < n₀) (hn₀ : n₀ ≤ w.heap.size) (hBs : w.cell? ⟨Bs, 0, none⟩ = some (.slice (some ⟨b, off, none⟩) len cap)) (hBn : w.cell? ⟨Bn, 0, none⟩ = some (.int .i64 1400)) :
    SeqStopsK F n Tryd.prog 48 #[.pointer (some ⟨Bs, 0, none⟩), .pointer (some ⟨Bn, 0, none⟩)] (fun k : Nat => #[chunkV b off len k]) (Below n₀) (fun ys => ys = upto K) (fun pre => ∃ k, k ≤ K ∧ pre = upto k) K w :=
  fun l J Jx W hW hJ _ hY h0 => by
    refine (chunk1_in F n hf hro hn l Bs Bn n₀ b off len cap K hK hlen hcap hcm hB1 hB2 J Jx (fun pre W' h => hJ pre W' W'.drew none h ⟨rfl, rfl, rfl, Nat.le_refl _, fun _ _ _ => rfl⟩ (fun r e => by cases e)) hY W ((hW.cell (p := ⟨Bs, 0, none⟩) (by show Bs < _; omega)).trans hBs) ((hW.cell (p := ⟨Bn, 0, none⟩) (by show Bn < _; omega)).trans hBn) h0).mono ?_
    rintro e W' ⟨he, h | ⟨k, hk, h⟩⟩
    · exact ⟨he, .inl ⟨_, rfl, h⟩⟩
    · exact ⟨he, .inr ⟨_, ⟨k, hk, rfl⟩, h⟩⟩
theorem chunk_stops_none (F : Fence) (n : Nat) (hf : F.fn 48) (hro : F.round = none) (Bs Bn n₀ c : Nat) (p : Option Addr) (b off len : Nat) (w : World) (hB1 : Bs < n₀) (hB2 : Bn < n₀) (hn₀ : n₀ ≤ w.heap.size)
    (hBs : w.cell? ⟨Bs, 0, none⟩ = some (.slice p 0 c)) (hBn : w.cell? ⟨Bn, 0, none⟩ = some (.int .i64 1400)) :
    SeqStopsK F n Tryd.prog 48 #[.pointer (some ⟨Bs, 0, none⟩), .pointer (some ⟨Bn, 0, none⟩)] (fun k : Nat => #[chunkV b off len k]) (Below n₀) (fun ys => ys = upto 0) (fun pre => ∃ k, k ≤ 0 ∧ pre = upto k) 0 w :=
  fun l J Jx W hW hJ _ hY h0 => by
    refine (chunk1_none_in F n hf hro l Bs Bn c p J W ((hW.cell (p := ⟨Bs, 0, none⟩) (by show Bs < _; omega)).trans hBs) ((hW.cell (p := ⟨Bn, 0, none⟩) (by show Bn < _; omega)).trans hBn) h0).mono ?_
    rintro e W' ⟨he, h⟩
    exact ⟨he, .inl ⟨_, rfl, h⟩⟩

theorem infoSl : (Tryd.prog.info? 22).map (fun i => (i.zero, i.size, i.bytes)) = some (some (.slice none 0 0), 1, 24) := by kernel_rfl

set_option maxRecDepth 100000 in
set_option maxHeartbeats 2000000 in
theorem appendSeq_in (F : Fence) (n : Nat) (hf : F.fn 47) (hg : F.fn 48) (hro : F.round = none) (hn : 2 ≤ n) (lb : Array Value) (b off len N : Nat) (hN : N * 24 ≤ 140737488355328) (S Sp : List Nat → Prop) (w : World)
    (hseq : SeqStopsK F (n - 1) Tryd.prog 48 lb (fun k : Nat => #[chunkV b off len k]) (Below w.heap.size) S Sp N w) (hl : ∀ ys, S ys → ys.length = N) :
    CallsIn F n Tryd.prog 47 #[.slice none 0 0, .func (.func 48) #[] lb] w fun e w' => ∃ v ys, e = .returned v ∧ S ys ∧ w'.ownsRow w.heap.size 22 1 v ys.length (ys.map (chunkV b off len)) ∧ Below w.heap.size w w' := by
  have h1 : 1 ≤ n := by omega
  obtain ⟨i0, hi, hz0, hz1, hz2⟩ := info_parts infoSl
  refine callsIn_of_wp_marks Tryd.func47 rfl hf ?_ hro
  simp only [Tryd.ntmps47, List.size_toArray, List.length_cons, List.length_nil, Nat.reduceAdd, Nat.reduceSub, Array.replicate_succ, Array.replicate_zero, List.push_toArray, List.append_toArray, List.nil_append, List.cons_append]
  gi_wp2
  have bO := Boxed.new w 56 (.slice none 0 0)
  have hB0 : Below w.heap.size w (w.alloc (.cells #[.slice none 0 0] 56)) := (Below.refl _ w).alloc (Nat.le_refl _) _
  refine wpIn_rangeFunc_ownF hro h1 (gf := 48) (lb := lb) rfl hg (enters_of Tryd.func48 (by kernel_rfl) rfl)
    hseq belowK_t (belowK_b (by simp)) hB0 (fun _ => rfl)
    (fun (pre : List Nat) W => (∃ v, Boxed W w.heap.size 56 v ∧ W.ownsRow w.heap.size 22 1 v pre.length (pre.map (chunkV b off len)) ∧ True) ∧ Below w.heap.size w W)
    (fun _ _ _ => False)
    (OwnFrom.and (Own.from (holdsRow_own w.heap.size w.heap.size 56 22 1 (fun (pre : List Nat) => pre.length) (fun (pre : List Nat) => pre.map (chunkV b off len)) (fun _ _ => True)) _) (ownFrom_below (Nat.le_refl _) (by simp)))
    (fun _ _ _ _ _ hs _ _ => hs)
    ⟨⟨_, bO, World.ownsRow_nil _ _ _ _, trivial⟩, hB0⟩
    (fun x => { tmps := #[.slice none 0 0, .func (.func 48) #[] lb, .pointer (some ⟨w.heap.size, 0, none⟩), undef, .slice none 0 0, chunkV b off len x, .func (.func 48) #[] lb, chunkV b off len x, undef, undef, undef, undef, undef], defers := [] }) ?assign ?body ?done ?stop
  case assign =>
    intro l x W K hK
    gi_wp2
    exact hK
  case body =>
    rintro l pre x W ⟨⟨v, hv, hrow, -⟩, hB⟩ hlt
    have hc := hv.cell
    obtain ⟨gb, go, m, hcx⟩ : ∃ gb go m, chunkV b off len x = .slice (some ⟨gb, go, none⟩) m m := ⟨_, _, _, rfl⟩
    have HCX := Lib.hid hcx
    rw [hcx]
    clear hcx
    gi_wp2_with (gi_at_builtin; refine wpListIn_append_own _ rfl _ _ 56 rfl w.heap.size 22 i0 (.slice none 0 0) 1 24 Tryd.underlying56 hi hz0 hz1 hz2 rfl (by decide) _ _ _ rfl (hrow.alloc _) ⟨W.heap.size, 0, none⟩ 1 1 [.slice (some ⟨gb, go, none⟩) m m] rfl rfl (cell_one_new _ _ _) (by simp [Value.oneCell']) (by simp only [maxLen]; omega) (by omega) (by have := hB.size; simp; omega) ?_; intro v' w1 hown' hgrow _; obtain ⟨g', cap', rfl⟩ := ownsRow_succ hown'; obtain ⟨hv1, hv2, hr2, hk2, hb2⟩ := hv.appended (by decide) hrow hB.size (Nat.le_refl _) hown' hgrow; have hc1 := hv1.cell; have hf1 := hv1.frozen)
    exact ⟨hk2, hb2, ⟨_, hv2, by rw [List.map_append, List.length_append, List.map_cons, List.map_nil, HCX.out]; exact hr2, trivial⟩, hB.trans hb2⟩
  case done =>
    rintro D ys W hD hS ⟨⟨v, hv, hrow, -⟩, hB⟩ hK
    have hc := hv.cell
    gi_wp2
    refine ⟨by simp, .inl ⟨_, _, rfl, run_takeDeferred hK, ?_⟩⟩
    exact ⟨_, results_tmp rfl _ _ _, v, ys, rfl, hS, ownsRow_putObj hrow _ hK rfl, hB.trans (belowK_b (w := w) (Nat.le_refl _) W D _ _ (by simp at hD; omega) hK rfl rfl)⟩
  case stop =>
    rintro D c pre W _ _ h _
    exact h.elim

set_option maxHeartbeats 1000000 in
theorem collect_in (F : Fence) (n : Nat) (hf : F.fn 31) (ha : F.fn 47) (hg : F.fn 48) (hro : F.round = none) (hn : 3 ≤ n) (lb : Array Value) (b off len N : Nat) (hN : N * 24 ≤ 140737488355328) (S Sp : List Nat → Prop) (w : World)
    (hseq : SeqStopsK F (n - 1 - 1) Tryd.prog 48 lb (fun k : Nat => #[chunkV b off len k]) (Below w.heap.size) S Sp N w) (hl : ∀ ys, S ys → ys.length = N) :
    CallsIn F n Tryd.prog 31 #[.func (.func 48) #[] lb] w fun e w' => ∃ v ys, e = .returned v ∧ S ys ∧ w'.ownsRow w.heap.size 22 1 v ys.length (ys.map (chunkV b off len)) ∧ Below w.heap.size w w' := by
  have h1 : 1 ≤ n := by omega
  refine callsIn_of_wp Tryd.func31 rfl hf ?_ hro
  simp only [Tryd.ntmps31, List.size_toArray, List.length_cons, List.length_nil, Nat.reduceAdd, Nat.reduceSub, Array.replicate_succ, Array.replicate_zero, List.push_toArray, List.append_toArray, List.nil_append, List.cons_append]
  gi_wp2_with (gi_at_call 47; refine (appendSeq_in F (n - 1) ha hg hro (by omega) lb b off len N hN S Sp _ hseq hl).mono ?_; rintro e w' ⟨v, ys, rfl, hS, hrow, hb⟩)
  go_ret
  exact ⟨v, ys, rfl, hS, hrow, hb⟩

def pieces (n : Nat) : Nat := (n + 1399) / 1400
/-- slices.Collect over slices.Chunk's value, at any bytes. -/
theorem collect_any (p : Option Addr) (len c Bs Bn : Nat) (w : World) (hp : 0 < len → ∃ b off, p = some ⟨b, off, none⟩) (hlen : len ≤ 140737488351232) (hc : len ≤ c) (hcm : c ≤ 9223372036854775807)
    (hBs : w.cell? ⟨Bs, 0, none⟩ = some (.slice p len c)) (hBn : w.cell? ⟨Bn, 0, none⟩ = some (.int .i64 1400)) :
    Calls Tryd.prog 31 #[.func (.func 48) #[] #[.pointer (some ⟨Bs, 0, none⟩), .pointer (some ⟨Bn, 0, none⟩)]] w fun e w' => ∃ v b off, e = .returned v ∧ (0 < len → p = some ⟨b, off, none⟩) ∧
      w'.ownsRow w.heap.size 22 1 v (pieces len) ((upto (pieces len)).map (chunkV b off len)) ∧ Below w.heap.size w w' := by
  have l1 := cell_lt hBs
  have l2 := cell_lt hBn
  have hN : pieces len * 24 ≤ 140737488355328 := by unfold pieces; omega
  refine (callsIn_wide (n := 5)).1 ?_
  rcases Nat.eq_zero_or_pos len with h0 | h0
  · subst h0
    refine (collect_in Fence.wide 5 trivial trivial trivial rfl (by omega) _ 0 0 0 0 (by omega) _ _ w (chunk_stops_none Fence.wide 3 trivial rfl Bs Bn w.heap.size c p 0 0 0 w l1 l2 (Nat.le_refl _) hBs hBn) (fun ys h => by rw [h]; rfl)).mono ?_
    rintro e w' ⟨v, ys, rfl, rfl, hrow, hb⟩
    exact ⟨v, 0, 0, rfl, fun h => absurd h (by omega), hrow, hb⟩
  · obtain ⟨b, off, rfl⟩ := hp h0
    refine (collect_in Fence.wide 5 trivial trivial trivial rfl (by omega) _ b off len (pieces len) hN _ _ w (chunk_stops Fence.wide 3 trivial rfl (by omega) Bs Bn w.heap.size b off len c (pieces len) rfl hlen hc hcm w l1 l2 (Nat.le_refl _) hBs hBn) (fun ys h => by rw [h]; simp [upto])).mono ?_
    rintro e w' ⟨v, ys, rfl, rfl, hrow, hb⟩
    exact ⟨v, b, off, rfl, fun _ => rfl, by simpa [upto] using hrow, hb⟩

set_option maxHeartbeats 1000000 in
theorem chunk_any (p : Option Addr) (n c : Nat) (w : World) :
    Calls Tryd.prog 32 #[.slice p n c, .int .i64 1400] w fun e w' =>
      e = .returned (.func (.func 48) #[] #[.pointer (some ⟨w.heap.size, 0, none⟩), .pointer (some ⟨w.heap.size + 1, 0, none⟩)]) ∧
      w' = (w.alloc (.cells #[.slice p n c] 22)).alloc (.cells #[.int .i64 1400] 3) := by
  go_enter Tryd.func32, Tryd.ntmps32
  go_wp2
  go_ret
  exact ⟨rfl, rfl⟩
end Go.Proofs.YtefalhnllkkkhaaDoor
