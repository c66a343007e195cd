/- slices.Sorted of slices.Values; Table. -/
import Derived.Test.YtheeomjfpnijbaaGreatDoorPoolOps
namespace Go.Proofs.YtheeomjfpnijbaaGreatDoor
open Go.RowKit Go.Shelf Go.Sort
set_option linter.unusedVariables false
attribute [local go_sem] Oper.semAt_some

set_option maxRecDepth 100000 in
set_option maxHeartbeats 2000000 in
theorem values1_in (F : Fence) (n : Nat) (hf : F.fn 260) (hro : F.round = none) (hn : 1 ≤ n) (l Bs n₀ g L cap : Nat) (zs : List Int) (hz : zs.length = L) (hL : 0 < L) (hLm : L < 1000000000) (hg : g < n₀) (hB1 : Bs < n₀)
    (J Jx : List Int → World → Prop)
    (hY : ∀ pre x W, J pre W → pre.length < L → YieldAt F (n - 1) Tryz.prog l #[.int .i64 x] W fun e W' =>
      (e = .returned (.bool true) ∧ J (pre ++ [x]) W' ∧ Below n₀ W W') ∨ (e = .returned (.bool false) ∧ Jx (pre ++ [x]) W'))
    (W : World) (hBs : W.cell? ⟨Bs, 0, none⟩ = some (.slice (some ⟨g, 0, none⟩) L cap)) (hc : ∀ j x, zs[j]? = some x → W.cell? ⟨g, j, none⟩ = some (.int .i64 x)) (h0 : J [] W) :
    CallsIn F n Tryz.prog 260 #[.func (.yield l) #[] #[], .pointer (some ⟨Bs, 0, none⟩)] W fun e W' => (∃ v, e = .returned v) ∧
      (J zs W' ∨ (∃ k, k ≤ L ∧ Jx (zs.take k) W')) := by
  refine callsIn_of_wp Tryz.func260 rfl hf ?_ hro
  simp only [Tryz.ntmps260, List.size_toArray, List.length_cons, List.length_nil, Nat.reduceAdd, Nat.reduceSub, Array.replicate_succ, Array.replicate_zero, List.push_toArray, List.append_toArray, List.nil_append, List.cons_append]
  have HZ := Lib.hid hz
  clear hz
  gi_wp2
  gi_loopw [7] (fun i wr => ∃ (k : Nat), k ≤ L ∧ i = .int .i64 k ∧ J (zs.take k) wr ∧ Below n₀ W wr) (fun i _ => L - (intOf i).toNat)
  case atStart => exact ⟨0, Nat.zero_le _, rfl, h0, Below.refl _ _⟩
  case round =>
    obtain ⟨k, hk, rfl, hJs, hnx⟩ := hrel
    have hBs' := (hnx.cell (p := ⟨Bs, 0, none⟩) hB1).trans hBs
    by_cases hlt : k < L
    · obtain ⟨x, hx⟩ : ∃ x, zs[k]? = some x := ⟨_, List.getElem?_eq_getElem (by rw [HZ.out]; exact hlt)⟩
      obtain ⟨fn, tmps, assign, body, hy, hR⟩ := hY _ x wr hJs (by rw [List.length_take, HZ.out]; omega)
      have c0' := (hnx.cell (p := ⟨g, k, none⟩) hg).trans (hc k x hx)
      have hwk : IntKind.i64.wrap ((k : Int) + 1) = ((k + 1 : Nat) : Int) := by rw [IntKind.wrap_i64]; omega
      have HX := Lib.hid hx
      have HLT := Lib.hid hlt
      clear hx
      gi_wp2
      refine hR.mono ?_
      rintro e W3 (⟨rfl, hJ3, hk3⟩ | ⟨rfl, hJx3⟩)
      · gi_wp2
        go_roundw
        case rel => exact ⟨k + 1, HLT.out, by congr 1, by rw [take_next HX.out]; exact hJ3, hnx.trans hk3⟩
        case measure => simp [intOf] <;> omega
      · gi_wp2
        exact bodyPost_ret (results_none rfl _ _ _) rfl ⟨⟨_, rfl⟩, .inr ⟨k + 1, HLT.out, by rw [take_next HX.out]; exact hJx3⟩⟩
    · obtain rfl : k = L := by omega
      gi_wp2
      go_end0
      exact ⟨⟨_, rfl⟩, .inl (by rw [← HZ.out, List.take_length] at hJs; exact hJs)⟩

theorem values_stops (F : Fence) (n : Nat) (hf : F.fn 260) (hro : F.round = none) (hn : 1 ≤ n) (Bs n₀ cap base : Nat) (q : Option Addr) (zs : List Int) (hLm : zs.length < 1000000000) (hB1 : Bs < n₀)
    (w : World) (hn₀ : n₀ = w.heap.size) (hBs : w.cell? ⟨Bs, 0, none⟩ = some (.slice q zs.length cap)) (ho : w.ownsRow base 3 1 (.slice q zs.length cap) zs.length (zs.map (Value.int .i64))) :
    SeqStopsK F n Tryz.prog 260 #[.pointer (some ⟨Bs, 0, none⟩)] (fun x : Int => #[Value.int .i64 x]) (Below n₀) (fun ys => ys = zs) (fun pre => ∃ k, k ≤ zs.length ∧ pre = zs.take k) zs.length w := by
  rcases Nat.eq_zero_or_pos zs.length with h | h
  · have hz : zs = [] := List.eq_nil_of_length_eq_zero h
    subst hz
    have := valuesNil_stops F n hf hro Bs n₀ cap q w hBs
    intro l J Jx W hW hJ hJx hY h0
    refine (this l J Jx W hW hJ hJx hY h0).mono ?_
    rintro e W' ⟨he, ⟨ys, h1, h2⟩ | ⟨pre, h1, h2⟩⟩
    · exact ⟨he, .inl ⟨ys, h1, h2⟩⟩
    · exact h1.elim
  · intro l J Jx W hW hJ _ hY h0
    obtain ⟨g, rfl, -, hgt, hc⟩ := own_at1 ho h
    have hgl : g < w.heap.size := by obtain ⟨cs, hcs⟩ := hgt; exact (Array.getElem?_eq_some_iff.1 hcs).1
    have hBs' := (hW.cell (p := ⟨Bs, 0, none⟩) (by show Bs < _; omega)).trans hBs
    refine (values1_in F n hf hro hn l Bs n₀ g zs.length cap zs rfl h hLm (by omega) hB1 J Jx hY W hBs' (fun j x hx => (hW.cell (p := ⟨g, j, none⟩) hgl).trans (hc j _ (by simp [hx]))) h0).mono ?_
    rintro e W' ⟨he, h | ⟨k, hk, h⟩⟩
    · exact ⟨he, .inl ⟨_, rfl, h⟩⟩
    · exact ⟨he, .inr ⟨_, ⟨k, hk, rfl⟩, h⟩⟩

/-- slices.Sort of a row of its own. -/
theorem sortInts_any (base : Nat) (ys : List Int) (v : Value) (w : World) (hl : ys.length < 1000000000) (ho : w.ownsRow base 3 1 v ys.length (ys.map (Value.int .i64))) :
    Calls Tryz.prog 173 #[v] w fun e w' => (∃ x, e = .returned x) ∧ w'.ownsRow base 3 1 v ys.length ((ys.mergeSort leI).map (Value.int .i64)) ∧ (∀ B, B ≤ w.heap.size → B ≤ base → Below B w w') := by
  rcases ho.2 with ⟨rfl, h0⟩ | ⟨g, cap, cur, rfl, hb, hg, h1, h2, h3, h4⟩
  · have hz : ys = [] := List.eq_nil_of_length_eq_zero h0
    subst hz
    refine (sort_zero none 0 _).mono ?_
    rintro e w' ⟨he, rfl⟩
    exact ⟨he, by simpa using ho, fun B hB _ => Below.refl _ _⟩
  · rcases Nat.eq_zero_or_pos ys.length with h | h
    · have hz : ys = [] := List.eq_nil_of_length_eq_zero h
      subst hz
      refine (sort_zero _ cap _).mono ?_
      rintro e w' ⟨he, rfl⟩
      exact ⟨he, by simpa using ho, fun B hB _ => Below.refl _ _⟩
    · have hgl : g < w.heap.size := (Array.getElem?_eq_some_iff.1 hg).1
      have hH := holds_of_block_i hg (ss := ys) (by simpa using h4)
      refine (Tryz.slices_Sort_int g 0 cap ys w hH hgl (by omega)).mono ?_
      rintro e w' ⟨rfl, n, os, rfl⟩
      refine ⟨⟨_, rfl⟩, ?_, fun B hB1 hB2 => ?_⟩
      · have := ownsRow_sorted_i (n := n) (os := os) (ss := ys) (ts := ys.mergeSort leI) (by simp) hb hg h1 h2 h3
        simpa using this
      · exact (Below.refl B w).grown (grownBy_sorted_i _) hB1 (fun j hj => by cases hj; omega)

set_option maxRecDepth 20000 in
set_option maxHeartbeats 1000000 in
theorem sorted_any (Bs cap base : Nat) (q : Option Addr) (zs : List Int) (w : World) (hl : zs.length < 1000000000) (hBs : w.cell? ⟨Bs, 0, none⟩ = some (.slice q zs.length cap)) (ho : w.ownsRow base 3 1 (.slice q zs.length cap) zs.length (zs.map (Value.int .i64))) :
    Calls Tryz.prog 214 #[.func (.func 260) #[] #[.pointer (some ⟨Bs, 0, none⟩)]] w fun e w' => ∃ v, e = .returned v ∧ w'.ownsRow w.heap.size 3 1 v zs.length ((zs.mergeSort leI).map (Value.int .i64)) ∧ Below w.heap.size w w' := by
  have hcol : Calls Tryz.prog 259 #[.func (.func 260) #[] #[.pointer (some ⟨Bs, 0, none⟩)]] w fun e w' => ∃ v, e = .returned v ∧ w'.ownsRow w.heap.size 3 1 v zs.length (zs.map (Value.int .i64)) ∧ Below w.heap.size w w' := by
    refine (callsIn_wide (n := 5)).1 ?_
    refine (collectInts_in Fence.wide 5 trivial trivial 260 trivial (enters_of Tryz.func260 (by kernel_rfl) rfl) rfl (by omega) _ zs.length (by omega) _ _ w (Kp := Below w.heap.size) belowK_t (belowK_b (Nat.le_refl _)) (fun _ _ _ h => h)
      (values_stops Fence.wide 3 trivial rfl (by omega) Bs w.heap.size cap base q zs hl (cell_lt hBs) w rfl hBs ho)).mono ?_
    rintro e w' ⟨v, ys, rfl, rfl, hown, hb⟩
    exact ⟨v, rfl, hown, hb⟩
  have HL := Lib.hid hl
  clear hl ho
  go_enter Tryz.func214, Tryz.ntmps214
  go_wp2_with fail
  refine hcol.mono ?_
  rintro e w1 ⟨v, rfl, ho, hb⟩
  obtain ⟨p, c, rfl⟩ := own_zero ho
  have HO := Lib.hid ho
  have HB := Lib.hid hb
  clear ho hb
  go_wp2_with fail
  refine (sortInts_any w.heap.size zs (.slice p zs.length c) _ HL.out HO.out).mono ?_
  rintro e w2 ⟨⟨x, rfl⟩, ho2, hb2⟩
  have HO2 := Lib.hid ho2
  have HB2 := Lib.hid (HB.out.trans (hb2 w.heap.size HB.out.size (Nat.le_refl _)))
  clear ho2 hb2
  go_wp2
  go_ret
  exact ⟨_, rfl, HO2.out, HB2.out⟩
end Go.Proofs.YtheeomjfpnijbaaGreatDoor

namespace Go.Proofs.YtheeomjfpnijbaaGreatDoor
open Go.RowKit Go.Shelf Go.Sort
set_option linter.unusedVariables false

def firstOf (M : List (Int × Buf)) (n : Int) : Nat := ((look M n).map (·.first)).getD 0
/-- The dirty ones of these pages. -/
def dirtyOf (M : List (Int × Buf)) (ts : List Int) : List Int := ts.filter fun n => decide (0 < firstOf M n)
def dirtyC (M : List (Int × Buf)) (ds : List Int) : List Value := ds.flatMap fun n => [.int .i64 n, .int .i64 (firstOf M n)]
theorem dirtyC_length (M : List (Int × Buf)) : ∀ ds, (dirtyC M ds).length = ds.length * 2
  | [] => rfl
  | d :: ds => by
    show ([_, _] ++ dirtyC M ds).length = _
    rw [List.length_append, dirtyC_length M ds]
    simp
    omega
theorem dirtyOf_next {M : List (Int × Buf)} {ts : List Int} {k : Nat} {x : Int} (h : ts[k]? = some x) : dirtyOf M (ts.take (k + 1)) = dirtyOf M (ts.take k) ++ if 0 < firstOf M x then [x] else [] := by
  unfold dirtyOf
  rw [take_next h, List.filter_append]
  congr 1
  by_cases hf : 0 < firstOf M x <;> simp [hf]
theorem infoDirty : (Tryz.prog.info? 265).map (fun i => (i.zero, i.size, i.bytes)) = some (some (.agg #[.int .i64 0, .int .i64 0]), 2, 16) := by kernel_rfl
theorem dirty_news (W : World) (i j : Int) (k : Nat) (u : Value) (h : [.int .i64 i, .int .i64 j][k]? = some u) :
    (W.alloc (.cells #[.int .i64 i, .int .i64 j] 265)).cell? ((⟨W.heap.size, 0, none⟩ : Addr).add k) = some u := by
  have hj : k = 0 ∨ k = 1 := by
    have := (List.getElem?_eq_some_iff.1 h).1
    simp at this
    omega
  rcases hj with rfl | rfl
  · cases h; exact cellNew rfl
  · cases h; exact cellNew rfl

section
variable {N : Zone} {bp bd bl bm fro pages buffers clock : Nat} {M : List (Int × Buf)} (w : World)
set_option maxRecDepth 20000 in
set_option maxHeartbeats 2000000 in
theorem table_any (h : PoolAt w N bp bd bl bm fro pages buffers clock M) (hc : clock < 4611686018427387904) :
    Calls Tryz.prog 155 #[.pointer (some ⟨bp, 0, none⟩)] w fun e w' => ∃ (v : Value) (ts : List Int), e = .returned v ∧ ts.Perm (M.map (·.1)) ∧ w'.ownsRow w.heap.size 265 2 v (dirtyOf M ts).length (dirtyC M (dirtyOf M ts)) ∧ Below w.heap.size w w' := by
  have H := Lib.hid h
  have HC := Lib.hid hc
  clear h hc
  go_enter Tryz.func155, Tryz.ntmps155
  go_wp2_with fail
  refine (held_any bp bd bl bm fro pages buffers clock M _ H.out HC.out).mono ?_
  rintro e w1 ⟨v, zs, rfl, hz, ho, hb⟩
  obtain ⟨q, c1, rfl⟩ := own_zero ho
  have HZ := Lib.hid hz
  have HO := Lib.hid ho
  have HB := Lib.hid hb
  have hsm : zs.length ≤ 100000 := by
    have h5 := hz.length_eq
    obtain ⟨_, _, _, _, _, h6, _⟩ := H.out.map
    simp [mapP] at h6 h5
    omega
  have HSM := Lib.hid hsm
  clear hz ho hb hsm
  go_wp2_with fail
  refine (values_any q zs.length c1 _).mono ?_
  rintro e w2 ⟨rfl, rfl⟩
  go_wp2_with fail
  have HA := Lib.hid ((Below.refl w1.heap.size w1).alloc (Nat.le_refl _) (.cells #[.slice q zs.length c1] 107))
  refine (sorted_any w1.heap.size c1 w.heap.size q zs _ (by have := HSM.out; omega) (cellNew (cs := #[.slice q zs.length c1]) (j := 0) rfl) (own_later HO.out HA.out)).mono ?_
  rintro e w3 ⟨v3, rfl, ho3, hb3⟩
  obtain ⟨q3, c3, rfl⟩ := own_zero ho3
  obtain ⟨ts, hts⟩ : ∃ ts, ts = zs.mergeSort leI := ⟨_, rfl⟩
  have HPT : Hid (ts.Perm (M.map (·.1))) := Lib.hid (by rw [hts]; exact (List.mergeSort_perm zs leI).trans HZ.out)
  obtain ⟨L, hL⟩ : ∃ L, L = zs.length := ⟨_, rfl⟩
  have HTL : Hid (ts.length = L) := Lib.hid (by rw [hts, hL]; simp)
  rw [← hts, ← hL] at ho3
  rw [← hL]
  have HO3 := Lib.hid (own_mono ho3 (base' := w.heap.size) (by have := HB.out.size; simp; omega))
  have HB3 := Lib.hid (chainC HB.out (chainC HA.out hb3))
  have HP3 := Lib.hid (H.out.below HB3.out)
  have hLs : L ≤ 100000 := by rw [hL]; exact HSM.out
  clear ho3 hb3 hts hL HSM HZ HO HA HB
  have k03 := HP3.out.load.1
  have HLS := Lib.hid hLs
  have hlt3 := cell_lt k03
  obtain ⟨i0, hi, hz0, hz1, hz2⟩ := info_parts infoDirty
  clear hLs
  go_wp2_with fail
  go_loopw [3, 12] (fun v i wr => ∃ (k : Nat) (q : Option Addr) (d : Nat), k ≤ L ∧ v = .slice q (dirtyOf M (ts.take k)).length d ∧ i = .int .i64 k ∧ Hid (wr.ownsRow w3.heap.size 265 2 v (dirtyOf M (ts.take k)).length (dirtyC M (dirtyOf M (ts.take k)))) ∧ Hid (Below w3.heap.size w3 wr)) (fun _ i _ => L - (intOf i).toNat)
  case atStart => exact ⟨0, none, 0, Nat.zero_le _, rfl, rfl, Lib.hid (World.ownsRow_nil _ _ _ _), Lib.hid (Below.refl _ _)⟩
  case round =>
    obtain ⟨k, q, d, hk, rfl, rfl, HR, HW⟩ := hrel
    have hlw : w3.heap.size ≤ wr.heap.size := HW.out.size
    by_cases hkl : k < L
    · obtain ⟨x, hx⟩ : ∃ x, ts[k]? = some x := ⟨_, List.getElem?_eq_getElem (by rw [HTL.out]; exact hkl)⟩
      have hxm : x ∈ M.map (·.1) := HPT.out.mem_iff.1 (List.mem_of_getElem? hx)
      obtain ⟨⟨x', b⟩, hxb, hxe⟩ := List.mem_map.1 hxm
      obtain rfl : x' = x := hxe
      obtain ⟨g3, rfl, -, hgt, hcell⟩ := own_at1 HO3.out (by omega)
      have hx2 : w3.cell? ⟨g3, k, none⟩ = some (.int .i64 x') := hcell k _ (by simp [hx])
      have hx3 := keepC HW.out hx2
      have k04 := keepC HW.out k03
      have HPW := Lib.hid (HP3.out.below HW.out)
      have c2 := (HPW.out.bufs _ hxb).cell.2.2.1
      have HLK : Hid (look (mapP M) x' = some (.pointer (some ⟨b.blk, 0, none⟩))) := Lib.hid (by rw [look_mapP, look_of_mem HPW.out.nodup hxb]; rfl)
      have hfo : firstOf M x' = b.first := by unfold firstOf; rw [look_of_mem HPW.out.nodup hxb]; rfl
      have HFO := Lib.hid hfo
      have HX := Lib.hid hx
      have hlg := cell_lt hx3
      have hlb := cell_lt c2
      simp only at c2
      obtain ⟨f, hf⟩ : ∃ f, f = b.first := ⟨_, rfl⟩
      rw [← hf] at c2
      have HFF := Lib.hid hf
      clear hx hxm hxb hcell hgt hx2 hfo hf
      have hlook := (fun (T : Nat) => T)
      by_cases hp : 0 < f
      · have HPP := Lib.hid hp
        obtain ⟨m, hm⟩ : ∃ m, m = (dirtyOf M (ts.take k)).length := ⟨_, rfl⟩
        have HMM := Lib.hid hm
        have HML : Hid (m ≤ 100000) := Lib.hid (by
          rw [hm]
          have h1 : (dirtyOf M (ts.take k)).length ≤ (ts.take k).length := List.length_filter_le _ _
          rw [List.length_take] at h1
          have h2 := HLS.out
          omega)
        rw [← hm] at HR ⊢
        clear hm
        go_wp2_with (first | (at_lookup; refine wpList_look (KK := intKeys) rfl _ _ 257 rfl 3 317 Tryz.underlying257 Tryz.underlying3 _ zbuf x' rfl rfl HPW.out.map.is ?_; rw [HLK.out, Option.getD_some]) | (at_builtin; refine wpList_append_own _ rfl _ _ 262 rfl w3.heap.size 265 i0 (.agg #[.int .i64 0, .int .i64 0]) 2 16 Tryz.underlying262 hi hz0 hz1 hz2 rfl (by decide) _ m _ rfl (HR.out.alloc _) ⟨wr.heap.size, 0, none⟩ 1 1 [.int .i64 x', .int .i64 f] rfl rfl (dirty_news wr x' f) (by simp [Value.oneCell']) (by simp only [maxLen]; have := HML.out; omega) (by have := HML.out; omega) (by simp; omega) ?_; intro v' w4 hown' hgrow _; obtain ⟨g', cap', rfl⟩ := ownsRow_succ hown'; have HO4 := Lib.hid hown'; have HG4 := Lib.hid hgrow; clear hown' hgrow))
        go_roundw
        case rel =>
          have hd : dirtyOf M (ts.take (k + 1)) = dirtyOf M (ts.take k) ++ [x'] := by rw [dirtyOf_next HX.out, if_pos (by rw [HFO.out, ← HFF.out]; exact HPP.out)]
          have hdl : (dirtyOf M (ts.take (k + 1))).length = m + 1 := by rw [hd, List.length_append, ← HMM.out]; rfl
          refine ⟨k + 1, some ⟨g', 0, none⟩, cap', by omega, by rw [hdl], by rw [wrapK hkl (by have := HLS.out; omega)], Lib.hid ?_, Lib.hid ((HW.out.alloc hlw _).grown HG4.out (by simp; omega) (fun j hj => (HR.out.lt j hj).1))⟩
          rw [hdl, hd]
          have e : dirtyC M (dirtyOf M (ts.take k) ++ [x']) = dirtyC M (dirtyOf M (ts.take k)) ++ [.int .i64 x', .int .i64 f] := by
            unfold dirtyC
            rw [List.flatMap_append]
            simp [HFO.out, HFF.out]
          rw [e]
          exact HO4.out
        case measure => rw [wrapK hkl (by have := HLS.out; omega)]; simp [intOf]; omega
      · obtain rfl : f = 0 := by omega
        have HPP := Lib.hid hp
        clear hp
        go_wp2_with (at_lookup; refine wpList_look (KK := intKeys) rfl _ _ 257 rfl 3 317 Tryz.underlying257 Tryz.underlying3 _ zbuf x' rfl rfl HPW.out.map.is ?_; rw [HLK.out, Option.getD_some])
        go_roundw
        case rel =>
          have hd : dirtyOf M (ts.take (k + 1)) = dirtyOf M (ts.take k) := by rw [dirtyOf_next HX.out, if_neg (by rw [HFO.out, ← HFF.out]; exact HPP.out), List.append_nil]
          exact ⟨k + 1, q, d, by omega, by rw [hd], by rw [wrapK hkl (by have := HLS.out; omega)], by rw [hd]; exact HR, HW⟩
        case measure => rw [wrapK hkl (by have := HLS.out; omega)]; simp [intOf]; omega
    · obtain rfl : k = L := by omega
      go_wp2
      go_returns
      have e : ts.take k = ts := by rw [← HTL.out, List.take_length]
      have hr := HR.out
      rw [e] at hr
      have hr2 := own_mono hr (base' := w.heap.size) HB3.out.size
      rw [e]
      exact ⟨_, ts, rfl, HPT.out, hr2, chainC HB3.out HW.out⟩
end
end Go.Proofs.YtheeomjfpnijbaaGreatDoor
