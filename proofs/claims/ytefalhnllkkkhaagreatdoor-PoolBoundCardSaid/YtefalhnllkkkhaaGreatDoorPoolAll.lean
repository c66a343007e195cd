/- Table; New. -/
import Derived.Test.YtefalhnllkkkhaaGreatDoorPoolTable
namespace Go.Proofs.YtefalhnllkkkhaaGreatDoor
open Go.RowKit Go.Shelf Go.Sort
set_option linter.unusedVariables false

def firstOf (M : List (Int × Buf)) (n : Int) : Nat := ((look M n).map (·.first)).getD 0
/-- The dirty ones of these pages. -/
def dirtyOf (M : List (Int × Buf)) (ts : List Int) : List Int := ts.filter fun n => decide (0 < firstOf M n)
def dirtyC (M : List (Int × Buf)) (ds : List Int) : List Value := ds.flatMap fun n => [.int .i64 n, .int .i64 (firstOf M n)]
theorem dirtyC_length (M : List (Int × Buf)) : ∀ ds, (dirtyC M ds).length = ds.length * 2
  | [] => rfl
  | d :: ds => by
    show ([_, _] ++ dirtyC M ds).length = _
    rw [List.length_append, dirtyC_length M ds]
    simp
    omega
theorem dirtyOf_next {M : List (Int × Buf)} {ts : List Int} {k : Nat} {x : Int} (h : ts[k]? = some x) : dirtyOf M (ts.take (k + 1)) = dirtyOf M (ts.take k) ++ if 0 < firstOf M x then [x] else [] := by
  unfold dirtyOf
  rw [take_next h, List.filter_append]
  congr 1
  by_cases hf : 0 < firstOf M x <;> simp [hf]
theorem infoDirty : (Tryz.prog.info? 89).map (fun i => (i.zero, i.size, i.bytes)) = some (some (.agg #[.int .i64 0, .int .i64 0]), 2, 16) := by kernel_rfl
theorem dirty_news (W : World) (i j : Int) (k : Nat) (u : Value) (h : [.int .i64 i, .int .i64 j][k]? = some u) :
    (W.alloc (.cells #[.int .i64 i, .int .i64 j] 89)).cell? ((⟨W.heap.size, 0, none⟩ : Addr).add k) = some u := by
  have hj : k = 0 ∨ k = 1 := by
    have := (List.getElem?_eq_some_iff.1 h).1
    simp at this
    omega
  rcases hj with rfl | rfl
  · cases h; exact cellNew rfl
  · cases h; exact cellNew rfl

section
variable {N : Zone} {bp bd bl bm fro pages buffers clock : Nat} {M : List (Int × Buf)} (w : World)
set_option maxRecDepth 20000 in
set_option maxHeartbeats 2000000 in
theorem table_any (h : PoolAt w N bp bd bl bm fro pages buffers clock M) (hc : clock < 4611686018427387904) :
    Calls Tryz.prog 21 #[.pointer (some ⟨bp, 0, none⟩)] w fun e w' => ∃ (v : Value) (ts : List Int), e = .returned v ∧ ts.Perm (M.map (·.1)) ∧ w'.ownsRow w.heap.size 89 2 v (dirtyOf M ts).length (dirtyC M (dirtyOf M ts)) ∧ Below w.heap.size w w' := by
  have H := Lib.hid h
  have HC := Lib.hid hc
  clear h hc
  go_enter Tryz.func21, Tryz.ntmps21
  go_wp2_with fail
  refine (held_any bp bd bl bm fro pages buffers clock M _ H.out HC.out).mono ?_
  rintro e w1 ⟨v, zs, rfl, hz, ho, hb⟩
  obtain ⟨q, c1, rfl⟩ := own_zero ho
  have HZ := Lib.hid hz
  have HO := Lib.hid ho
  have HB := Lib.hid hb
  have hsm : zs.length ≤ 100000 := by
    have h5 := hz.length_eq
    obtain ⟨_, _, _, _, _, h6, _⟩ := H.out.map
    simp [mapP] at h6 h5
    omega
  have HSM := Lib.hid hsm
  clear hz ho hb hsm
  go_wp2_with fail
  refine (values_any q zs.length c1 _).mono ?_
  rintro e w2 ⟨rfl, rfl⟩
  go_wp2_with fail
  have HA := Lib.hid ((Below.refl w1.heap.size w1).alloc (Nat.le_refl _) (.cells #[.slice q zs.length c1] 63))
  refine (sorted_any w1.heap.size c1 w.heap.size q zs _ (by have := HSM.out; omega) (cellNew (cs := #[.slice q zs.length c1]) (j := 0) rfl) (own_later HO.out HA.out)).mono ?_
  rintro e w3 ⟨v3, rfl, ho3, hb3⟩
  obtain ⟨q3, c3, rfl⟩ := own_zero ho3
  obtain ⟨ts, hts⟩ : ∃ ts, ts = zs.mergeSort leI := ⟨_, rfl⟩
  have HPT : Hid (ts.Perm (M.map (·.1))) := Lib.hid (by rw [hts]; exact (List.mergeSort_perm zs leI).trans HZ.out)
  obtain ⟨L, hL⟩ : ∃ L, L = zs.length := ⟨_, rfl⟩
  have HTL : Hid (ts.length = L) := Lib.hid (by rw [hts, hL]; simp)
  rw [← hts, ← hL] at ho3
  rw [← hL]
  have HO3 := Lib.hid (own_mono ho3 (base' := w.heap.size) (by have := HB.out.size; simp; omega))
  have HB3 := Lib.hid (chainC HB.out (chainC HA.out hb3))
  have HP3 := Lib.hid (H.out.below HB3.out)
  have hLs : L ≤ 100000 := by rw [hL]; exact HSM.out
  clear ho3 hb3 hts hL HSM HZ HO HA HB
  have k03 := HP3.out.load.1
  have HLS := Lib.hid hLs
  have hlt3 := cell_lt k03
  obtain ⟨i0, hi, hz0, hz1, hz2⟩ := info_parts infoDirty
  clear hLs
  go_wp2_with fail
  go_loopw [3, 12] (fun v i wr => ∃ (k : Nat) (q : Option Addr) (d : Nat), k ≤ L ∧ v = .slice q (dirtyOf M (ts.take k)).length d ∧ i = .int .i64 k ∧ Hid (wr.ownsRow w3.heap.size 89 2 v (dirtyOf M (ts.take k)).length (dirtyC M (dirtyOf M (ts.take k)))) ∧ Hid (Below w3.heap.size w3 wr)) (fun _ i _ => L - (intOf i).toNat)
  case atStart => exact ⟨0, none, 0, Nat.zero_le _, rfl, rfl, Lib.hid (World.ownsRow_nil _ _ _ _), Lib.hid (Below.refl _ _)⟩
  case round =>
    obtain ⟨k, q, d, hk, rfl, rfl, HR, HW⟩ := hrel
    have hlw : w3.heap.size ≤ wr.heap.size := HW.out.size
    by_cases hkl : k < L
    · obtain ⟨x, hx⟩ : ∃ x, ts[k]? = some x := ⟨_, List.getElem?_eq_getElem (by rw [HTL.out]; exact hkl)⟩
      have hxm : x ∈ M.map (·.1) := HPT.out.mem_iff.1 (List.mem_of_getElem? hx)
      obtain ⟨⟨x', b⟩, hxb, hxe⟩ := List.mem_map.1 hxm
      obtain rfl : x' = x := hxe
      obtain ⟨g3, rfl, -, hgt, hcell⟩ := own_at1 HO3.out (by omega)
      have hx2 : w3.cell? ⟨g3, k, none⟩ = some (.int .i64 x') := hcell k _ (by simp [hx])
      have hx3 := keepC HW.out hx2
      have k04 := keepC HW.out k03
      have HPW := Lib.hid (HP3.out.below HW.out)
      have c2 := (HPW.out.bufs _ hxb).cell.2.2.1
      have HLK : Hid (look (mapP M) x' = some (.pointer (some ⟨b.blk, 0, none⟩))) := Lib.hid (by rw [look_mapP, look_of_mem HPW.out.nodup hxb]; rfl)
      have hfo : firstOf M x' = b.first := by unfold firstOf; rw [look_of_mem HPW.out.nodup hxb]; rfl
      have HFO := Lib.hid hfo
      have HX := Lib.hid hx
      have hlg := cell_lt hx3
      have hlb := cell_lt c2
      simp only at c2
      obtain ⟨f, hf⟩ : ∃ f, f = b.first := ⟨_, rfl⟩
      rw [← hf] at c2
      have HFF := Lib.hid hf
      clear hx hxm hxb hcell hgt hx2 hfo hf
      have hlook := (fun (T : Nat) => T)
      by_cases hp : 0 < f
      · have HPP := Lib.hid hp
        obtain ⟨m, hm⟩ : ∃ m, m = (dirtyOf M (ts.take k)).length := ⟨_, rfl⟩
        have HMM := Lib.hid hm
        have HML : Hid (m ≤ 100000) := Lib.hid (by
          rw [hm]
          have h1 : (dirtyOf M (ts.take k)).length ≤ (ts.take k).length := List.length_filter_le _ _
          rw [List.length_take] at h1
          have h2 := HLS.out
          omega)
        rw [← hm] at HR ⊢
        clear hm
        go_wp2_with (first | (at_lookup; refine wpList_look (KK := intKeys) rfl _ _ 52 rfl 3 83 Tryz.underlying52 Tryz.underlying3 _ zbuf x' rfl rfl HPW.out.map.is ?_; rw [HLK.out, Option.getD_some]) | (at_builtin; refine wpList_append_own _ rfl _ _ 61 rfl w3.heap.size 89 i0 (.agg #[.int .i64 0, .int .i64 0]) 2 16 Tryz.underlying61 hi hz0 hz1 hz2 rfl (by decide) _ m _ rfl (HR.out.alloc _) ⟨wr.heap.size, 0, none⟩ 1 1 [.int .i64 x', .int .i64 f] rfl rfl (dirty_news wr x' f) (by simp [Value.oneCell']) (by simp only [maxLen]; have := HML.out; omega) (by have := HML.out; omega) (by simp; omega) ?_; intro v' w4 hown' hgrow _; obtain ⟨g', cap', rfl⟩ := ownsRow_succ hown'; have HO4 := Lib.hid hown'; have HG4 := Lib.hid hgrow; clear hown' hgrow))
        go_roundw
        case rel =>
          have hd : dirtyOf M (ts.take (k + 1)) = dirtyOf M (ts.take k) ++ [x'] := by rw [dirtyOf_next HX.out, if_pos (by rw [HFO.out, ← HFF.out]; exact HPP.out)]
          have hdl : (dirtyOf M (ts.take (k + 1))).length = m + 1 := by rw [hd, List.length_append, ← HMM.out]; rfl
          refine ⟨k + 1, some ⟨g', 0, none⟩, cap', by omega, by rw [hdl], by rw [wrapK hkl (by have := HLS.out; omega)], Lib.hid ?_, Lib.hid ((HW.out.alloc hlw _).grown HG4.out (by simp; omega) (fun j hj => (HR.out.lt j hj).1))⟩
          rw [hdl, hd]
          have e : dirtyC M (dirtyOf M (ts.take k) ++ [x']) = dirtyC M (dirtyOf M (ts.take k)) ++ [.int .i64 x', .int .i64 f] := by
            unfold dirtyC
            rw [List.flatMap_append]
            simp [HFO.out, HFF.out]
          rw [e]
          exact HO4.out
        case measure => rw [wrapK hkl (by have := HLS.out; omega)]; simp [intOf]; omega
      · obtain rfl : f = 0 := by omega
        have HPP := Lib.hid hp
        clear hp
        go_wp2_with (at_lookup; refine wpList_look (KK := intKeys) rfl _ _ 52 rfl 3 83 Tryz.underlying52 Tryz.underlying3 _ zbuf x' rfl rfl HPW.out.map.is ?_; rw [HLK.out, Option.getD_some])
        go_roundw
        case rel =>
          have hd : dirtyOf M (ts.take (k + 1)) = dirtyOf M (ts.take k) := by rw [dirtyOf_next HX.out, if_neg (by rw [HFO.out, ← HFF.out]; exact HPP.out), List.append_nil]
          exact ⟨k + 1, q, d, by omega, by rw [hd], by rw [wrapK hkl (by have := HLS.out; omega)], by rw [hd]; exact HR, HW⟩
        case measure => rw [wrapK hkl (by have := HLS.out; omega)]; simp [intOf]; omega
    · obtain rfl : k = L := by omega
      go_wp2
      go_returns
      have e : ts.take k = ts := by rw [← HTL.out, List.take_length]
      have hr := HR.out
      rw [e] at hr
      have hr2 := own_mono hr (base' := w.heap.size) HB3.out.size
      rw [e]
      exact ⟨_, ts, rfl, HPT.out, hr2, chainC HB3.out HW.out⟩
end
end Go.Proofs.YtefalhnllkkkhaaGreatDoor
