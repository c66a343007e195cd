/- slices.Insert of one byte ahead of bytes of the call's own. -/
import Derived.Test.YtefalhnllkkkhaaDoorPiece
import Derived.Lib.AppendZerosOnto
import Derived.Lib.Overlaps
import Derived.Laws.Externs
namespace Go.Proofs.YtefalhnllkkkhaaDoor
open Go.RowKit
set_option linter.unusedVariables false

theorem shape_of {w : World} {g : Nat} {c : Array Value} {t : TypeId} (h : w.heap[g]? = some (.cells c t (0, 0))) : w.shape? g = some (t, c.size) := by
  simp [World.shape?, h]
theorem overlaps_no {w : World} {gv g o n m c d : Nat} {cv cg : Array Value} {t u : TypeId} (hv : w.heap[gv]? = some (.cells cv t (0, 0))) (hg : w.heap[g]? = some (.cells cg u (0, 0))) (hne : gv ≠ g) (hpos : cg.size ≠ 0) :
    (callFunc 49 #[.slice (some ⟨gv, 0, none⟩) m d, .slice (some ⟨g, o, none⟩) n c]).run Tryd.prog w = .ok (.value (.bool false)) w := by
  rw [run_callFunc_extern Tryd.func49 (by kernel_rfl) (by kernel_rfl) (by kernel_rfl) (e := Extern.SlicesOverlaps.overlaps #[22, 22] #[4]) (by kernel_rfl),
    Lib.run_overlaps_apart w 22 4 5 Tryd.underlying22 1 Tryd.sizeOf5 ⟨gv, 0, none⟩ ⟨g, o, none⟩ m d n c hne t u _ _ (shape_of hv) (shape_of hg) hpos (frozen_of hv) (frozen_of hv)]
  rfl

theorem splice_front {xs : List UInt8} {cur : List Value} (y : UInt8) (h : 0 < xs.length) : splice (splice (B8s xs ++ cur) 1 (B8s xs)) 0 [B8 y] = B8s (y :: xs) ++ cur.drop 1 := by
  rcases xs with _ | ⟨x, xs⟩
  · simp at h
  · simp [splice, B8s]
    rw [show 1 + (xs.length + 1) = (xs.length + 1) + 1 from by omega, List.drop_succ_cons, List.drop_append, List.drop_of_length_le (by simp)]
    simp

theorem splice_back {L : List Value} {xs : List UInt8} (y : UInt8) (h : xs.length + 1 ≤ L.length) : splice (splice L 0 [B8 y]) 1 (B8s xs) = B8s (y :: xs) ++ L.drop (xs.length + 1) := by
  rcases L with _ | ⟨l, L⟩
  · simp at h
  · simp [splice, B8s, Nat.add_comm 1]

/-- copy into a row of the call's own, one step of a region that draws: no other block turns. -/
theorem step_copy_keep {P : Program} {ops : Array Oper} {o : Oper} {a : Act} {w : World} {K : Act → World → Prop} {Q : Exit → Act → World → Prop} {E : Prop} (hgd : o.guard = none) (d s : Operand) (dT sT : TypeId)
    (ho : o.op = .call { callee := .builtin .copy, args := #[d, s], argTypes := #[dT, sT] }) (elem : TypeId) (hu : P.underlying dT = some (.slice elem)) (hsz : (P.info? elem).map (·.size) = some 1)
    (dp sp : Option Addr) (dLen dCap sLen sCap : Nat) (hd : a.eval d = .slice dp dLen dCap) (hs : a.eval s = .slice sp sLen sCap)
    (g off : Nat) (cur : List Value) (t : TypeId) (hg : w.heap[g]? = some (.cells cur.toArray t (0, 0))) (cs : List Value) (hn : cs.length = Nat.min sLen dLen)
    (hpos : 0 < cs.length → dp = some ⟨g, off, none⟩ ∧ ∃ ad, sp = some ad ∧ ∀ j v, cs[j]? = some v → w.cell? (ad.add j) = some v)
    (hfit : off + cs.length ≤ cur.length) (h1 : ∀ v ∈ cs, v.oneCell' = true) (B : Nat) (w0 : World) (hb : Below B w0 w) (hBg : B ≤ g)
    (h : ∀ w', Hid (w'.heap[g]? = some (.cells (splice cur off cs).toArray t (0, 0))) → Below B w0 w' → Hid (∀ k, k ≠ g → w'.heap[k]? = w.heap[k]?) → K (a.put o.dst (goInt cs.length)) w') :
    if Region.wanted o (yielded ops a.tmps) = true then Oper.wp P o a w K Q else E := by
  have hw : Region.wanted o (yielded ops a.tmps) = true := by simp [Region.wanted, hgd]
  rw [if_pos hw]
  by_cases h0 : cs.length = 0
  · obtain rfl : cs = [] := List.eq_nil_of_length_eq_zero h0
    have hrun := run_copy_none (P := P) w dT sT o.type elem dp sp dLen dCap sLen sCap hu hsz (by simpa using hn.symm)
    unfold Oper.wp
    simp [execOp, ho, resolve, invoke, builtin, hd, hs, hrun, Result.andThen]
    exact h w (show _ = _ by simpa [splice] using hg) hb (Lib.hid fun _ _ => rfl)
  · obtain ⟨rfl, ad, rfl, hsrc⟩ := hpos (by omega)
    have hrun := run_copy_row (P := P) w dT sT o.type elem g off dLen dCap ad sLen sCap cur.toArray t cs hu hsz hg hn hsrc (by simpa using hfit) h1
    unfold Oper.wp
    simp [execOp, ho, resolve, invoke, builtin, hd, hs, hrun, Result.andThen]
    exact h _ (show _ = _ by simpa [splice] using setRow_heap w g _ _ t _ hg) (below_setRow hb hBg _) (Lib.hid fun k hk => setRow_other w g k _ hk)

set_option maxHeartbeats 1000000 in
set_option maxRecDepth 20000 in
theorem insert1_any (p : Option Addr) (n c : Nat) (xs : List UInt8) (y : UInt8) (gv base : Nat) (w : World) (ho : w.ownsRow base 5 1 (.slice p n c) n (B8s xs)) (hv : w.heap[gv]? = some (.cells #[B8 y] 5 (0, 0)))
    (hne : ∀ b o s, p = some ⟨b, o, s⟩ → gv ≠ b) (hbase : base ≤ w.heap.size) (hn : n < 140737488355328) :
    Calls Tryd.prog 34 #[.slice p n c, .int .i64 0, .slice (some ⟨gv, 0, none⟩) 1 1] w fun e w' => ∃ v', e = .returned v' ∧ w'.ownsRow base 5 1 v' (n + 1) (B8s (y :: xs)) ∧ Below base w w' := by
  have hrv : Rd w (some ⟨gv, 0, none⟩) [y] := fun _ => ⟨gv, 0, rfl, fun i v h => by
    have hi : i = 0 := by have := (List.getElem?_eq_some_iff.1 h).1; simp [B8s] at this; omega
    subst hi
    simp only [World.cell?, hv]
    simpa [B8s] using h⟩
  rcases Nat.eq_zero_or_pos n with h0 | h0
  · subst h0
    have hx : xs = [] := by
      have := ho.1
      rw [B8s_length] at this
      exact List.eq_nil_of_length_eq_zero (by omega)
    subst hx
    have HO := Lib.hid ho
    have HR := Lib.hid hrv
    clear ho hrv hv hne
    go_enter Tryd.func34, Tryd.ntmps34
    go_wp2_with (at_builtin; refine wp_appx (w0 := w) (base := base) (n := 0) (m := 1) (c := 1) rfl (.tmp 23) (.tmp 24) rfl _ [] [y] _ rfl rfl rfl HR.out HO.out (Below.refl _ _) hbase (by omega) ?_)
    intro v2 w2 hown hb2
    have HO2 := Lib.hid hown
    clear hown
    go_wp2
    go_ret
    exact ⟨_, rfl, HO2.out, hb2⟩
  · obtain ⟨g, cap, cur, e, hg, hh, hxn, hcc, hcm⟩ := own8 ho h0
    cases e
    have hgv : gv ≠ g := hne g 0 none rfl
    have HH := Lib.hid hh
    have HV := Lib.hid hv
    have HRV := Lib.hid hrv
    have HXN := Lib.hid hxn
    have hz1 : ((0 : Int) == (n : Int)) = false := by simp; omega
    by_cases hroom : n + 1 ≤ c
    · have hov : ∀ d o m, (callFunc 49 #[.slice (some ⟨gv, 0, none⟩) 1 1, .slice (some ⟨g, o, none⟩) m d]).run Tryd.prog w = .ok (.value (.bool false)) w := fun d o m => overlaps_no hv hh hgv (by rw [List.size_toArray, List.length_append, B8s_length, hxn]; omega)
      clear ho hv hne hrv hh hxn
      go_enter Tryd.func34, Tryd.ntmps34
      have hd : decide ((n : Int) + 1 > (c : Int)) = false := by simp; omega
      have hci : (n : Int) + 1 ≤ (c : Int) := by omega
      have hrg : Rd w (some ⟨g, 0, none⟩) xs := rd_front HH.out (List.append_nil xs).symm
      have hin1 : Hid ((B8s xs).length = Nat.min (n + 1) n) := Lib.hid (by rw [B8s_length, HXN.out]; show _ = min _ _; omega)
      have hn1 := hrg.news (by rw [HXN.out]; exact h0)
      have HN1 := Lib.hid hn1
      have hfit1 : Hid (1 + (B8s xs).length ≤ (B8s xs ++ cur).length) := Lib.hid (by rw [List.length_append, B8s_length, HXN.out]; omega)
      have hw1 : IntKind.i64.wrap 1 = 1 := by rw [IntKind.wrap_i64]; rfl
      have hc1 : (c = 1) = False := eq_false (by omega)
      have hn1i : (1 : Int) ≤ (n : Int) + 1 := by omega
      have hn0i : (0 : Int) ≤ (n : Int) + 1 := by omega
      clear hrg hn1
      go_wp2
      go_region_law (refine step_copy_keep rfl (.tmp 73) (.tmp 76) 22 22 rfl 5 Tryd.underlying22 sz8 (some ⟨g, 1, none⟩) (some ⟨g, 0, none⟩) n (c - 1) (n + 1) c (by simp [Act.eval, Act.put]) (by simp [Act.eval, Act.put]) g 1 (B8s xs ++ cur) 5 (by exact HH.out) (B8s xs) hin1.out (fun hp => ⟨rfl, HN1.out⟩) hfit1.out B8s_one base w (by exact (Below.refl base w).drew) hg ?_; intro w1 hh1 hb1 hk1)
      have HL1 : Hid ((splice (B8s xs ++ cur) 1 (B8s xs)).length = (B8s xs ++ cur).length) := Lib.hid (length_splice _ _ _ hfit1.out)
      have hrv1 : w1.heap[gv]? = some (.cells #[B8 y] 5 (0, 0)) := (hk1.out gv hgv).trans HV.out
      have HN2 : Hid (∃ ad, (some ⟨gv, 0, none⟩ : Option Addr) = some ad ∧ ∀ (j : Nat) (u : Value), [B8 y][j]? = some u → w1.cell? (ad.add j) = some u) := Lib.hid ⟨_, rfl, fun j u hj => by
        have hj0 : j = 0 := by have := (List.getElem?_eq_some_iff.1 hj).1; simp at this; omega
        subst hj0
        have hc : w1.cell? ⟨gv, 0, none⟩ = some (B8 y) := by simp [World.cell?, hrv1]
        rw [show (⟨gv, 0, none⟩ : Addr).add 0 = ⟨gv, 0, none⟩ from rfl, hc]
        simpa using hj⟩
      have hin2 : Hid ([B8 y].length = Nat.min 1 (n + 1)) := Lib.hid (by show 1 = min _ _; omega)
      have hfit2 : Hid (0 + [B8 y].length ≤ (splice (B8s xs ++ cur) 1 (B8s xs)).length) := Lib.hid (by rw [HL1.out, List.length_append, B8s_length, HXN.out]; simp; omega)
      have h1y : ∀ v ∈ [B8 y], v.oneCell' = true := fun v hv => by rw [List.mem_singleton.1 hv]; rfl
      have H1Y := Lib.hid h1y
      clear hrv1 h1y
      go_wp2_with (with_reducible (refine wpList_copy_splice rfl (.tmp 80) (.tmp 81) 22 22 rfl 5 Tryd.underlying22 sz8 (some ⟨g, 0, none⟩) (some ⟨gv, 0, none⟩) (n + 1) c 1 1 rfl rfl g 0 (splice (B8s xs ++ cur) 1 (B8s xs)) 5 hh1.out [B8 y] hin2.out (fun hp => ⟨rfl, HN2.out⟩) hfit2.out H1Y.out base w hb1 hg ?_))
      intro w2 hh2 hb2
      have HE : Hid (splice (splice (B8s xs ++ cur) 1 (B8s xs)) 0 [B8 y] = B8s (y :: xs) ++ cur.drop 1) := Lib.hid (splice_front y (by rw [HXN.out]; omega))
      go_wp2
      go_ret
      exact ⟨_, rfl, own8_mk (cur := cur.drop 1) hg (by rw [hh2.out, HE.out]) (by rw [List.length_cons, HXN.out]) (by rw [List.length_drop]; omega) hcm, hb2⟩
    · obtain ⟨i0, hi, hz0, hz1, hz2⟩ := info_parts info8
      have hrun := fun ty => Lib.run_append_grow_zeros (P := Tryd.prog) w 22 3 ty 5 i0 (.int .u8 0) .i64 .i64 Tryd.underlying22 Tryd.underlying3 hi hz0 (some ⟨g, 0, none⟩) 0 c []
        (by rw [hz1]; exact run_firstCells_some w.drew 1 0 ⟨g, 0, none⟩ 0 c [] (by simp) (fun j v hj => by simp at hj)) (n + 1) (by omega) (by rw [hz1]; decide) (by omega) (by omega) (by rw [hz2]; omega) (by rw [hz2]; exact growslice_fits (by omega) (by omega))
      have hge := grownCap_ge w (0 + (n + 1)) c 5
      have hle := grownCap_le_maxLen w (0 + (n + 1)) c 5 (by unfold maxLen; omega)
      rw [Nat.zero_add] at hge hle
      simp only [Nat.zero_add] at hrun
      obtain ⟨C, hC⟩ : ∃ C, C = grownCap w (n + 1) c 5 := ⟨_, rfl⟩
      obtain ⟨L, hL⟩ : ∃ L : Array Value, L = (([] : List Value).toArray ++ Builtin.zeroCells (Value.int .u8 0).cells (n + 1) ++ Builtin.zeroCells (Value.int .u8 0).cells (grownCap w (n + 1) c 5 - (n + 1))) := ⟨_, rfl⟩
      have hLz : L.size = C := by
        rw [hL, hC, Array.size_append, Array.size_append, size_zeroCells, size_zeroCells]
        simp [Value.cells]
        omega
      rw [← hL, ← hC] at hrun
      rw [← hC] at hge hle
      have HR := Lib.hid hrun
      have HLZ := Lib.hid hLz
      clear hL hC hLz hrun ho hv hne hrv hh hxn
      have hci : (c : Int) < (n : Int) + 1 := by omega
      have hA : Hid ((w.alloc (.cells L 5)).drew.heap[w.heap.size]? = some (.cells L.toList.toArray 5 (0, 0))) := Lib.hid (by rw [Array.toArray_toList]; exact heap_alloc_new w _)
      have hAB : Hid (Below w.heap.size w (w.alloc (.cells L 5)).drew) := Lib.hid ((Below.refl _ w).alloc (Nat.le_refl _) _).drew
      have hN3 : Hid (∃ ad, (some ⟨gv, 0, none⟩ : Option Addr) = some ad ∧ ∀ (j : Nat) (u : Value), [B8 y][j]? = some u → (w.alloc (.cells L 5)).drew.cell? (ad.add j) = some u) := Lib.hid ⟨_, rfl, fun j u hj => by
        have hj0 : j = 0 := by have := (List.getElem?_eq_some_iff.1 hj).1; simp at this; omega
        subst hj0
        have hc : w.cell? ⟨gv, 0, none⟩ = some (B8 y) := by simp [World.cell?, HV.out]
        rw [show (⟨gv, 0, none⟩ : Addr).add 0 = ⟨gv, 0, none⟩ from rfl, kept hAB.out hc]
        simpa using hj⟩
      have hin2 : Hid ([B8 y].length = Nat.min 1 (n + 1)) := Lib.hid (by show 1 = min _ _; omega)
      have hfit2 : Hid (0 + [B8 y].length ≤ L.toList.length) := Lib.hid (Nat.le_trans (show 0 + 1 ≤ C by omega) (Nat.le_of_eq (show C = L.toList.length by rw [Array.length_toList, HLZ.out])))
      have H1Y : Hid (∀ v ∈ [B8 y], v.oneCell' = true) := Lib.hid (fun v hv => by rw [List.mem_singleton.1 hv]; rfl)
      have hcn : (C = 1) = False := eq_false (by omega)
      have hw1 : IntKind.i64.wrap 1 = 1 := by rw [IntKind.wrap_i64]; rfl
      have hn1i : (1 : Int) ≤ (n : Int) + 1 := by omega
      go_enter Tryd.func34, Tryd.ntmps34
      go_wp2_with (first | (at_builtin; refine Lib.wpList_append_run _ rfl (.tmp 34) (.tmp 39) 22 3 rfl _ _ rfl rfl _ _ (HR.out _) ?_) | (with_reducible (refine wpList_copy_splice rfl (.tmp 43) (.tmp 44) 22 22 rfl 5 Tryd.underlying22 sz8 (some ⟨w.heap.size, 0, none⟩) (some ⟨gv, 0, none⟩) (n + 1) C 1 1 rfl rfl w.heap.size 0 L.toList 5 hA.out [B8 y] hin2.out (fun hp => ⟨rfl, hN3.out⟩) hfit2.out H1Y.out w.heap.size w hAB.out (Nat.le_refl _) ?_)))
      intro w2 hh2 hb2
      have HL2 : Hid ((splice L.toList 0 [B8 y]).length = C) := Lib.hid (by rw [length_splice _ _ _ hfit2.out, Array.length_toList, HLZ.out])
      have hrg : Rd w2 (some ⟨g, 0, none⟩) xs := (rd_front HH.out (List.append_nil xs).symm).below hb2
      have HN1 := Lib.hid (hrg.news (by rw [HXN.out]; exact h0))
      have hin1 : Hid ((B8s xs).length = Nat.min n n) := Lib.hid (by rw [B8s_length, HXN.out]; show _ = min _ _; omega)
      have hfit1 : Hid (1 + (B8s xs).length ≤ (splice L.toList 0 [B8 y]).length) := Lib.hid (by rw [HL2.out, B8s_length, HXN.out]; omega)
      clear hrg
      go_wp2
      go_region_law (refine step_copy_keep rfl (.tmp 50) (.tmp 53) 22 22 rfl 5 Tryd.underlying22 sz8 (some ⟨w.heap.size, 1, none⟩) (some ⟨g, 0, none⟩) n (C - 1) n c (by simp [Act.eval, Act.put]) (by simp [Act.eval, Act.put]) w.heap.size 1 (splice L.toList 0 [B8 y]) 5 (by exact hh2.out) (B8s xs) hin1.out (fun hp => ⟨rfl, HN1.out⟩) hfit1.out B8s_one w.heap.size w (by exact hb2.drew) (Nat.le_refl _) ?_; intro w3 hh3 hb3 hk3)
      go_wp2
      go_ret
      have hLL : L.toList.length = C := Eq.trans Array.length_toList HLZ.out
      have hxl := HXN.out
      have HE := splice_back (L := L.toList) (xs := xs) y (by omega)
      refine ⟨_, rfl, own8_mk (cur := L.toList.drop (xs.length + 1)) hbase (by rw [hh3.out, HE]) (by rw [List.length_cons, HXN.out]) (by rw [List.length_drop]; omega) hle, hb3.mono hbase⟩
end Go.Proofs.YtefalhnllkkkhaaDoor
