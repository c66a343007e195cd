/- append of a number of noughts onto a row of bytes of its own. -/
import Derived.Test.YtheeomjfpnijbaaGreatDoorWireP
import Derived.Lib.AppendZerosOnto
import Derived.Test.YtheeomjfpnijbaaGreatDoorPoolPut
import Derived.Test.YtheeomjfpnijbaaGreatDoorPoolDo
namespace Go.Proofs.YtheeomjfpnijbaaGreatDoor
open Go.RowKit
set_option linter.unusedVariables false

theorem zeroCells8 (k : Nat) : (Builtin.zeroCells #[.int .u8 0] k).toList = B8s (List.replicate k 0) := by
  unfold Builtin.zeroCells B8s
  rw [show (#[Value.int .u8 0] : Array Value).size = 1 from rfl, Nat.mul_one]
  apply List.ext_getElem
  · simp
  · intro i h1 h2
    simp [B8, Nat.mod_one]
theorem run_room_zeros8 (W : World) (ty : TypeId) (g n cap k : Nat) (cur : Array Value) (hg : W.heap[g]? = some (.cells cur 5 (0, 0))) (hroom : n + k ≤ cap) (hfit : n + k ≤ cur.size) (hk : k ≤ 1000000) :
    (Builtin.append_ #[76, 3] ty #[.slice (some ⟨g, 0, none⟩) n cap, .int .i64 k]).run Tryz.prog W =
      .ok (.slice (some ⟨g, 0, none⟩) (n + k) cap) (W.setRow g (cur.toList.take n ++ B8s (List.replicate k 0) ++ cur.toList.drop (n + k)).toArray) := by
  obtain ⟨i, hi, hz, h1, h2⟩ := infoP8
  have hw : IntKind.i64.wrap (k : Int) = k := by rw [IntKind.wrap_i64]; omega
  have hneg : ¬ ((k : Int) < 0) := by omega
  have h48i : ¬ (281474976710656 < (k : Int)) := by omega
  have hst := run_storeCells_at Tryz.prog g n 5 (B8s (List.replicate k 0)) 0 cur W hg (by rw [B8s_length, List.length_replicate]; omega) B8s_one
  rw [B8s_length, List.length_replicate] at hst
  simp only [Nat.add_zero] at hst
  rcases Nat.eq_zero_or_pos k with hk0 | hk0
  · subst hk0
    have e0 : B8s (List.replicate 0 0) = [] := rfl
    rw [e0] at hst ⊢
    simp at hst
    have hw0 : IntKind.i64.wrap 0 = 0 := by rw [IntKind.wrap_i64]; rfl
    have hr0 : n ≤ cap := hroom
    simp [Builtin.append_, run_underlying Tryz.underlying76, run_underlying Tryz.underlying3, sizeOf, typeInfo, zeroValue, hi, hz, h1, h2, asInt, asIntOf, hw0, hr0, Addr.add_lit, hst]
  · have hn0 : ¬ (k = 0) := by omega
    have hzc : Builtin.zeroCells #[Value.int .u8 0] k = (B8s (List.replicate k 0)).toArray := by rw [← zeroCells8]
    simp [Builtin.append_, run_underlying Tryz.underlying76, run_underlying Tryz.underlying3, sizeOf, typeInfo, zeroValue, hi, hz, h1, h2, asInt, asIntOf, hw, hneg, h48i, hroom, hn0, Value.cells, hzc, Addr.add_lit, hst]
theorem run_appz (W : World) (ty : TypeId) (base n k : Nat) (v : Value) (xs : List UInt8) (HO : W.ownsRow base 5 1 v n (B8s xs)) (hn : n ≤ 1000000) (hk : k ≤ 1000000) (hbase : base ≤ W.heap.size) :
    ∃ v' w', (Builtin.append_ #[76, 3] ty #[v, .int .i64 k]).run Tryz.prog W = .ok v' w' ∧ w'.ownsRow base 5 1 v' (n + k) (B8s (xs ++ List.replicate k 0)) ∧ W.grownBy w' v.ownBlock := by
  obtain ⟨i, hi, hz, h1, h2⟩ := infoP8
  have hxl : xs.length = n := by have := HO.1; simpa [B8s_length] using this
  have HO' := HO
  rcases HO.2 with ⟨rfl, rfl⟩ | ⟨g, cap, cur, rfl, hbg, hgg, hnc, hcm, hcs, htake⟩
  · obtain rfl : xs = [] := List.eq_nil_of_length_eq_zero hxl
    rcases Nat.eq_zero_or_pos k with hk0 | hk0
    · subst hk0
      refine ⟨.slice none 0 0, W, ?_, World.ownsRow_nil _ _ _ _, ⟨rfl, rfl, rfl, Nat.le_refl _, fun _ _ _ => rfl⟩⟩
      have hw0 : IntKind.i64.wrap 0 = 0 := by rw [IntKind.wrap_i64]; rfl
      simp [Builtin.append_, run_underlying Tryz.underlying76, run_underlying Tryz.underlying3, sizeOf, typeInfo, zeroValue, hi, hz, h2, asInt, asIntOf, hw0]
    · have hr := Lib.run_append_nil_zeros (P := Tryz.prog) W 76 3 ty 5 i (.int .u8 0) .i64 .i64 Tryz.underlying76 Tryz.underlying3 hi hz k hk0 (by omega) (by omega) (by rw [h2]; omega)
      refine ⟨_, _, hr, ?_, ⟨rfl, rfl, rfl, by simp, fun j hj _ => heap_alloc_old W.drew _ hj⟩⟩
      have hge := grownCap_ge W k 0 5
      have hcm := grownCap_le_maxLen W k 0 5 (by simp only [maxLen]; omega)
      refine ⟨by simp [B8s_length], .inr ⟨W.heap.size, _, _, by rw [Nat.zero_add], hbase, heap_alloc_new W.drew _, by omega, hcm, ?_, ?_⟩⟩
      · simp [Value.cells, Builtin.zeroCells]
        omega
      · rw [Array.toList_append, show (Builtin.zeroCells (Value.int .u8 0).cells k).toList = B8s (List.replicate k 0) from zeroCells8 k, List.nil_append]
        exact List.take_left' (by simp [B8s_length])
  · by_cases hroom : n + k ≤ cap
    · have hr := run_room_zeros8 W ty g n cap k cur hgg hroom (by omega) hk
      refine ⟨_, _, hr, ⟨by simp [B8s_length, hxl], .inr ⟨g, cap, _, rfl, hbg, setRow_heap W g cur _ 5 _ hgg, hroom, hcm, ?_, ?_⟩⟩, ⟨rfl, rfl, rfl, by simp, fun j _ hj => setRow_other W g j _ (fun e => hj (by simp [Value.ownBlock, e]))⟩⟩
      · simp [B8s_length]
        omega
      · have ht : cur.toList.take n = B8s xs := by simpa using htake
        rw [ht, show B8s (xs ++ List.replicate k 0) = B8s xs ++ B8s (List.replicate k 0) from by simp [B8s]]
        exact List.take_left' (by simp [B8s_length, hxl])
    · have hold : (Builtin.firstCells i.size n (.slice (some ⟨g, 0, none⟩) n cap)).run Tryz.prog W.drew = .ok (B8s xs).toArray W.drew := by
        have := run_firstCells_some (P := Tryz.prog) W.drew i.size n ⟨g, 0, none⟩ n cap (B8s xs) (by rw [h1]; exact HO.1) (fun j u hj => HO.cells (g := g) rfl j u hj)
        exact this
      have hr := Lib.run_append_grow_zeros (P := Tryz.prog) W 76 3 ty 5 i (.int .u8 0) .i64 .i64 Tryz.underlying76 Tryz.underlying3 hi hz (some ⟨g, 0, none⟩) n cap (B8s xs) hold k (by omega) (by omega) (by omega) (by omega) (by rw [h2]; omega) (growslice_fits (by omega) (by rw [h2]; omega))
      refine ⟨_, _, hr, ?_, ⟨rfl, rfl, rfl, by simp, fun j hj _ => heap_alloc_old W.drew _ hj⟩⟩
      have hge := grownCap_ge W (n + k) cap 5
      have hcm := grownCap_le_maxLen W (n + k) cap 5 (by simp only [maxLen]; omega)
      refine ⟨by simp [B8s_length, hxl], .inr ⟨W.heap.size, _, _, rfl, hbase, heap_alloc_new W.drew _, by omega, hcm, ?_, ?_⟩⟩
      · simp [Value.cells, Builtin.zeroCells, B8s_length, hxl]
        omega
      · rw [Array.toList_append, Array.toList_append, show (Builtin.zeroCells (Value.int .u8 0).cells k).toList = B8s (List.replicate k 0) from zeroCells8 k, show B8s (xs ++ List.replicate k 0) = B8s xs ++ B8s (List.replicate k 0) from by simp [B8s]]
        exact List.take_left' (by simp [B8s_length, hxl])
theorem step_appz {ops : Array Oper} {o : Oper} {a : Act} {W : World} {K : Act → World → Prop} {Q : Exit → Act → World → Prop} {E : Prop} {base n k : Nat} (hgd : o.guard = none) (s x : Operand)
    (ho : o.op = .call { callee := .builtin .append, args := #[s, x], argTypes := #[76, 3] })
    (v : Value) (xs : List UInt8) (hs : a.eval s = v) (hx : a.eval x = .int .i64 k) (HO : W.ownsRow base 5 1 v n (B8s xs)) (hn : n ≤ 1000000) (hk : k ≤ 1000000) (hbase : base ≤ W.heap.size)
    (h : ∀ v1 w1, w1.ownsRow base 5 1 v1 (n + k) (B8s (xs ++ List.replicate k 0)) → W.grownBy w1 v.ownBlock → K (a.put o.dst v1) w1) :
    if Region.wanted o (yielded ops a.tmps) = true then Oper.wp Tryz.prog o a W K Q else E := by
  have hw : Region.wanted o (yielded ops a.tmps) = true := by simp [Region.wanted, hgd]
  rw [if_pos hw]
  obtain ⟨v', w', hr, h2, h3⟩ := run_appz W o.type base n k v xs HO hn hk hbase
  exact Lib.wp_append_run W s x 76 3 ho _ _ hs hx v' w' hr (h v' w' h2 h3)
end Go.Proofs.YtheeomjfpnijbaaGreatDoor

namespace Go.Proofs.YtheeomjfpnijbaaGreatDoor
open Go.RowKit Go.Shelf
set_option linter.unusedVariables false

theorem zslB (w : World) : (zeroValue 76).run Tryz.prog w = .ok (.slice none 0 0) w := by kernel_rfl
theorem zintI (w : World) : (zeroValue 3).run Tryz.prog w = .ok (.int .i64 0) w := by kernel_rfl
/-- What is clean reads so on the disk. -/
theorem PInv.clean {fro pages : Nat} {D : Nat → List UInt8} {M : List (Int × Buf)} {C : Int → Nat × List UInt8} (h : PInv fro pages D M C) (hc : ∀ x ∈ M, x.2.first = 0) (n : Int) (h0 : 0 ≤ n) (h1 : n < pages) : D (fro + n.toNat) = encV (C n).1 (C n).2 := by
  by_cases hm : n ∈ M.map (·.1)
  · obtain ⟨⟨n', b⟩, hb, rfl⟩ := List.mem_map.1 hm
    exact (h.held _ hb).2.2 (hc _ hb)
  · exact h.not n h0 h1 hm
/-- A law's load. -/
def loadV (xs : List UInt8) : List UInt8 := xs.take 112 ++ zeros (112 - min xs.length 112)
theorem loadV_length (xs : List UInt8) : (loadV xs).length = 112 := by simp [loadV, zeros]; omega
theorem Rd.front {w : World} {p : Option Addr} {xs : List UInt8} (h : Rd w p xs) (j : Nat) : Rd w p (xs.take j) := fun hne => by
  have hne' : B8s xs ≠ [] := fun e => hne (by
    have : xs = [] := List.eq_nil_of_length_eq_zero (by rw [← B8s_length, e]; rfl)
    rw [this]
    simp [B8s])
  obtain ⟨b, o, rfl, hc⟩ := h hne'
  refine ⟨b, o, rfl, fun i v hv => hc i v ?_⟩
  have e : B8s (xs.take j) = (B8s xs).take j := by simp [B8s, List.map_take]
  rw [e, List.getElem?_take] at hv
  split at hv
  · exact hv
  · cases hv
theorem MapIs.notTyped {K : Type} [DecidableEq K] {KK : KeyKind K} {w : World} {b k : Nat} {m : List (K × Value)} {t : TypeId} (h : MapIs KK w b m) (ht : Typed w k t) : k ≠ b := by
  rintro rfl
  obtain ⟨es, c, h1, -⟩ := h
  obtain ⟨cs, h2⟩ := ht
  rw [h1] at h2
  cases h2
theorem fs_notMap {K : Type} [DecidableEq K] {KK : KeyKind K} {w : World} {N : Zone} {b bm : Nat} {m : List (K × Value)} (h : MapIs KK w b m) (hne : b ≠ bm) : ¬ FS N bm w b := fun hf => by
  rcases hf with ⟨-, hk | ⟨hk, -⟩ | hk | hk | hk | hk | hk⟩
  · exact h.notTyped hk rfl
  · exact h.notTyped hk rfl
  · exact h.notTyped hk rfl
  · exact h.notTyped hk rfl
  · exact h.notTyped hk rfl
  · exact h.notTyped hk rfl
  · exact hne hk

/-- What a drawn region keeps that makes a load. -/
theorem keepL1 {W w' w5 : World} {a : Addr} {v : Value} (h : Hid (Below W.heap.size W w') ∧ w'.cell? a = some v) (hb : Below w'.heap.size w' w5) : Hid (Below W.heap.size W w5) ∧ w5.cell? a = some v :=
  ⟨Lib.hid (h.1.out.trans (hb.mono h.1.out.size)), keepC hb h.2⟩
theorem keepL2 {W w5 w6 : World} {a : Addr} {v v5 : Value} {n : Nat} {xs : List Value} (h : Hid (Below W.heap.size W w5) ∧ w5.cell? a = some v) (ho : w5.ownsRow W.heap.size 5 1 v5 n xs) (hg : w5.grownBy w6 v5.ownBlock) (ha : a.block < W.heap.size) : Hid (Below W.heap.size W w6) ∧ w6.cell? a = some v :=
  ⟨Lib.hid (h.1.out.grown hg h.1.out.size (fun j hj => (ho.lt j hj).1)), hg.cell h.2 (fun e => by have := (ho.lt _ e.symm).1; omega)⟩
/-- What holds between two calls of the law: what was put is what the maps have. -/
structure PW (w0 : World) (bp bd bl bm B wm lm k : Nat) (wr : World) (clock c : Nat) (M : List (Int × Buf)) (C : Int → Nat × List UInt8) (D : Nat → List UInt8) (L : LogV) (m1 m2 : List (Int × Value)) : Prop where
  run : Run (z0 w0.heap.size) bp bd bl bm 4 10 B 14 wr clock c M C D L
  pins : ∀ n, pinsOf M n = 0
  tick : clock ≤ k
  cnt : c ≤ k
  below : Below w0.heap.size w0 wr
  map1 : MapIs intKeys wr wm m1
  map2 : MapIs intKeys wr lm m2
  apart : wm ≠ lm ∧ wm ≠ bm ∧ lm ≠ bm
  low : w0.heap.size ≤ wm ∧ w0.heap.size ≤ lm
  want : ∀ n : Int, look m1 n = none ∨ ∃ v, look m1 n = some v ∧ Byt wr (z0 w0.heap.size) v (C n).2 ∧ look m2 n = some (.int .i64 (C n).1)
def PWI (w0 : World) (bp bd bl bm B wm lm k : Nat) (wr : World) : Prop := ∃ clock c M C D L m1 m2, PW w0 bp bd bl bm B wm lm k wr clock c M C D L m1 m2
section
variable {w0 wr w' : World} {bp bd bl bm B wm lm k : Nat} {clock c : Nat} {M : List (Int × Buf)} {C : Int → Nat × List UInt8} {D : Nat → List UInt8} {L : LogV} {m1 m2 : List (Int × Value)}
theorem PW.later (h : PW w0 bp bd bl bm B wm lm k wr clock c M C D L m1 m2) (hb : Below wr.heap.size wr w') : PW w0 bp bd bl bm B wm lm k w' clock c M C D L m1 m2 := by
  have hu := Upd.of_below' hb (fun _ => False)
  refine ⟨h.run.below hb, h.pins, h.tick, h.cnt, h.below.trans (hb.mono h.below.size), h.map1.upd hu (fun h => h), h.map2.upd hu (fun h => h), h.apart, h.low, fun n => ?_⟩
  rcases h.want n with e | ⟨v, e1, e2, e3⟩
  · exact .inl e
  · exact .inr ⟨v, e1, e2.upd hu (fun k hk => hk.elim), e3⟩
theorem PW.maps (h : PW w0 bp bd bl bm B wm lm k wr clock c M C D L m1 m2) (hu : Upd (FS (z0 w0.heap.size) bm wr) wr w') : MapIs intKeys w' wm m1 ∧ MapIs intKeys w' lm m2 :=
  ⟨h.map1.upd hu (fs_notMap h.map1 h.apart.2.1), h.map2.upd hu (fs_notMap h.map2 h.apart.2.2)⟩
theorem PW.wants (h : PW w0 bp bd bl bm B wm lm k wr clock c M C D L m1 m2) (hu : Upd (FS (z0 w0.heap.size) bm wr) wr w') (n : Int) : look m1 n = none ∨ ∃ v, look m1 n = some v ∧ Byt w' (z0 w0.heap.size) v (C n).2 ∧ look m2 n = some (.int .i64 (C n).1) := by
  rcases h.want n with e | ⟨v, e1, e2, e3⟩
  · exact .inl e
  · exact .inr ⟨v, e1, e2.upd hu (fun k hk ht => (fs_not8 h.run.pool (.inl rfl) k hk ht).elim), e3⟩
theorem PW.step {w6 w7 w8 : World} {clock' c' l : Nat} {M' : List (Int × Buf)} {D' : Nat → List UInt8} {L' : LogV} {n : Int} {xs : List UInt8} {v : Value} (h : PW w0 bp bd bl bm B wm lm k wr clock c M C D L m1 m2)
    (hr : Run (z0 w0.heap.size) bp bd bl bm 4 10 B 14 w6 clock' c' M' (updC C n l xs) D' L') (ht : clock' ≤ clock + 1) (hc : c' ≤ c + 1) (hp : ∀ k, pinsOf M' k = pinsOf M k) (hu : Upd (FS (z0 w0.heap.size) bm wr) wr w6) (hby : Byt w6 (z0 w0.heap.size) v xs)
    (hs1 : MapIs intKeys w7 wm (put m1 n v)) (hu7 : Upd (fun k => k = wm) w6 w7) (hs2 : MapIs intKeys w8 lm (put m2 n (.int .i64 l))) (hu8 : Upd (fun k => k = lm) w7 w8) :
    PW w0 bp bd bl bm B wm lm (k + 1) w8 clock' c' M' (updC C n l xs) D' L' (put m1 n v) (put m2 n (.int .i64 l)) := by
  obtain ⟨hm1, hm2⟩ := h.maps hu
  have hm2' := hm2.upd hu7 (fun e => h.apart.1 e.symm)
  have r7 := hr.upd hu7 (fun k hk => by subst hk; exact h.low.1) (fun k hk => by subst hk; exact ⟨fs_notMap hm1 h.apart.2.1, fun h8 => hm1.notTyped h8 rfl⟩)
  have r8 := r7.upd hu8 (fun k hk => by subst hk; exact h.low.2) (fun k hk => by subst hk; exact ⟨fs_notMap hm2' h.apart.2.2, fun h8 => hm2'.notTyped h8 rfl⟩)
  have b7 : ∀ {v xs}, Byt w6 (z0 w0.heap.size) v xs → Byt w8 (z0 w0.heap.size) v xs := fun hb => (hb.upd hu7 (fun k hk h8 => by subst hk; exact (hm1.notTyped h8 rfl).elim)).upd hu8 (fun k hk h8 => by subst hk; exact (hm2'.notTyped h8 rfl).elim)
  refine ⟨r8, fun j => by rw [hp]; exact h.pins j, by have := h.tick; omega, by have := h.cnt; omega, ?_, hs1.upd hu8 h.apart.1, hs2, h.apart, h.low, fun j => ?_⟩
  · have e1 := h.below.trans (FS.below hu h.run.st.base)
    have s6 := e1.size
    exact (e1.trans (Upd.below hu7 s6 (fun k hk => by subst hk; exact h.low.1))).trans (Upd.below hu8 (Nat.le_trans s6 hu7.size) (fun k hk => by subst hk; exact h.low.2))
  · rw [look_put, look_put]
    by_cases e : j = n
    · subst e
      rw [if_pos rfl, if_pos rfl, updC_same]
      exact .inr ⟨v, rfl, b7 hby, rfl⟩
    · rw [if_neg e, if_neg e, updC_other _ _ _ e]
      rcases h.wants hu j with e | ⟨u, e1, e2, e3⟩
      · exact .inl e
      · exact .inr ⟨u, e1, b7 e2, e3⟩
end
end Go.Proofs.YtheeomjfpnijbaaGreatDoor
