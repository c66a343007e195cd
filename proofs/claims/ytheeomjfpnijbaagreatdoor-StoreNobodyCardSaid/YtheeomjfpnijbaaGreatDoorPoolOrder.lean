/- The pages in the order of their use: the closure, SortedFunc over maps.Keys, order, Held, victim. -/
import Derived.Test.YtheeomjfpnijbaaGreatDoorPoolAt
namespace Go.Proofs.YtheeomjfpnijbaaGreatDoor
open Go.RowKit Go.Shelf Go.Sort
set_option linter.unusedVariables false
attribute [local go_sem] Oper.semAt_some

theorem zbuf (w : World) : (zeroValue 317).run Tryz.prog w = .ok (.pointer none) w := by kernel_rfl

set_option maxRecDepth 20000 in
set_option maxHeartbeats 1000000 in
theorem order1_any {N : Zone} (Bt bp bd bl bm fro pages buffers clock : Nat) (M : List (Int × Buf)) (n m : Int) (b c : Buf) (w : World) (h : PoolAt w N bp bd bl bm fro pages buffers clock M) (hB : w.cell? ⟨Bt, 0, none⟩ = some (.pointer (some ⟨bp, 0, none⟩))) (h1 : (n, b) ∈ M) (h2 : (m, c) ∈ M) (hc : clock < 4611686018427387904) :
    Calls Tryz.prog 287 #[.int .i64 n, .int .i64 m, .pointer (some ⟨Bt, 0, none⟩)] w fun e w' => e = .returned (.int .i64 ((b.used : Int) - (c.used : Int))) ∧ w' = w.drew := by
  obtain ⟨k0, -⟩ := h.load
  have b4 := (h.bufs _ h1).cell.2.2.2.2
  have c4 := (h.bufs _ h2).cell.2.2.2.2
  have l1 := h.map.is.lookup (P := Tryz.prog) Tryz.underlying257 Tryz.underlying3 (zbuf w) n
  have l2 := h.map.is.lookup (P := Tryz.prog) Tryz.underlying257 Tryz.underlying3 (zbuf w) m
  rw [look_mapP, look_of_mem h.nodup h1] at l1
  rw [look_mapP, look_of_mem h.nodup h2] at l2
  have l1' : (Instr.lookup 257 (.map (some bm)) (.int .i64 n) false).run Tryz.prog w.drew = .ok (.pointer (some ⟨b.blk, 0, none⟩)) w.drew := by
    have := (h.below (Below.refl _ w).drew).map.is.lookup (P := Tryz.prog) Tryz.underlying257 Tryz.underlying3 (zbuf w.drew) n
    rw [look_mapP, look_of_mem h.nodup h1] at this
    exact this
  have l2' : (Instr.lookup 257 (.map (some bm)) (.int .i64 m) false).run Tryz.prog w.drew = .ok (.pointer (some ⟨c.blk, 0, none⟩)) w.drew := by
    have := (h.below (Below.refl _ w).drew).map.is.lookup (P := Tryz.prog) Tryz.underlying257 Tryz.underlying3 (zbuf w.drew) m
    rw [look_mapP, look_of_mem h.nodup h2] at this
    exact this
  have hw : IntKind.i64.wrap ((b.used : Int) - (c.used : Int)) = (b.used : Int) - (c.used : Int) := by
    have u1 : b.used ≤ clock := (h.nums _ h1).used
    have u2 : c.used ≤ clock := (h.nums _ h2).used
    rw [IntKind.wrap_i64]
    omega
  clear h h1 h2 hc l1 l2
  go_enter Tryz.func287, Tryz.ntmps287
  go_wp2
  go_region
  go_wp2
  go_ret
  exact ⟨rfl, rfl⟩

/-- The keys that are held. -/
abbrev KeyOf (M : List (Int × Buf)) := { k : Int // k ∈ M.map (·.1) }
def usedK (M : List (Int × Buf)) (k : Int) : Int := match look M k with | some b => b.used | none => 0
theorem putRow_val {α : Type} [Inhabited α] (f : α → Int) (w : World) (blk off : Nat) (d : Array α) : putRow (fun x => Value.int .i64 (f x)) w blk off d = putRow encZ w blk off (d.map f) := by
  unfold putRow
  refine mapBlock_congr _ _ _ _ fun c _ _ _ => ?_
  unfold putCells
  apply Array.ext_getElem?
  intro k
  simp only [Array.getElem?_mapIdx, Array.size_map]
  cases c[k]? with
  | none => rfl
  | some y =>
    simp only [Option.map_some]
    by_cases hr : off ≤ k ∧ k < off + d.size
    · rw [if_pos hr, if_pos hr]
      have h1 : k - off < d.size := by omega
      rw [getElem!_pos d (k - off) h1, getElem!_pos (d.map f) (k - off) (by simpa using h1)]
      simp [encZ]
    · rw [if_neg hr, if_neg hr]
theorem sub_vals {p : Int → Prop} : ∀ (ys : List Int) (h : ∀ y ∈ ys, p y), ∃ d : List { k : Int // p k }, d.map (·.1) = ys
  | [], _ => ⟨[], rfl⟩
  | y :: ys, h => by
    obtain ⟨d, hd⟩ := sub_vals ys (fun z hz => h z (by simp [hz]))
    exact ⟨⟨y, h y (by simp)⟩ :: d, by rw [List.map_cons, hd]⟩
theorem swo_sub {α : Type} [Inhabited α] (u : α → Int) : SWO (ltOf fun x y : α => u x - u y) where
  irrefl := fun x => by simp [ltOf]
  trans := fun x y z h1 h2 => by simp only [ltOf, decide_eq_true_eq] at *; omega
  ntrans := fun x y z h1 h2 => by simp only [ltOf, decide_eq_false_iff_not] at *; omega

set_option maxHeartbeats 1000000 in
theorem collect_keys {N : Zone} (Bm bp bd bl bm fro pages buffers clock : Nat) (M : List (Int × Buf)) (w : World) (h : PoolAt w N bp bd bl bm fro pages buffers clock M) (hm : w.cell? ⟨Bm, 0, none⟩ = some (.map (some bm))) :
    Calls Tryz.prog 259 #[.func (.func 296) #[] #[.pointer (some ⟨Bm, 0, none⟩)]] w fun e w' => ∃ (v : Value) (ys : List Int), e = .returned v ∧ ys.Perm (M.map (·.1)) ∧ w'.ownsRow w.heap.size 3 1 v ys.length (ys.map (Value.int .i64)) ∧ Below w.heap.size w w' := by
  have hown := h.map.owns (P := Tryz.prog) (kt := 3) Tryz.underlying3
  refine (callsIn_wide (n := 5)).1 ?_
  refine (collectInts_in Fence.wide 5 trivial trivial 296 trivial (enters_of Tryz.func296 (by kernel_rfl) rfl) rfl (by omega) _ (Maps.size (keysD (mapP M))) (by rw [keys_size]; obtain ⟨_, _, _, _, _, h4, _⟩ := h.map; omega) _ _ w (Kp := KeepsWalks) walksK_t (walksK_b (w := w)) (fun W W' hk _ => hk.walks)
    (AnyZI.keys_stops Tryz.keysZ Fence.wide 3 trivial rfl (by omega) Bm bm _ (keysD (mapP M)) w (cell_lt hm) hm hown)).mono ?_
  rintro e w' ⟨v, ys, rfl, ⟨hp, -⟩, ho, hb⟩
  have e1 : (mapP M).map (·.1) = M.map (·.1) := by simp [mapP, List.map_map, Function.comp_def]
  exact ⟨v, ys, rfl, e1 ▸ keys_perm hp, ho, hb⟩

set_option maxRecDepth 20000 in
set_option maxHeartbeats 1000000 in
/-- slices.SortFunc under the order's closure: the same keys. -/
theorem sortKeys_any {N : Zone} (Bt bp bd bl bm fro pages buffers clock base : Nat) (M : List (Int × Buf)) (ys : List Int) (v : Value) (w : World) (h : PoolAt w N bp bd bl bm fro pages buffers clock M) (hB : w.cell? ⟨Bt, 0, none⟩ = some (.pointer (some ⟨bp, 0, none⟩)))
    (hBt : Typed w Bt 372) (hc : clock < 4611686018427387904) (hys : ys.Perm (M.map (·.1))) (ho : w.ownsRow base 3 1 v ys.length (ys.map (Value.int .i64))) :
    Calls Tryz.prog 295 #[v, .func (.func 287) #[] #[.pointer (some ⟨Bt, 0, none⟩)]] w fun e w' => (∃ x, e = .returned x) ∧ ∃ zs : List Int, zs.Perm (M.map (·.1)) ∧ w'.ownsRow base 3 1 v zs.length (zs.map (Value.int .i64)) ∧ (∀ B, B ≤ w.heap.size → B ≤ base → Below B w w') := by
  rcases ho.2 with ⟨rfl, h0⟩ | ⟨g, cap, cur, rfl, hb, hg, h1, h2, h3, h4⟩
  · refine (sortFunc_zero none 0 _ _).mono ?_
    rintro e w' ⟨he, rfl⟩
    exact ⟨he, ys, hys, ho, fun B hB _ => Below.refl _ _⟩
  · rcases ys with _ | ⟨y0, yt⟩
    · refine (sortFunc_zero _ cap _ _).mono ?_
      rintro e w' ⟨he, rfl⟩
      exact ⟨he, [], hys, ho, fun B hB _ => Below.refl _ _⟩
    · generalize hY : y0 :: yt = ys at *
      have hmem : ∀ y ∈ ys, y ∈ M.map (·.1) := fun y hy => hys.mem_iff.1 hy
      obtain ⟨d, hd⟩ := sub_vals ys hmem
      haveI : Inhabited (KeyOf M) := ⟨⟨y0, hmem y0 (by rw [← hY]; simp)⟩⟩
      have hdl : d.toArray.size = ys.length := by rw [← hd]; simp
      have hgl : g < w.heap.size := (Array.getElem?_eq_some_iff.1 hg).1
      have hH : Holds (fun x : KeyOf M => Value.int .i64 x.1) w g 0 d.toArray := by
        have := holds_of_block_i hg (ss := ys) (by simpa using h4)
        intro j hj
        have hj' : j < ys.length := by rw [← hdl]; exact hj
        obtain ⟨c1, c2⟩ := this j (by simpa using hj')
        refine ⟨?_, c2⟩
        rw [c1]
        congr 1
        have hjd : j < d.length := by simpa using hj
        rw [getElem!_pos _ j (by simpa using hj'), getElem!_pos _ j (by simpa using hjd)]
        simp only [List.getElem_toArray, encZ]
        congr 1
        have e := congrArg (fun l : List Int => l[j]?) hd
        simp only [List.getElem?_map, List.getElem?_eq_getElem hjd, List.getElem?_eq_getElem hj', Option.map_some, Option.some.injEq] at e
        exact e.symm
      have hcmp : CmpLays1 Tryz.prog 287 #[.pointer (some ⟨Bt, 0, none⟩)] (fun x : KeyOf M => Value.int .i64 x.1) (fun x y => usedK M x.1 - usedK M y.1) g 0 d.toArray.size w := by
        intro m os dk hdk x y
        obtain ⟨⟨n1, b1⟩, hx, hx1⟩ := List.mem_map.1 x.2
        obtain ⟨⟨n2, b2⟩, hy, hy1⟩ := List.mem_map.1 y.2
        have hu : Upd (fun k => k = g) w (sortWorld (fun x : KeyOf M => Value.int .i64 x.1) w g 0 m dk os) := by
          unfold sortWorld
          rw [putRow_val]
          have := grownBy_sorted_i (w := w) (g := g) (n := m) (os := os) (dk.map (·.1))
          exact (Upd.of_grown this).mono (fun k _ hk => by simpa using hk)
        have hgT : Typed w g 3 := ⟨_, hg⟩
        have hP := h.upd hu (fun k hk _ => by subst hk; exact ⟨fun ht => absurd (ht.one hgT) (by decide), fun ht => absurd (ht.one hgT) (by decide), h.map.notTyped hgT⟩) (fun k hk ht => by subst hk; exact absurd (ht.one hgT) (by decide))
        have hBW := hu.cell hB (fun e => by have e : Bt = g := e; subst e; exact absurd (hBt.one hgT) (by decide))
        have e1 : x.1 = n1 := hx1.symm
        have e2 : y.1 = n2 := hy1.symm
        have u1 : usedK M x.1 = b1.used := by unfold usedK; rw [e1, look_of_mem h.nodup hx]
        have u2 : usedK M y.1 = b2.used := by unfold usedK; rw [e2, look_of_mem h.nodup hy]
        have goal' : Calls Tryz.prog 287 #[.int .i64 x.1, .int .i64 y.1, .pointer (some ⟨Bt, 0, none⟩)] (sortWorld (fun x : KeyOf M => Value.int .i64 x.1) w g 0 m dk os) (fun e w' => e = .returned (.int .i64 (usedK M x.1 - usedK M y.1)) ∧ ∃ q os', w' = grow ((sortWorld (fun x : KeyOf M => Value.int .i64 x.1) w g 0 m dk os).drewN q) os') := ?_
        · exact goal'
        rw [u1, u2, e1, e2]
        refine (order1_any Bt bp bd bl bm fro pages buffers clock M n1 n2 b1 b2 _ hP hBW hx hy hc).mono ?_
        rintro e w' ⟨rfl, rfl⟩
        exact ⟨rfl, 1, #[], by rw [grow_empty]; rfl⟩
      have hcall := Tryz.slices_SortFunc (fun x : KeyOf M => Value.int .i64 x.1) (fun x => by rfl) (fun x y => usedK M x.1 - usedK M y.1) (swo_sub fun x : KeyOf M => usedK M x.1) 287 #[.pointer (some ⟨Bt, 0, none⟩)] g 0 cap d.toArray w (enters_of Tryz.func287 (by kernel_rfl) rfl) hcmp hH hgl (by rw [hdl]; have h5 := hys.length_eq; obtain ⟨_, _, _, _, _, h6, _⟩ := h.map; simp [mapP] at h6 h5; omega)
      rw [hdl] at hcall
      refine hcall.mono ?_
      rintro e w' ⟨rfl, d', n, os, hperm, -, rfl⟩
      have hdsz : d'.size = ys.length := by rw [hperm.1, hdl]
      have hpl : d'.toList.Perm d := by
        have := hperm.2.2
        rw [← hdl] at this
        rw [← hperm.1] at this
        have e5 : d'.toList.length = d.length := by simpa using hperm.1
        have e6 : List.take d.length d'.toList = d'.toList := by rw [← e5, List.take_length]
        simpa [hperm.1, e6] using this
      refine ⟨⟨_, rfl⟩, (d'.map (·.1)).toList, ?_, ?_, ?_⟩
      · refine List.Perm.trans ?_ hys
        rw [← hd, Array.toList_map]
        exact hpl.map _
      · unfold sortWorld
        rw [putRow_val]
        have hl : (d'.map (·.1)).toList.length = ys.length := by simp [hdsz]
        have := ownsRow_sorted_i (n := n) (os := os) (ts := (d'.map (·.1)).toList) hl hb hg h1 h2 (by simpa using h3)
        rw [hl]
        rw [Array.toArray_toList] at this
        exact this
      · intro B hB1 hB2
        unfold sortWorld
        rw [putRow_val]
        exact (Below.refl B w).grown (grownBy_sorted_i _) hB1 (fun j hj => by cases hj; omega)
end Go.Proofs.YtheeomjfpnijbaaGreatDoor

/- order, Held, victim. -/
namespace Go.Proofs.YtheeomjfpnijbaaGreatDoor
open Go.RowKit Go.Shelf Go.Sort
set_option linter.unusedVariables false
attribute [local go_sem] Oper.semAt_some

set_option maxRecDepth 20000 in
set_option maxHeartbeats 1000000 in
theorem sortedKeys_any {N : Zone} (Bm Bt bp bd bl bm fro pages buffers clock : Nat) (M : List (Int × Buf)) (w : World) (h : PoolAt w N bp bd bl bm fro pages buffers clock M) (hm : w.cell? ⟨Bm, 0, none⟩ = some (.map (some bm))) (hB : w.cell? ⟨Bt, 0, none⟩ = some (.pointer (some ⟨bp, 0, none⟩)))
    (hBt : Typed w Bt 372) (hc : clock < 4611686018427387904) :
    Calls Tryz.prog 285 #[.func (.func 296) #[] #[.pointer (some ⟨Bm, 0, none⟩)], .func (.func 287) #[] #[.pointer (some ⟨Bt, 0, none⟩)]] w fun e w' =>
      ∃ (v : Value) (zs : List Int), e = .returned v ∧ zs.Perm (M.map (·.1)) ∧ w'.ownsRow w.heap.size 3 1 v zs.length (zs.map (Value.int .i64)) ∧ Below w.heap.size w w' := by
  have H := Lib.hid h
  have HBT := Lib.hid hBt
  have HBC := Lib.hid hB
  have HC := Lib.hid hc
  clear h hBt hB hc
  go_enter Tryz.func285, Tryz.ntmps285
  go_wp2_with fail
  refine (collect_keys Bm bp bd bl bm fro pages buffers clock M _ H.out hm).mono ?_
  rintro e w1 ⟨v, ys, rfl, hys, ho, hb⟩
  have H1 := Lib.hid (H.out.below hb)
  have HB1 := Lib.hid (keepC hb HBC.out)
  have HT1 : Hid (Typed w1 Bt 372) := Lib.hid (by obtain ⟨cs, h'⟩ := HBT.out; exact ⟨cs, (hb.block _ (Array.getElem?_eq_some_iff.1 h').1).trans h'⟩)
  have HY := Lib.hid hys
  have HO := Lib.hid ho
  have HBE := Lib.hid hb
  obtain ⟨p, c, rfl⟩ := own_zero ho
  clear hys ho hb
  go_wp2_with fail
  refine (sortKeys_any Bt bp bd bl bm fro pages buffers clock w.heap.size M ys (.slice p ys.length c) w1 H1.out HB1.out HT1.out HC.out HY.out HO.out).mono ?_
  rintro e w2 ⟨⟨x, rfl⟩, zs, hz, ho2, hb2⟩
  have hl : ys.length = zs.length := by rw [HY.out.length_eq, hz.length_eq]
  rw [hl] at ho2
  have HZ := Lib.hid hz
  have HO2 := Lib.hid ho2
  have HB2 := Lib.hid (HBE.out.trans (hb2 w.heap.size HBE.out.size (Nat.le_refl _)))
  clear hz ho2 hb2
  go_wp2
  go_ret
  exact ⟨_, zs, rfl, HZ.out, HO2.out, HB2.out⟩

set_option maxRecDepth 20000 in
set_option maxHeartbeats 1000000 in
theorem order_any {N : Zone} (bp bd bl bm fro pages buffers clock : Nat) (M : List (Int × Buf)) (w : World) (h : PoolAt w N bp bd bl bm fro pages buffers clock M) (hc : clock < 4611686018427387904) :
    Calls Tryz.prog 261 #[.pointer (some ⟨bp, 0, none⟩)] w fun e w' => ∃ (v : Value) (zs : List Int), e = .returned v ∧ zs.Perm (M.map (·.1)) ∧ w'.ownsRow w.heap.size 3 1 v zs.length (zs.map (Value.int .i64)) ∧ Below w.heap.size w w' := by
  have hb1 : Below w.heap.size w (w.alloc (.cells #[.pointer (some ⟨bp, 0, none⟩)] 372)) := (Below.refl _ w).alloc (Nat.le_refl _) _
  have HB := Lib.hid hb1
  have HB2 : Hid (Below w.heap.size w ((w.alloc (.cells #[.pointer (some ⟨bp, 0, none⟩)] 372)).alloc (.cells #[.map (some bm)] 257))) := Lib.hid (hb1.alloc (by simp) _)
  have kb := keepC hb1 h.load.1
  have HK := Lib.hid kb
  have hlt := cell_lt h.load.1
  have hh2 : ((w.alloc (.cells #[.pointer (some ⟨bp, 0, none⟩)] 372)).alloc (.cells #[.map (some bm)] 257)).heap[w.heap.size]? = some (.cells #[.pointer (some ⟨bp, 0, none⟩)] 372 (0, 0)) :=
    (Below.heap_alloc _ _ _ (by simp)).trans (heap_alloc_new w _)
  have HT2 : Hid (Typed ((w.alloc (.cells #[.pointer (some ⟨bp, 0, none⟩)] 372)).alloc (.cells #[.map (some bm)] 257)) w.heap.size 372) := Lib.hid ⟨_, hh2⟩
  have HC2 : Hid (((w.alloc (.cells #[.pointer (some ⟨bp, 0, none⟩)] 372)).alloc (.cells #[.map (some bm)] 257)).cell? ⟨w.heap.size, 0, none⟩ = some (.pointer (some ⟨bp, 0, none⟩))) := Lib.hid (by simp [World.cell?, hh2])
  have H2 := Lib.hid (h.below HB2.out)
  have HC := Lib.hid hc
  clear h hb1 hh2 hc
  go_enter Tryz.func261, Tryz.ntmps261
  go_wp2_with fail
  refine (keys_any (some bm) _).mono ?_
  rintro e w1 ⟨rfl, rfl⟩
  go_wp2_with fail
  refine (sortedKeys_any (w.heap.size + 1) w.heap.size bp bd bl bm fro pages buffers clock M _ H2.out ?hm HC2.out HT2.out HC.out).mono ?_
  case hm =>
    have e := cellNew (w := w.alloc (.cells #[.pointer (some ⟨bp, 0, none⟩)] 372)) (cs := #[.map (some bm)]) (t := 257) (j := 0) (v := .map (some bm)) rfl
    rw [World.size_alloc] at e
    exact e
  rintro e w2 ⟨v, zs, rfl, hz, ho, hb⟩
  have HZ := Lib.hid hz
  have HO := Lib.hid (own_mono ho (base' := w.heap.size) (by simp; omega))
  have HB3 := Lib.hid (chainC HB2.out hb)
  obtain ⟨p, c, rfl⟩ := own_zero ho
  clear hz ho hb
  go_wp2
  go_ret
  exact ⟨_, zs, rfl, HZ.out, HO.out, HB3.out⟩
set_option maxRecDepth 20000 in
set_option maxHeartbeats 1000000 in
theorem held_any {N : Zone} (bp bd bl bm fro pages buffers clock : Nat) (M : List (Int × Buf)) (w : World) (h : PoolAt w N bp bd bl bm fro pages buffers clock M) (hc : clock < 4611686018427387904) :
    Calls Tryz.prog 216 #[.pointer (some ⟨bp, 0, none⟩)] w fun e w' => ∃ (v : Value) (zs : List Int), e = .returned v ∧ zs.Perm (M.map (·.1)) ∧ w'.ownsRow w.heap.size 3 1 v zs.length (zs.map (Value.int .i64)) ∧ Below w.heap.size w w' := by
  have H := Lib.hid h
  have HC := Lib.hid hc
  have k0 := h.load.1
  clear h hc
  go_enter Tryz.func216, Tryz.ntmps216
  go_wp2_with fail
  refine (order_any bp bd bl bm fro pages buffers clock M _ H.out HC.out).mono ?_
  rintro e w1 ⟨v, zs, rfl, hz, ho, hb⟩
  have HZ := Lib.hid hz
  have HO := Lib.hid ho
  have HB := Lib.hid hb
  obtain ⟨p, c, rfl⟩ := own_zero ho
  clear hz ho hb
  go_wp2
  go_ret
  exact ⟨_, zs, rfl, HZ.out, HO.out, HB.out⟩

/-- A place in a row of its own. -/
theorem own_at1 {w : World} {base n c : Nat} {e : TypeId} {p : Option Addr} {xs : List Value} (h : w.ownsRow base e 1 (.slice p n c) n xs) (hn : 0 < n) : ∃ g, p = some ⟨g, 0, none⟩ ∧ base ≤ g ∧ Typed w g e ∧ ∀ (j : Nat) (x : Value), xs[j]? = some x → w.cell? ⟨g, j, none⟩ = some x := by
  rcases h.2 with ⟨e', h0⟩ | ⟨g, cap, cur, e', hb, hg, h1, h2, h3, h4⟩
  · omega
  · cases e'
    refine ⟨g, rfl, hb, ⟨_, hg⟩, fun j x hx => ?_⟩
    have hl : xs.length = n * 1 := h.1
    have hj : j < n * 1 := by rw [← hl]; exact (List.getElem?_eq_some_iff.1 hx).1
    rw [← h4, List.getElem?_take_of_lt hj] at hx
    simp only [World.cell?, hg]
    simpa using hx

set_option maxRecDepth 20000 in
set_option maxHeartbeats 2000000 in
theorem victim_any {N : Zone} (bp bd bl bm fro pages buffers clock : Nat) (M : List (Int × Buf)) (w : World) (h : PoolAt w N bp bd bl bm fro pages buffers clock M) (hc : clock < 4611686018427387904) :
    Calls Tryz.prog 253 #[.pointer (some ⟨bp, 0, none⟩)] w fun e w' => ((∃ n b, e = .returned (.tuple #[.int .i64 n, .bool true]) ∧ (n, b) ∈ M ∧ b.pins = 0) ∨ (e = .returned (.tuple #[.int .i64 0, .bool false]) ∧ ∀ x ∈ M, x.2.pins ≠ 0)) ∧ Below w.heap.size w w' := by
  have H := Lib.hid h
  have HC := Lib.hid hc
  have k0 := h.load.1
  have hlt := cell_lt k0
  have HK := Lib.hid k0
  clear h hc
  go_enter Tryz.func253, Tryz.ntmps253
  go_wp2_with fail
  refine (order_any bp bd bl bm fro pages buffers clock M _ H.out HC.out).mono ?_
  rintro e w1 ⟨v, zs, rfl, hz, ho, hb⟩
  have HZ := Lib.hid hz
  have HO := Lib.hid ho
  have HB := Lib.hid hb
  have H1 := Lib.hid (H.out.below hb)
  have k01 := keepC hb k0
  have hsm : zs.length ≤ 100000 := by
    have h5 := hz.length_eq
    obtain ⟨_, _, _, _, _, h6, _⟩ := H.out.map
    simp [mapP] at h6 h5
    omega
  obtain ⟨p, c, rfl⟩ := own_zero ho
  obtain ⟨L, hL⟩ : ∃ L, L = zs.length := ⟨_, rfl⟩
  rw [← hL] at hsm ⊢
  have HL := Lib.hid hL
  clear hz ho hb hL
  go_wp2_with fail
  go_loopw [11] (fun i wr => ∃ k : Nat, k ≤ L ∧ i = .int .i64 k ∧ Hid (∀ j x b, j < k → zs[j]? = some x → (x, b) ∈ M → b.pins ≠ 0) ∧ wr = w1) (fun i _ => L - (intOf i).toNat)
  case atStart => exact ⟨0, by omega, rfl, Lib.hid (fun j x b hj => by omega), rfl⟩
  case round =>
    obtain ⟨k, hk, rfl, HP, rfl⟩ := hrel
    by_cases hkl : k < L
    · obtain ⟨x, hx⟩ : ∃ x, zs[k]? = some x := ⟨_, List.getElem?_eq_getElem (by rw [← HL.out]; exact hkl)⟩
      have hxm : x ∈ M.map (·.1) := HZ.out.mem_iff.1 (List.mem_of_getElem? hx)
      obtain ⟨⟨x', b⟩, hxb, hxe⟩ := List.mem_map.1 hxm
      obtain rfl : x' = x := hxe
      have ho' := HO.out
      rw [← HL.out] at ho'
      obtain ⟨g, rfl, -, -, hcell⟩ := own_at1 ho' (by omega)
      have hx2 : wr.cell? ⟨g, k, none⟩ = some (.int .i64 x') := hcell k _ (by simp [hx])
      have c3 := (H1.out.bufs _ hxb).cell.2.2.2.1
      have HLK : Hid (look (mapP M) x' = some (.pointer (some ⟨b.blk, 0, none⟩))) := Lib.hid (by rw [look_mapP, look_of_mem H1.out.nodup hxb]; rfl)
      have HX := Lib.hid hx
      have HXB := Lib.hid hxb
      clear hx hxm hxb hcell ho'
      by_cases hp : b.pins = 0
      · have hd : ((b.pins : Int) == 0) = true := by rw [beq_iff_eq]; omega
        have HPP := Lib.hid hp
        clear hp
        go_wp2_with (at_lookup; refine wpList_look (KK := intKeys) rfl _ _ 257 rfl 3 317 Tryz.underlying257 Tryz.underlying3 _ zbuf x' rfl rfl H1.out.map.is ?_; rw [HLK.out, Option.getD_some])
        go_returns
        exact ⟨.inl ⟨x', rfl, b, HXB.out, HPP.out⟩, HB.out⟩
      · have hd : ((b.pins : Int) == 0) = false := by rw [beq_eq_false_iff_ne]; omega
        have HPP := Lib.hid hp
        clear hp
        go_wp2_with (at_lookup; refine wpList_look (KK := intKeys) rfl _ _ 257 rfl 3 317 Tryz.underlying257 Tryz.underlying3 _ zbuf x' rfl rfl H1.out.map.is ?_; rw [HLK.out, Option.getD_some])
        go_roundw
        case rel => exact ⟨k + 1, by omega, by congr 1, Lib.hid (fun j y c hj hy hm => by
          rcases Nat.lt_or_ge j k with h' | h'
          · exact HP.out j y c h' hy hm
          · obtain rfl : j = k := by omega
            rw [HX.out] at hy
            cases hy
            rw [one_key H1.out.nodup hm HXB.out]
            exact HPP.out), by first | rfl | trivial⟩
        case measure => simp [intOf]; omega
    · obtain rfl : k = L := by omega
      go_wp2
      go_returns
      refine ⟨.inr ⟨rfl, fun x hx => ?_⟩, HB.out⟩
      have hm : x.1 ∈ zs := HZ.out.mem_iff.2 (List.mem_map.2 ⟨x, hx, rfl⟩)
      obtain ⟨j, hj⟩ := List.getElem?_of_mem hm
      exact HP.out j x.1 x.2 (by rw [HL.out]; exact (List.getElem?_eq_some_iff.1 hj).1) hj hx
end Go.Proofs.YtheeomjfpnijbaaGreatDoor
