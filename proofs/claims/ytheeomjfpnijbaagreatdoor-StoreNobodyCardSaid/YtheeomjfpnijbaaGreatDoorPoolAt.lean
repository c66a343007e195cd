/- A pool in memory: its map, its buffers; touch; the order's closure. -/
import Derived.Test.YtheeomjfpnijbaaGreatDoorPoolMap
namespace Go.Proofs.YtheeomjfpnijbaaGreatDoor
open Go.RowKit Go.Shelf
set_option linter.unusedVariables false

/-- A page that is held. -/
structure Buf where
  blk : Nat
  load : List UInt8
  lsn : Nat
  first : Nat
  pins : Nat
  used : Nat
def BufAt (w : World) (N : Zone) (b : Buf) : Prop :=
  ∃ v, w.heap[b.blk]? = some (.cells #[v, .int .i64 b.lsn, .int .i64 b.first, .int .i64 b.pins, .int .i64 b.used] 321 (0, 0)) ∧ Byt w N v b.load
structure BufOk (clock : Nat) (b : Buf) : Prop where
  load : b.load.length = 112
  lsn : b.lsn ≤ 4611686018427387904
  first : b.first ≤ 4611686018427387904
  pins : b.pins ≤ 100
  used : b.used ≤ clock
def mapP (M : List (Int × Buf)) : List (Int × Value) := M.map fun x => (x.1, .pointer (some ⟨x.2.blk, 0, none⟩))
structure PoolAt (w : World) (N : Zone) (bp bd bl bm fro pages buffers clock : Nat) (M : List (Int × Buf)) : Prop where
  cells : w.heap[bp]? = some (.cells #[.map (some bm), .int .i64 clock, .pointer (some ⟨bd, 0, none⟩), .pointer (some ⟨bl, 0, none⟩), .int .i64 fro, .int .i64 pages, .int .i64 buffers] 261 (0, 0))
  map : MapZ w bm (mapP M)
  bufs : ∀ x ∈ M, BufAt w N x.2
  apart : (M.map (·.2.blk)).Nodup
  low : N.B ≤ bp ∧ N.B ≤ bm ∧ ∀ x ∈ M, N.B ≤ x.2.blk
  nums : ∀ x ∈ M, BufOk clock x.2
  keys : ∀ x ∈ M, 0 ≤ x.1 ∧ x.1 < pages

section
variable {w w' : World} {N : Zone} {bp bd bl bm fro pages buffers clock : Nat} {M : List (Int × Buf)}
theorem BufAt.upd {T : Nat → Prop} {b : Buf} (h : BufAt w N b) (hu : Upd T w w') (h1 : ¬ T b.blk) (h2 : ∀ k, T k → Typed w k 5 → N k) : BufAt w' N b := by
  obtain ⟨v, hh, hb⟩ := h
  exact ⟨v, (hu.block _ (Array.getElem?_eq_some_iff.1 hh).1 h1).trans hh, hb.upd hu h2⟩
theorem BufAt.typed {b : Buf} (h : BufAt w N b) : Typed w b.blk 321 := by
  obtain ⟨v, hh, -⟩ := h
  exact ⟨_, hh⟩
theorem PoolAt.typed (h : PoolAt w N bp bd bl bm fro pages buffers clock M) : Typed w bp 261 := ⟨_, h.cells⟩
theorem MapZ.notTyped {b k : Nat} {m : List (Int × Value)} {t : TypeId} (h : MapZ w b m) (ht : Typed w k t) : k ≠ b := by
  rintro rfl
  obtain ⟨es, c, h1, -⟩ := h
  obtain ⟨cs, h2⟩ := ht
  rw [h1] at h2
  cases h2
theorem PoolAt.upd {T : Nat → Prop} (h : PoolAt w N bp bd bl bm fro pages buffers clock M) (hu : Upd T w w') (h1 : ∀ k, T k → N.B ≤ k → ¬ Typed w k 261 ∧ ¬ Typed w k 321 ∧ k ≠ bm) (h2 : ∀ k, T k → Typed w k 5 → N k) : PoolAt w' N bp bd bl bm fro pages buffers clock M where
  cells := (hu.block bp (Array.getElem?_eq_some_iff.1 h.cells).1 (fun ht => (h1 bp ht h.low.1).1 h.typed)).trans h.cells
  map := h.map.upd hu (fun ht => (h1 bm ht h.low.2.1).2.2 rfl)
  bufs := fun x hx => (h.bufs x hx).upd hu (fun ht => (h1 _ ht (h.low.2.2 x hx)).2.1 (h.bufs x hx).typed) h2
  apart := h.apart
  low := h.low
  nums := h.nums
  keys := h.keys
theorem PoolAt.below (h : PoolAt w N bp bd bl bm fro pages buffers clock M) (hb : Below w.heap.size w w') : PoolAt w' N bp bd bl bm fro pages buffers clock M :=
  h.upd (T := fun _ => False) (Upd.of_below' hb _) (fun k hk => hk.elim) (fun k hk => hk.elim)
theorem PoolAt.nodup (h : PoolAt w N bp bd bl bm fro pages buffers clock M) : (M.map (·.1)).Nodup := by
  have := h.map.nodup
  simpa [mapP, List.map_map, Function.comp_def] using this
theorem look_mapP (M : List (Int × Buf)) (k : Int) : look (mapP M) k = (look M k).map fun b => .pointer (some ⟨b.blk, 0, none⟩) := look_mapVZ (fun b : Buf => (Value.pointer (some ⟨b.blk, 0, none⟩))) M k
theorem PoolAt.load (h : PoolAt w N bp bd bl bm fro pages buffers clock M) :
    w.cell? ⟨bp, 0, none⟩ = some (.map (some bm)) ∧ w.cell? ⟨bp, 1, none⟩ = some (.int .i64 clock) ∧ w.cell? ⟨bp, 2, none⟩ = some (.pointer (some ⟨bd, 0, none⟩)) ∧ w.cell? ⟨bp, 3, none⟩ = some (.pointer (some ⟨bl, 0, none⟩)) ∧
    w.cell? ⟨bp, 4, none⟩ = some (.int .i64 fro) ∧ w.cell? ⟨bp, 5, none⟩ = some (.int .i64 pages) ∧ w.cell? ⟨bp, 6, none⟩ = some (.int .i64 buffers) := by
  refine ⟨?_, ?_, ?_, ?_, ?_, ?_, ?_⟩ <;> simp [World.cell?, h.cells]
theorem BufAt.cell {b : Buf} (h : BufAt w N b) : (∃ v, w.cell? ⟨b.blk, 0, none⟩ = some v ∧ Byt w N v b.load) ∧ w.cell? ⟨b.blk, 1, none⟩ = some (.int .i64 b.lsn) ∧ w.cell? ⟨b.blk, 2, none⟩ = some (.int .i64 b.first) ∧ w.cell? ⟨b.blk, 3, none⟩ = some (.int .i64 b.pins) ∧ w.cell? ⟨b.blk, 4, none⟩ = some (.int .i64 b.used) := by
  obtain ⟨v, hh, hb⟩ := h
  refine ⟨⟨v, ?_, hb⟩, ?_, ?_, ?_, ?_⟩ <;> simp [World.cell?, hh]

/-- One buffer is another one. -/
def setM (M : List (Int × Buf)) (n : Int) (b' : Buf) : List (Int × Buf) := M.map fun x => if x.1 = n then (n, b') else x
theorem setM_keys (M : List (Int × Buf)) (n : Int) (b' : Buf) : (setM M n b').map (·.1) = M.map (·.1) := by
  unfold setM
  rw [List.map_map]
  refine List.map_congr_left fun x _ => ?_
  simp only [Function.comp_apply]
  split
  · rename_i h; exact h.symm
  · rfl
theorem setM_length (M : List (Int × Buf)) (n : Int) (b' : Buf) : (setM M n b').length = M.length := by simp [setM]
theorem look_setM (M : List (Int × Buf)) (n j : Int) (b' : Buf) : look (setM M n b') j = (look M j).map fun x => if j = n then b' else x := by
  induction M with
  | nil => simp [setM, look]
  | cons x M ih =>
    show look ((if x.1 = n then (n, b') else x) :: setM M n b') j = _
    rw [look_cons, look_cons, ih]
    by_cases hn : x.1 = n
    · by_cases hj : x.1 = j
      · have : n = j := by rw [← hn, hj]
        simp [hn, this]
      · have : ¬ n = j := fun e => hj (by rw [hn, e])
        simp [hn, this]
    · by_cases hj : x.1 = j
      · have : ¬ j = n := fun e => hn (by rw [hj, e])
        simp [hj, this]
      · simp [hn, hj]
theorem mem_setM {n : Int} {b' : Buf} {x : Int × Buf} (h : x ∈ setM M n b') : x = (n, b') ∨ (x ∈ M ∧ x.1 ≠ n) := by
  unfold setM at h
  obtain ⟨y, hy, rfl⟩ := List.mem_map.1 h
  by_cases hn : y.1 = n
  · simp [hn]
  · simp [hn, hy]
theorem one_key (hn : (M.map (·.1)).Nodup) {n : Int} {b c : Buf} (h1 : (n, b) ∈ M) (h2 : (n, c) ∈ M) : b = c := by
  have e1 := look_of_mem hn h1
  have e2 := look_of_mem hn h2
  rw [e1] at e2
  exact Option.some.inj e2
theorem setM_map {γ : Type} (f : Buf → γ) (hn : (M.map (·.1)).Nodup) {n : Int} {b b' : Buf} (hm : (n, b) ∈ M) (hb : f b' = f b) : (setM M n b').map (fun x => (x.1, f x.2)) = M.map fun x => (x.1, f x.2) := by
  unfold setM
  rw [List.map_map]
  refine List.map_congr_left fun x hx => ?_
  simp only [Function.comp_apply]
  split
  · rename_i h
    have : x.2 = b := one_key hn (n := n) (by rw [← h]; exact hx) hm
    rw [this, hb, h]
  · rfl
theorem PoolAt.turn {clock' : Nat} (h : PoolAt w N bp bd bl bm fro pages buffers clock M) {n : Int} {b b' : Buf} (hm : (n, b) ∈ M) (hu : Upd (fun k => k = bp ∨ k = b.blk) w w') (hk : b'.blk = b.blk) (hb : BufAt w' N b') (ho : BufOk clock' b') (hc : clock ≤ clock')
    (hp : w'.heap[bp]? = some (.cells #[.map (some bm), .int .i64 clock', .pointer (some ⟨bd, 0, none⟩), .pointer (some ⟨bl, 0, none⟩), .int .i64 fro, .int .i64 pages, .int .i64 buffers] 261 (0, 0))) : PoolAt w' N bp bd bl bm fro pages buffers clock' (setM M n b') := by
  have hT : ∀ k t, (k = bp ∨ k = b.blk) → Typed w k t → t = 261 ∨ t = 321 := fun k t hk ht => by
    rcases hk with rfl | rfl
    · exact .inl (ht.one h.typed)
    · exact .inr (ht.one (h.bufs _ hm).typed)
  have h2 : ∀ k, (k = bp ∨ k = b.blk) → Typed w k 5 → N k := fun k hk ht => by rcases hT k _ hk ht with e | e <;> exact absurd e (by decide)
  have hnd := h.nodup
  refine ⟨hp, ?_, ?_, ?_, ⟨h.low.1, h.low.2.1, ?_⟩, ?_, ?_⟩
  · unfold mapP
    rw [setM_map (fun b : Buf => (Value.pointer (some ⟨b.blk, 0, none⟩))) hnd hm (by simp only [hk])]
    exact h.map.upd hu (fun e => by
      rcases e with e | e
      · exact h.map.notTyped h.typed e.symm
      · exact h.map.notTyped (h.bufs _ hm).typed e.symm)
  · intro x hx
    rcases mem_setM hx with rfl | ⟨hx, hne⟩
    · exact hb
    · refine (h.bufs x hx).upd hu (fun e => ?_) h2
      rcases e with e | e
      · have := (h.bufs x hx).typed.one (e ▸ h.typed)
        exact absurd this (by decide)
      · have hp := h.apart
        have : ∀ (l : List (Int × Buf)), (l.map (·.2.blk)).Nodup → x ∈ l → (n, b) ∈ l → x = (n, b) := by
          intro l
          induction l with
          | nil => intro _ hx; cases hx
          | cons y l ih =>
            intro hnd hx hm
            rw [List.map_cons, List.nodup_cons] at hnd
            rcases List.mem_cons.1 hx with h1 | h1
            · rcases List.mem_cons.1 hm with h3 | h3
              · rw [h1, h3]
              · exact absurd (List.mem_map.2 ⟨(n, b), h3, by rw [← h1]; exact e.symm⟩) hnd.1
            · rcases List.mem_cons.1 hm with h3 | h3
              · exact absurd (List.mem_map.2 ⟨x, h1, by rw [← h3]; exact e⟩) hnd.1
              · exact ih hnd.2 h1 h3
        have := this M hp hx hm
        exact hne (by rw [this])
  · have e1 := congrArg (List.map Prod.snd) (setM_map (fun b : Buf => b.blk) hnd hm hk)
    simp only [List.map_map, Function.comp_def] at e1
    rw [e1]
    exact h.apart
  · intro x hx
    rcases mem_setM hx with rfl | ⟨hx, -⟩
    · rw [hk]; exact h.low.2.2 _ hm
    · exact h.low.2.2 x hx
  · intro x hx
    rcases mem_setM hx with rfl | ⟨hx, -⟩
    · exact ho
    · have := h.nums x hx
      exact ⟨this.load, this.lsn, this.first, this.pins, Nat.le_trans this.used hc⟩
  · intro x hx
    rcases mem_setM hx with rfl | ⟨hx, -⟩
    · exact h.keys (n, b) hm
    · exact h.keys x hx
end

theorem clockK {k : Nat} (h : k < 4611686018427387904) : wrap64 ((k : Int) + 1) = ((k + 1 : Nat) : Int) := by
  unfold wrap64
  omega
set_option maxRecDepth 20000 in
set_option maxHeartbeats 400000 in
theorem touch_any {N : Zone} (bp bd bl bm fro pages buffers clock : Nat) (M : List (Int × Buf)) (n : Int) (b : Buf) (w : World) (h : PoolAt w N bp bd bl bm fro pages buffers clock M) (hm : (n, b) ∈ M) (hc : clock < 4611686018427387904) :
    Calls Tryz.prog 252 #[.pointer (some ⟨bp, 0, none⟩), .pointer (some ⟨b.blk, 0, none⟩)] w fun e w' => (∃ v, e = .returned v) ∧ PoolAt w' N bp bd bl bm fro pages buffers (clock + 1) (setM M n { b with used := clock + 1 }) ∧ Upd (fun k => k = bp ∨ k = b.blk) w w' := by
  have H := Lib.hid h
  have HM := Lib.hid hm
  obtain ⟨-, k1, -⟩ := h.load
  have f1 := frozenC (i := 1) h.cells
  obtain ⟨v, hbh, hby⟩ := h.bufs _ hm
  have hne : b.blk ≠ bp := fun e => by
    have := (h.bufs _ hm).typed.one (e ▸ h.typed)
    exact absurd this (by decide)
  have hne' : ¬ bp = b.blk := fun e => hne e.symm
  have hlt := cell_lt k1
  have hlb : b.blk < w.heap.size := (Array.getElem?_eq_some_iff.1 hbh).1
  have HBH := Lib.hid hbh
  have HBY := Lib.hid hby
  have k4 : (w.setCell ⟨bp, 1, none⟩ (.int .i64 (clock + 1 : Nat))).cell? ⟨b.blk, 4, none⟩ = some (.int .i64 b.used) := by
    have := (heap_setCell_other w ⟨bp, 1, none⟩ b.blk (.int .i64 (clock + 1 : Nat)) hne).trans hbh
    simp only [World.cell?, this]
    rfl
  have f4 : (w.setCell ⟨bp, 1, none⟩ (.int .i64 (clock + 1 : Nat))).frozen? ⟨b.blk, 4, none⟩ = false := frozenC ((heap_setCell_other w ⟨bp, 1, none⟩ b.blk (.int .i64 (clock + 1 : Nat)) hne).trans hbh)
  have k1' : (w.setCell ⟨bp, 1, none⟩ (.int .i64 (clock + 1 : Nat))).cell? ⟨bp, 1, none⟩ = some (.int .i64 (clock + 1 : Nat)) := World.cell?_setCell_same _ _ _ k1
  have hw := clockK hc
  have HC := Lib.hid hc
  generalize hCC : clock + 1 = C at *
  have HCC := Lib.hid hCC
  clear h hm hbh hby hc hCC
  go_enter Tryz.func252, Tryz.ntmps252
  go_wp2
  go_end0
  refine ⟨⟨_, rfl⟩, ?_, ?_⟩
  · have hU : Upd (fun k => k = bp ∨ k = b.blk) w ((w.setCell ⟨bp, 1, none⟩ (.int .i64 C)).setCell ⟨b.blk, 4, none⟩ (.int .i64 C)) :=
      ((Upd.setC w bp 1 _).mono (T := fun k => k = bp ∨ k = b.blk) (fun k _ hk => .inl hk)).trans' (Upd.setC _ b.blk 4 _) (fun j _ hj => .inr hj)
    have hbb : ((w.setCell ⟨bp, 1, none⟩ (.int .i64 C)).setCell ⟨b.blk, 4, none⟩ (.int .i64 C)).heap[b.blk]? = some (.cells #[v, .int .i64 b.lsn, .int .i64 b.first, .int .i64 b.pins, .int .i64 C] 321 (0, 0)) := by
      rw [heap_setCell_same _ b.blk 4 _ _ _ ((heap_setCell_other w ⟨bp, 1, none⟩ b.blk _ hne).trans HBH.out)]
      rfl
    refine H.out.turn HM.out hU rfl ⟨v, hbb, HBY.out.upd hU ?_⟩ ?_ (by have := HCC.out; omega) ?_
    · intro k hk ht
      rcases hk with rfl | rfl
      · exact absurd (ht.one H.out.typed) (by decide)
      · exact absurd (ht.one ⟨_, HBH.out⟩) (by decide)
    · have := H.out.nums _ HM.out
      exact ⟨this.load, this.lsn, this.first, this.pins, Nat.le_refl _⟩
    · rw [heap_setCell_other _ ⟨b.blk, 4, none⟩ bp _ hne', heap_setCell_same w bp 1 _ _ _ H.out.cells]
      rfl
  · exact ((Upd.setC w bp 1 _).mono (T := fun k => k = bp ∨ k = b.blk) (fun k _ hk => .inl hk)).trans' (Upd.setC _ b.blk 4 _) (fun j _ hj => .inr hj)
end Go.Proofs.YtheeomjfpnijbaaGreatDoor
