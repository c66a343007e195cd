/- Keys, and the changes of a count, a reply, a root: session's and the document's. -/
import Derived.Test.YtefalhnllkkkhaaDoorRefReply
import Derived.Test.YtefalhnllkkkhaaDoorPageTurned
import Derived.Test.YtefalhnllkkkhaaDoorShelf
import Derived.Handy
import Derived.Deep.RegionHeld
namespace Go.Proofs.YtefalhnllkkkhaaDoor
open Go.RowKit
set_option linter.unusedVariables false

/-- Texts, one behind the other. -/
def catB (xs : List ByteArray) : ByteArray := ⟨(xs.map (·.data.toList)).flatten.toArray⟩
theorem join_cat (xs : List ByteArray) : (⟨(Lib.join (xs.map (·.data.toList)) (⟨#[]⟩ : ByteArray).data.toList).toArray⟩ : ByteArray) = catB xs := by
  unfold catB
  congr 2
  rcases xs with _ | ⟨x, xs⟩
  · rfl
  · rw [List.map_cons, Lib.join_cons, List.flatten_cons]
    congr 1
    simp [Lib.joinTail]
    rfl

set_option maxHeartbeats 400000 in
theorem key_any (bk o c : Nat) (xs : List ByteArray) (n : Nat) (w : World) (hn : xs.length = n) (hcells : ∀ (j : Nat) x, xs[j]? = some x → w.cell? ⟨bk, o + j, none⟩ = some (.string x)) (hbk : bk < w.heap.size) (hN : n ≤ 1000) (hcap : n ≤ c)
    (hlen : ((xs.map (·.data.toList)).flatten).length ≤ 140737488355328) :
    Calls Tryd.prog 41 #[.slice (some ⟨bk, o, none⟩) n c] w fun e w' => e = .returned (.string (catB xs)) ∧ Below w.heap.size w w' := by
  subst hn
  have hj := join_cat xs
  have hl : (Lib.join (xs.map (·.data.toList)) (⟨#[]⟩ : ByteArray).data.toList).length ≤ 140737488355328 := by
    have := congrArg (·.data.toList.length) hj
    simp only [catB, List.toList_toArray] at this
    exact Nat.le_trans (Nat.le_of_eq this) hlen
  have H := Lib.hid hl
  have HJ := Lib.hid hj
  have HC := Lib.hid hcells
  have HN := Lib.hid hN
  have HCap := Lib.hid hcap
  clear hl hj hlen hcells hN hcap
  go_enter Tryd.func41, Tryd.ntmps41
  go_wp2_with fail
  refine (Tryd.strings_Join bk o c xs ⟨#[]⟩ _ HC.out hbk (by have := HN.out; omega) HCap.out H.out).mono ?_
  rintro e w1 ⟨rfl, hb⟩
  rw [HJ.out]
  go_wp2
  go_ret
  exact ⟨rfl, hb⟩

theorem block_after {w w1 : World} {o : Obj} (hb : Below (w.alloc o).heap.size (w.alloc o) w1) : w1.heap[w.heap.size]? = some o :=
  (hb.block w.heap.size (by simp)).trans (heap_alloc_new w o)

/-- A change that keeps bytes under a key. -/
def ChQ (K : ByteArray) (xs : List UInt8) (E : Int) (w w' : World) (e : Ending) : Prop :=
  ∃ p n c, e = .returned (.tuple #[.agg #[.string K, .slice p n c, .bool false], .int .i64 E]) ∧ xs.length = n ∧ Rd w' p xs ∧ Below w.heap.size w w'
/-- The same, the bytes in a row of the call's own. -/
def ChO (K : ByteArray) (xs : List UInt8) (E : Int) (w w' : World) (e : Ending) : Prop :=
  ∃ p n c, e = .returned (.tuple #[.agg #[.string K, .slice p n c, .bool false], .int .i64 E]) ∧ xs.length = n ∧ w'.ownsRow w.heap.size 5 1 (.slice p n c) n (B8s xs) ∧ Below w.heap.size w w'
theorem ChO.ch {K : ByteArray} {xs : List UInt8} {E : Int} {w w' : World} {e : Ending} (h : ChO K xs E w w' e) : ChQ K xs E w w' e := by
  obtain ⟨p, n, c, he, hn, ho, hb⟩ := h
  obtain ⟨p', c', e', hr, _⟩ := own_rd ho
  cases e'
  exact ⟨p, n, c, he, hn, hr, hb⟩

theorem Rd.setOther {w : World} {p : Option Addr} {xs : List UInt8} (h : Rd w p xs) (a : Addr) (v : Value) (hp : ∀ b o s, p = some ⟨b, o, s⟩ → b ≠ a.block) : Rd (w.setCell a v) p xs := fun hne => by
  obtain ⟨b, o, rfl, hc⟩ := h hne
  exact ⟨b, o, rfl, fun i u hu => by rw [World.cell?_setCell_far w a ⟨b, o + i, none⟩ v (fun e => hp b o none rfl e.symm)]; exact hc i u hu⟩
theorem own_setOther {w : World} {base n : Nat} {v : Value} {xs : List Value} {e : TypeId} {size : Nat} (h : w.ownsRow base e size v n xs) {a : Addr} (ha : a.block < base) (u : Value) : (w.setCell a u).ownsRow base e size v n xs := ownsRow_setCell_below h ha u
theorem ch_end {w w1 : World} {xs : List UInt8} {p : Option Addr} (g : Nat) (K : ByteArray) (n c : Nat) (hb : Below w.heap.size w w1) (hg : w.heap.size ≤ g) (hr : Rd w1 p xs) (hne : ∀ b o s, p = some ⟨b, o, s⟩ → b ≠ g) :
    Rd (((w1.setCell ⟨g, 0, none⟩ (.string K)).setCell ⟨g, 1, none⟩ (.slice p n c)).setCell ⟨g, 2, none⟩ (.bool false)) p xs ∧
    Below w.heap.size w (((w1.setCell ⟨g, 0, none⟩ (.string K)).setCell ⟨g, 1, none⟩ (.slice p n c)).setCell ⟨g, 2, none⟩ (.bool false)) := by
  exact ⟨((hr.setOther _ _ hne).setOther _ _ hne).setOther _ _ hne, ((hb.setCell (p := ⟨g, 0, none⟩) hg _).setCell (p := ⟨g, 1, none⟩) hg _).setCell (p := ⟨g, 2, none⟩) hg _⟩
theorem ch_own {w1 : World} {base n : Nat} {v : Value} {xs : List Value} (g : Nat) (K : ByteArray) (sl : Value) (h : w1.ownsRow base 5 1 v n xs) (hg : g < base) :
    (((w1.setCell ⟨g, 0, none⟩ (.string K)).setCell ⟨g, 1, none⟩ sl).setCell ⟨g, 2, none⟩ (.bool false)).ownsRow base 5 1 v n xs :=
  own_setOther (own_setOther (own_setOther h (a := ⟨g, 0, none⟩) hg _) (a := ⟨g, 1, none⟩) hg _) (a := ⟨g, 2, none⟩) hg _

def chW (w1 : World) (g : Nat) (K : ByteArray) (sl : Value) : World := ((w1.setCell ⟨g, 0, none⟩ (.string K)).setCell ⟨g, 1, none⟩ sl).setCell ⟨g, 2, none⟩ (.bool false)
theorem ch_cells {w1 : World} {g : Nat} {v0 v1 v2 : Value} (K : ByteArray) (sl : Value) (k0 : w1.cell? ⟨g, 0, none⟩ = some v0) (k1 : w1.cell? ⟨g, 1, none⟩ = some v1) (k2 : w1.cell? ⟨g, 2, none⟩ = some v2) :
    (chW w1 g K sl).cell? ⟨g, 0, none⟩ = some (.string K) ∧ (chW w1 g K sl).cell? ⟨g, 1, none⟩ = some sl ∧ (chW w1 g K sl).cell? ⟨g, 2, none⟩ = some (.bool false) := by
  have o : ∀ (w : World) (i j : Nat) (v : Value), i ≠ j → (w.setCell ⟨g, i, none⟩ v).cell? ⟨g, j, none⟩ = w.cell? ⟨g, j, none⟩ := fun w i j v h => World.cell?_setCell_other _ _ _ _ (fun e => h (by cases e; rfl))
  have s : ∀ (w : World) (i : Nat) (v u : Value), w.cell? ⟨g, i, none⟩ = some u → (w.setCell ⟨g, i, none⟩ v).cell? ⟨g, i, none⟩ = some v := fun w i v u h => World.cell?_setCell_same' _ _ _ (by rw [h]; rfl)
  unfold chW
  refine ⟨?_, ?_, s _ 2 _ v2 (by rw [o _ 1 2 _ (by decide), o _ 0 2 _ (by decide)]; exact k2)⟩
  · rw [o _ 2 0 _ (by decide), o _ 1 0 _ (by decide)]
    exact s _ 0 _ v0 k0
  · rw [o _ 2 1 _ (by decide)]
    exact s _ 1 _ v1 (by rw [o _ 0 1 _ (by decide)]; exact k1)

def countK (n : Int) : ByteArray := if 1 ≤ n ∧ n ≤ 10000 then ⟨#[110]⟩ else ⟨#[]⟩
def countB (n : Int) : List UInt8 := if 1 ≤ n ∧ n ≤ 10000 then varN n.toNat else []
def countE (n : Int) : Int := if 1 ≤ n ∧ n ≤ 10000 then 0 else 1

set_option maxHeartbeats 400000 in
theorem count_any (n : Int) (w : World) :
    Calls Tryd.prog 15 #[.int .i64 n] w fun e w' => ChQ (countK n) (countB n) (countE n) w w' e := by
  by_cases h : 1 ≤ n ∧ n ≤ 10000
  · have e1 : Hid (countK n = ⟨#[110]⟩) := Lib.hid (if_pos h)
    have e2 : Hid (countB n = varN n.toNat) := Lib.hid (if_pos h)
    have e3 : Hid (countE n = 0) := Lib.hid (if_pos h)
    obtain ⟨h1, h2⟩ := h
    obtain ⟨m, rfl⟩ : ∃ m : Nat, n = m := ⟨n.toNat, by omega⟩
    go_enter Tryd.func15, Tryd.ntmps15
    go_wp2_with fail
    refine (put_any none 0 0 [] m _ rfl (by omega) (by omega) (Rd.nil _ _)).mono ?_
    rintro e w1 ⟨v1, rfl, hown, hb⟩
    obtain ⟨p1, c1, rfl, hr1, hx1, _, hp1⟩ := own_rd hown
    have HR := Lib.hid hr1
    have HP1 : Hid (∀ b o s, p1 = some ⟨b, o, s⟩ → w.heap.size < b) := Lib.hid (fun b o s h => by have := (hp1 b o s h).1; simp at this; omega)
    have hlt : w.heap.size < w1.heap.size := size_after hb
    have k0 : w1.cell? ⟨w.heap.size, 0, none⟩ = some (.string ⟨#[]⟩) := cell_after hb rfl
    have k1 : w1.cell? ⟨w.heap.size, 1, none⟩ = some (.slice none 0 0) := cell_after hb rfl
    have k2 : w1.cell? ⟨w.heap.size, 2, none⟩ = some (.bool false) := cell_after hb rfl
    have f0 : w1.frozen? ⟨w.heap.size, 0, none⟩ = false := frozen_of (block_after hb)
    have f1 : w1.frozen? ⟨w.heap.size, 1, none⟩ = false := frozen_of (block_after hb)
    have f2 : w1.frozen? ⟨w.heap.size, 2, none⟩ = false := frozen_of (block_after hb)
    have hb01 : Below w.heap.size w w1 := ((Below.refl _ w).alloc (Nat.le_refl _) _).trans (hb.mono (by simp))
    clear hown hr1 hx1 hb hp1
    go_wp2
    obtain ⟨q0, q1, q2⟩ := ch_cells ⟨#[110]⟩ (.slice p1 (varN m).length c1) k0 k1 k2
    unfold chW at q0 q1 q2
    refine bodyPost_ret (v := .tuple #[.agg #[.string ⟨#[110]⟩, .slice p1 (varN m).length c1, .bool false], .int .i64 0]) (by simp [results, Tryd.results15, go_sem, q0, q1, q2]) rfl ?_
    obtain ⟨hr2, hb2⟩ := ch_end (xs := varN m) w.heap.size ⟨#[110]⟩ (varN m).length c1 hb01 (Nat.le_refl _) HR.out (fun b o s h => by have := HP1.out b o s h; omega)
    exact ⟨p1, _, c1, by rw [e1.out, e3.out], by rw [e2.out]; rfl, by rw [e2.out]; exact hr2, hb2⟩
  · have e1 : Hid (countK n = ⟨#[]⟩) := Lib.hid (if_neg h)
    have e2 : Hid (countB n = []) := Lib.hid (if_neg h)
    have e3 : Hid (countE n = 1) := Lib.hid (if_neg h)
    have h0 : n < 1 ∨ 10000 < n := by omega
    rcases h0 with h0 | h0
    · clear h
      go_enter Tryd.func15, Tryd.ntmps15
      go_wp2
      go_returns
      exact ⟨none, 0, 0, by rw [e1.out, e3.out], by rw [e2.out]; rfl, by rw [e2.out]; exact Rd.nil _ _, (Below.refl _ w).alloc (Nat.le_refl _) _⟩
    · clear h
      go_enter Tryd.func15, Tryd.ntmps15
      go_wp2
      go_returns
      exact ⟨none, 0, 0, by rw [e1.out, e3.out], by rw [e2.out]; rfl, by rw [e2.out]; exact Rd.nil _ _, (Below.refl _ w).alloc (Nat.le_refl _) _⟩
set_option maxHeartbeats 400000 in
theorem refcount_any (n : Int) (w : World) :
    Calls Tryd.prog 16 #[.int .i64 n] w fun e w' => ChQ (countK n) (countB n) (countE n) w w' e := by
  by_cases h : 1 ≤ n ∧ n ≤ 10000
  · have e1 : Hid (countK n = ⟨#[110]⟩) := Lib.hid (if_pos h)
    have e2 : Hid (countB n = varN n.toNat) := Lib.hid (if_pos h)
    have e3 : Hid (countE n = 0) := Lib.hid (if_pos h)
    obtain ⟨h1, h2⟩ := h
    obtain ⟨m, rfl⟩ : ∃ m : Nat, n = m := ⟨n.toNat, by omega⟩
    go_enter Tryd.func16, Tryd.ntmps16
    go_wp2_with fail
    refine (refput_any none 0 0 [] m _ rfl (by omega) (by omega) (Rd.nil _ _)).mono ?_
    rintro e w1 ⟨v1, rfl, hown, hb⟩
    obtain ⟨p1, c1, rfl, hr1, hx1, _, hp1⟩ := own_rd hown
    have HR := Lib.hid hr1
    have HP1 : Hid (∀ b o s, p1 = some ⟨b, o, s⟩ → w.heap.size < b) := Lib.hid (fun b o s h => by have := (hp1 b o s h).1; simp at this; omega)
    have hlt : w.heap.size < w1.heap.size := size_after hb
    have k0 : w1.cell? ⟨w.heap.size, 0, none⟩ = some (.string ⟨#[]⟩) := cell_after hb rfl
    have k1 : w1.cell? ⟨w.heap.size, 1, none⟩ = some (.slice none 0 0) := cell_after hb rfl
    have k2 : w1.cell? ⟨w.heap.size, 2, none⟩ = some (.bool false) := cell_after hb rfl
    have f0 : w1.frozen? ⟨w.heap.size, 0, none⟩ = false := frozen_of (block_after hb)
    have f1 : w1.frozen? ⟨w.heap.size, 1, none⟩ = false := frozen_of (block_after hb)
    have f2 : w1.frozen? ⟨w.heap.size, 2, none⟩ = false := frozen_of (block_after hb)
    have hb01 : Below w.heap.size w w1 := ((Below.refl _ w).alloc (Nat.le_refl _) _).trans (hb.mono (by simp))
    clear hown hr1 hx1 hb hp1
    go_wp2
    obtain ⟨q0, q1, q2⟩ := ch_cells ⟨#[110]⟩ (.slice p1 (varN m).length c1) k0 k1 k2
    unfold chW at q0 q1 q2
    refine bodyPost_ret (v := .tuple #[.agg #[.string ⟨#[110]⟩, .slice p1 (varN m).length c1, .bool false], .int .i64 0]) (by simp [results, Tryd.results16, go_sem, q0, q1, q2]) rfl ?_
    obtain ⟨hr2, hb2⟩ := ch_end (xs := varN m) w.heap.size ⟨#[110]⟩ (varN m).length c1 hb01 (Nat.le_refl _) HR.out (fun b o s h => by have := HP1.out b o s h; omega)
    exact ⟨p1, _, c1, by rw [e1.out, e3.out], by rw [e2.out]; rfl, by rw [e2.out]; exact hr2, hb2⟩
  · have e1 : Hid (countK n = ⟨#[]⟩) := Lib.hid (if_neg h)
    have e2 : Hid (countB n = []) := Lib.hid (if_neg h)
    have e3 : Hid (countE n = 1) := Lib.hid (if_neg h)
    have h0 : n < 1 ∨ 10000 < n := by omega
    rcases h0 with h0 | h0
    · clear h
      go_enter Tryd.func16, Tryd.ntmps16
      go_wp2
      go_returns
      exact ⟨none, 0, 0, by rw [e1.out, e3.out], by rw [e2.out]; rfl, by rw [e2.out]; exact Rd.nil _ _, (Below.refl _ w).alloc (Nat.le_refl _) _⟩
    · clear h
      go_enter Tryd.func16, Tryd.ntmps16
      go_wp2
      go_returns
      exact ⟨none, 0, 0, by rw [e1.out, e3.out], by rw [e2.out]; rfl, by rw [e2.out]; exact Rd.nil _ _, (Below.refl _ w).alloc (Nat.le_refl _) _⟩
end Go.Proofs.YtefalhnllkkkhaaDoor
