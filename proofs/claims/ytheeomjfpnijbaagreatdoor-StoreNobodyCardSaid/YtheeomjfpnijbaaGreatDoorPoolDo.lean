/- The calls that the laws of layer 5 are given. -/
import Derived.Test.YtheeomjfpnijbaaGreatDoorBase
namespace Go.Proofs.YtheeomjfpnijbaaGreatDoor
open Go.RowKit
set_option linter.unusedVariables false

/-- A call of the laws of layer 5. -/
structure Do where
  op : Int
  n : Int
  lsn : Int
  p : Option Addr
  m : Nat
  c : Nat
  xs : List UInt8
def doCells (d : Do) : List Value := [.int .i64 d.op, .int .i64 d.n, .int .i64 d.lsn, .slice d.p d.m d.c]
structure DoOk (w : World) (d : Do) : Prop where
  rd : Rd w d.p d.xs
  len : d.xs.length = d.m
  cap : d.m ≤ d.c ∧ d.c ≤ maxLen
theorem do_cells {w : World} {p : Option Addr} {ds : List Do} (h : Cells w p (ds.flatMap doCells)) {k : Nat} {d : Do} (hk : ds[k]? = some d) :
    ∃ b o, p = some ⟨b, o, none⟩ ∧ w.cell? ⟨b, o + k * 4, none⟩ = some (.int .i64 d.op) ∧ w.cell? ⟨b, o + k * 4 + 1, none⟩ = some (.int .i64 d.n) ∧ w.cell? ⟨b, o + k * 4 + 2, none⟩ = some (.int .i64 d.lsn) ∧ w.cell? ⟨b, o + k * 4 + 3, none⟩ = some (.slice d.p d.m d.c) := by
  have hg : ∀ (ds : List Do) (k j : Nat) (d : Do) (v : Value), ds[k]? = some d → (doCells d)[j]? = some v → (ds.flatMap doCells)[k * 4 + j]? = some v := by
    intro ds
    induction ds with
    | nil => intro k j d v h; simp at h
    | cons x ds ih =>
      intro k j d v h hv
      have hj : j < 4 := by have := (List.getElem?_eq_some_iff.1 hv).1; simpa [doCells] using this
      rw [List.flatMap_cons]
      cases k with
      | zero =>
        simp only [List.getElem?_cons_zero, Option.some.injEq] at h
        subst h
        rw [List.getElem?_append_left (by simp [doCells]; omega), Nat.zero_mul, Nat.zero_add]
        exact hv
      | succ k =>
        rw [List.getElem?_append_right (by simp [doCells]; omega), show (k + 1) * 4 + j - (doCells x).length = k * 4 + j by simp [doCells]; omega]
        exact ih k j d v (by simpa using h) hv
  obtain ⟨b, o, hp, hc⟩ := h (fun e => by
    have := hg ds k 0 d _ hk rfl
    rw [e] at this
    simp at this)
  refine ⟨b, o, hp, ?_, ?_, ?_, ?_⟩
  · exact hc (k * 4) _ (hg ds k 0 d _ hk rfl)
  · exact hc (k * 4 + 1) _ (hg ds k 1 d _ hk rfl)
  · exact hc (k * 4 + 2) _ (hg ds k 2 d _ hk rfl)
  · exact hc (k * 4 + 3) _ (hg ds k 3 d _ hk rfl)
theorem umod (b : Int) (k : Nat) (hk : 0 < k) : ∃ R : Nat, R < k ∧ (IntKind.u64.wrap b).tmod (k : Int) = (R : Int) := by
  have h0 : 0 ≤ IntKind.u64.wrap b := by simp [IntKind.wrap, IntKind.bits, IntKind.signed]; omega
  rw [Int.tmod_eq_emod_of_nonneg h0]
  have h1 := Int.emod_nonneg (IntKind.u64.wrap b) (show (k : Int) ≠ 0 by omega)
  have h2 := Int.emod_lt_of_pos (IntKind.u64.wrap b) (show (0 : Int) < k by omega)
  exact ⟨((IntKind.u64.wrap b) % (k : Int)).toNat, by omega, by omega⟩
end Go.Proofs.YtheeomjfpnijbaaGreatDoor
