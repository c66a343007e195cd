/- Part of a slice of bytes, as one step of a walk. -/
import Derived.Test.YtefalhnllkkkhaaDoorPack
namespace Go.Proofs.YtefalhnllkkkhaaDoor
open Go.RowKit
set_option linter.unusedVariables false

theorem Rd.sliced {w : World} {p : Option Addr} {xs : List UInt8} (h : Rd w p xs) (a1 a2 c : Nat) (hc : xs.length ≤ c) (h2 : a2 ≤ xs.length) : Rd w (if c = a1 then p else p.map (·.add (a1 * 1))) ((xs.drop a1).take (a2 - a1)) := by
  by_cases h0 : a1 < a2
  · rw [if_neg (by omega)]
    obtain ⟨b, o, rfl, -⟩ := h.at (by omega)
    have := h.sub a1 (a2 - a1)
    by_cases h1 : a1 = 0
    · subst h1; simpa [Addr.add] using this
    · simpa [Addr.add, h1] using this
  · rw [show a2 - a1 = 0 from by omega, List.take_zero]
    exact Rd.nil _ _
theorem elemS : Tryd.prog.elem 22 = 5 := by kernel_rfl
theorem undS : Tryd.prog.underlying 22 = some (.slice (Tryd.prog.elem 22)) := by rw [elemS]; exact Tryd.underlying22
theorem run_sz8 (w : World) : (sizeOf (Tryd.prog.elem 22)).run Tryd.prog w = .ok 1 w := by rw [elemS]; exact Tryd.sizeOf5 w
theorem wp_cut {ops : Array Oper} {rest : List Oper} {o : Oper} {a : Act} {Q : Exit → Act → World → Prop} {W : World} (hgd : o.guard = none) (x lo hi : Operand)
    (ho : o.op = .slice 22 x (some lo) (some hi) none) (p : Option Addr) (n c a1 a2 : Nat) (xs : List UInt8)
    (hx : a.eval x = .slice p n c) (hlo : a.eval lo = .int .i64 a1) (hhi : a.eval hi = .int .i64 a2) (h12 : a1 ≤ a2) (h2n : a2 ≤ n) (hnc : n ≤ c) (hxs : xs.length = n) (hr : Rd W p xs)
    (h : ∀ q d, Rd W q ((xs.drop a1).take (a2 - a1)) → a2 - a1 ≤ d → d ≤ c → wpList Tryd.prog ops Q rest (a.put o.dst (.slice q (a2 - a1) d)) W) :
    wpList Tryd.prog ops Q (o :: rest) a W := by
  refine wpList_plain hgd fun K hK => ?_
  have hk := hK _ _ (h _ _ (hr.sliced a1 a2 c (by omega) (by omega)) (show a2 - a1 ≤ c - a1 by omega) (by omega))
  have hrun := run_slice_lh (P := Tryd.prog) W 22 p n c undS .i64 .i64 a1 a2 (by omega) (by omega) (by omega)
  unfold Oper.wp
  simp [execOp, ho, hx, hlo, hhi, run_sliceAt_slice W _ _ _ _ _ undS, hrun, run_sz8, Result.andThen, sliced]
  simp only [Nat.mul_one] at hk
  exact hk
end Go.Proofs.YtefalhnllkkkhaaDoor
