/- Numbers as bytes, the lowest first: page.number. -/
import Derived.Test.YtefalhnllkkkhaaGreatDoorTrim
import Derived.Maps.AppendAt
namespace Go.Proofs.YtefalhnllkkkhaaGreatDoor
open Go.RowKit
set_option linter.unusedVariables false

/-- The so many lowest bytes of a number, the lowest first. -/
def leB : Nat → Nat → List UInt8
  | _, 0 => []
  | n, k + 1 => UInt8.ofNat (n % 256) :: leB (n / 256) k
theorem leB_length : ∀ k n, (leB n k).length = k
  | 0, _ => rfl
  | k + 1, n => by simp [leB, leB_length k]
theorem leB_snoc : ∀ k n, leB n (k + 1) = leB n k ++ [UInt8.ofNat (n / 256 ^ k % 256)]
  | 0, n => by simp [leB]
  | k + 1, n => by
    rw [leB, leB_snoc k (n / 256), leB, Nat.div_div_eq_div_mul, Nat.pow_succ', List.cons_append]

theorem B8s_snoc (xs : List UInt8) (y : UInt8) : B8s (xs ++ [y]) = B8s xs ++ [B8 y] := by simp [B8s]

/-- append(b, y) for bytes of the call's own. -/
theorem wp_app8 {ops : Array Oper} {rest : List Oper} {o : Oper} {a : Act} {Q : Exit → Act → World → Prop} {w0 W : World} {base n : Nat} (hgd : o.guard = none) (s x : Operand)
    (ho : o.op = .call { callee := .builtin .append, args := #[s, x], argTypes := #[37, 37] })
    (v yv : Value) (xs : List UInt8) (y : UInt8) (hy : yv = B8 y) (hs : a.eval s = v) (hx : a.eval x = .slice (some ⟨W.heap.size, 0, none⟩) 1 1)
    (HO : W.ownsRow base 5 1 v n (B8s xs)) (HB : Below base w0 W) (hbase : base ≤ W.heap.size) (hl : n < 140737488355328)
    (h : ∀ v1 w1, w1.ownsRow base 5 1 v1 (n + 1) (B8s (xs ++ [y])) → Below base w0 w1 → wpList Tryz.prog ops Q rest (a.put o.dst v1) w1) :
    wpList Tryz.prog ops Q (o :: rest) a (W.alloc (.cells #[yv] 5)) := by
  obtain ⟨i0, hi, hz0, hz1, hz2⟩ := info_parts info8
  subst hy
  refine wpList_append_own _ hgd s x 37 ho base 5 i0 (.int .u8 0) 1 1 Tryz.underlying37 hi hz0 hz1 hz2 rfl (by decide) v n (B8s xs) hs (HO.alloc _) ⟨W.heap.size, 0, none⟩ 1 1 [B8 y] hx rfl
    (cell_one_new _ _ _) (by simp [B8, Value.oneCell']) (by simp only [maxLen]; omega) (by omega) (by simp; omega) ?_
  intro v1 w1 hown hg _
  refine h v1 w1 (by rw [B8s_snoc]; exact hown) ((HB.alloc hbase _).grown hg (by simp; omega) fun k hk => ?_)
  exact (HO.lt k hk).1

set_option maxHeartbeats 400000 in
set_option maxRecDepth 20000 in
theorem number_any (N k : Nat) (w : World) (hN : N < 18446744073709551616) (hk : k ≤ 8) :
    Calls Tryz.prog 65 #[.int .u64 N, .int .i64 k] w fun e w' => ∃ v', e = .returned v' ∧ w'.ownsRow w.heap.size 5 1 v' k (B8s (leB N k)) ∧ Below w.heap.size w w' := by
  have HN := Lib.hid hN
  clear hN
  go_enter Tryz.func65, Tryz.ntmps65
  go_wp2
  go_loopw [0, 5, 7] (fun m v i wr => ∃ j M : Nat, j ≤ k ∧ i = .int .i64 j ∧ m = .int .u64 M ∧ Hid (M = N / 256 ^ j) ∧ Hid (wr.ownsRow w.heap.size 5 1 v j (B8s (leB N j))) ∧ Below w.heap.size w wr) (fun _ _ i _ => k - (intOf i).toNat)
  case atStart => exact ⟨0, N, Nat.zero_le _, rfl, rfl, Lib.hid (by simp), Lib.hid (World.ownsRow_nil _ _ _ _), Below.refl _ _⟩
  case round =>
    obtain ⟨j, M, hj, rfl, rfl, HM, HO, hb⟩ := hrel
    by_cases hlt : j < k
    · go_wp2_with (at_builtin; refine wp_app8 (w0 := w) (base := w.heap.size) (n := j) rfl _ _ rfl _ _ (leB N j) (UInt8.ofNat (N / 256 ^ j % 256)) ?hy rfl rfl HO.out hb hb.size ?hl ?_)
      case hy => rw [← HM.out]; simp [B8]
      case hl => omega
      intro v1 w1 hown1 hb1
      have HO1 := Lib.hid hown1
      clear hown1
      go_wp2
      go_roundw
      case rel => exact ⟨j + 1, M / 256, by omega, by go_num, by simp, Lib.hid (by rw [HM.out, Nat.div_div_eq_div_mul, Nat.pow_succ]), Lib.hid (by rw [leB_snoc]; exact HO1.out), hb1⟩
      case measure => simp [intOf]; omega
    · obtain rfl : j = k := by omega
      go_wp2
      go_ret
      exact ⟨_, rfl, HO.out, hb⟩
end Go.Proofs.YtefalhnllkkkhaaGreatDoor
