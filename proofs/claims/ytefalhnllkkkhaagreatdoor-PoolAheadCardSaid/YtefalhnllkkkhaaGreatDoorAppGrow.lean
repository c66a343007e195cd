/- append onto a row of its own, and which block the grown row lies in. -/
import Derived.Test.YtefalhnllkkkhaaGreatDoorWireP
namespace Go.Proofs.YtefalhnllkkkhaaGreatDoor
open Go.RowKit
set_option linter.unusedVariables false

theorem infoP8 : ∃ i, Tryz.prog.info? 5 = some i ∧ i.zero = some (.int .u8 0) ∧ i.size = 1 ∧ i.bytes = 1 := by
  obtain ⟨i0, hi, hz0, hz1, hz2⟩ := info_parts info8
  exact ⟨i0, hi, hz0, hz1, hz2⟩
/-- An append's result lies where its row lay, or in a new block. -/
theorem run_appg (W : World) (ty : TypeId) (base n m c : Nat) (v : Value) (xs ys : List UInt8) (ad : Addr) (HO : W.ownsRow base 5 1 v n (B8s xs)) (hy : ys.length = m) (hm : 0 < m) (hnews : ∀ j u, (B8s ys)[j]? = some u → W.cell? (ad.add j) = some u) (hl : n + m ≤ 140737488355328) (hbase : base ≤ W.heap.size) :
    ∃ v' w', (Builtin.append_ #[37, 37] ty #[v, .slice (some ad) m c]).run Tryz.prog W = .ok v' w' ∧ w'.ownsRow base 5 1 v' (n + m) (B8s (xs ++ ys)) ∧ W.grownBy w' v.ownBlock ∧ (v'.ownBlock = v.ownBlock ∨ v'.ownBlock = some W.heap.size) := by
  obtain ⟨i, hi, hz, h1, h2⟩ := infoP8
  have hyl : (B8s ys).length = m * 1 := by rw [B8s_length, hy, Nat.mul_one]
  have hyi : (B8s ys).length = m * i.size := by rw [h1]; exact hyl
  obtain ⟨v', w', hr, ho, hg, -⟩ := run_append_own (P := Tryz.prog) W base 37 ty 5 i (.int .u8 0) 1 1 Tryz.underlying37 hi hz h1 h2 rfl (by decide) v n (B8s xs) HO ad m c (B8s ys) hyl hnews B8s_one (by simp only [maxLen]; omega) (by omega) hbase
  refine ⟨v', w', hr, by rw [show B8s (xs ++ ys) = B8s xs ++ B8s ys from by simp [B8s]]; exact ho, hg, ?_⟩
  rcases HO.2 with ⟨rfl, rfl⟩ | ⟨g, cap, cur, rfl, hbg, hgg, hnc, hcm, hcs, htake⟩
  · have e := run_append_nil (P := Tryz.prog) W 37 ty 5 i (.int .u8 0) Tryz.underlying37 hi hz ad m c (B8s ys) hyi hnews hm (by omega) (by rw [h2]; omega)
    rw [hr] at e
    cases e
    exact .inr rfl
  · by_cases hroom : n + m ≤ cap
    · have e := run_append_room (P := Tryz.prog) W 37 ty 5 i Tryz.underlying37 hi g n cap cur hgg ad m c (B8s ys) hyi hnews B8s_one hroom (by rw [h1, hyl, hcs]; omega)
      rw [hr] at e
      cases e
      exact .inl rfl
    · have e := run_append_grow (P := Tryz.prog) W 37 ty 5 i (.int .u8 0) Tryz.underlying37 hi hz ⟨g, 0, none⟩ n cap (B8s xs) (by rw [h1]; exact HO.1) (fun j u hj => HO.cells (g := g) rfl j u hj) ad m c (B8s ys) hyi hnews (by omega) (by omega) (growslice_fits (by omega) (by rw [h2]; omega))
      rw [hr] at e
      cases e
      exact .inr rfl
theorem wp_appg {ops : Array Oper} {rest : List Oper} {o : Oper} {a : Act} {Q : Exit → Act → World → Prop} {W : World} {base n m c : Nat} (hgd : o.guard = none) (s x : Operand)
    (ho : o.op = .call { callee := .builtin .append, args := #[s, x], argTypes := #[37, 37] })
    (v : Value) (xs ys : List UInt8) (p : Option Addr) (hs : a.eval s = v) (hx : a.eval x = .slice p m c) (hy : ys.length = m) (hr : Rd W p ys) (hm0 : 0 < m)
    (HO : W.ownsRow base 5 1 v n (B8s xs)) (hbase : base ≤ W.heap.size) (hl : n + m ≤ 140737488355328)
    (h : ∀ v1 w1, w1.ownsRow base 5 1 v1 (n + m) (B8s (xs ++ ys)) → W.grownBy w1 v.ownBlock → (v1.ownBlock = v.ownBlock ∨ v1.ownBlock = some W.heap.size) → wpList Tryz.prog ops Q rest (a.put o.dst v1) w1) :
    wpList Tryz.prog ops Q (o :: rest) a W := by
  obtain ⟨ad, rfl, hn⟩ := hr.news (by omega)
  obtain ⟨v', w', hrun, h2, h3, h4⟩ := run_appg W o.type base n m c v xs ys ad HO hy hm0 hn hl hbase
  refine wpList_plain hgd fun K hK => ?_
  unfold Oper.wp execOp
  simp only [ho, resolve, invoke, builtin, Sem.run_bind, Sem.run_pure, Result.andThen_ok, List.map_toArray, List.map_cons, List.map_nil, hs, hx, hrun]
  exact hK _ _ (h v' w' h2 h3 h4)
end Go.Proofs.YtefalhnllkkkhaaGreatDoor
