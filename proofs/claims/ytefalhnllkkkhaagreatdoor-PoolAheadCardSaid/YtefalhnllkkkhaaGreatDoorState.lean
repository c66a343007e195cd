/- What a pool's calls may turn. -/
import Derived.Test.YtefalhnllkkkhaaGreatDoorStateD
import Derived.Test.YtefalhnllkkkhaaGreatDoorPoolVictim
namespace Go.Proofs.YtefalhnllkkkhaaGreatDoor
open Go.RowKit Go.Shelf
set_option linter.unusedVariables false

theorem PoolAt.disked {w w' : World} {N : Zone} {bp bd bl bm fro pages buffers clock : Nat} {M : List (Int × Buf)} (h : PoolAt w N bp bd bl bm fro pages buffers clock M) (hu : Upd (DS N w) w w') : PoolAt w' N bp bd bl bm fro pages buffers clock M :=
  h.upd hu (fun k hk _ => by
    rcases hk with ⟨-, hk | hk | hk⟩ <;> exact ⟨fun ht => absurd (ht.one hk) (by decide), fun ht => absurd (ht.one hk) (by decide), h.map.notTyped hk⟩) (fun k hk ht => by rcases hk with ⟨-, hk | hk | hk⟩ <;> exact absurd (hk.one ht) (by decide))
/-- The pool's own blocks leave disk and log alone. -/
theorem St.pooled {w w' : World} {N : Zone} {T : Nat → Prop} {bd bl n c bp bm fro pages buffers clock : Nat} {D : Nat → List UInt8} {L : LogV} {M : List (Int × Buf)} (h : St w N bd bl n c D L) (hp : PoolAt w N bp bd bl bm fro pages buffers clock M) (hu : Upd T w w') (hT : ∀ k, T k → N.B ≤ k ∧ (Typed w k 56 ∨ Typed w k 87 ∨ k = bm)) : St w' N bd bl n c D L :=
  h.upd hu (fun k hk => (hT k hk).1) (fun k hk => by
    have hne : ∀ t, t ≠ 56 → t ≠ 87 → ¬ Typed w k t := fun t h1 h2 ht => by
      rcases (hT k hk).2 with e | e | e
      · exact h1 (ht.one e)
      · exact h2 (ht.one e)
      · exact hp.map.notTyped ht e
    exact ⟨fun hd => by rcases hd with ⟨-, hd | hd | hd⟩ <;> exact hne _ (by decide) (by decide) hd, hne _ (by decide) (by decide), hne _ (by decide) (by decide)⟩)
end Go.Proofs.YtefalhnllkkkhaaGreatDoor
