/- pool.New over a disk and a log; the laws' start. -/
import Derived.Test.YtjknofiaacdgfaaGreatDoorPoolAll
namespace Go.Proofs.YtjknofiaacdgfaaGreatDoor
open Go.RowKit Go.Shelf
set_option linter.unusedVariables false

set_option maxRecDepth 20000 in
set_option maxHeartbeats 1000000 in
theorem poolNew_any {N : Zone} (bd bl n c fro pages buffers : Nat) (D : Nat → List UInt8) (L : LogV) (w : World) (hs : St w N bd bl n c D L) (h1 : 1 ≤ pages) (h2 : fro + pages ≤ n) (h3 : 1 ≤ buffers) (h4 : buffers ≤ 64) :
    Calls Tryz.prog 48 #[.pointer (some ⟨bd, 0, none⟩), .pointer (some ⟨bl, 0, none⟩), .int .i64 fro, .int .i64 pages, .int .i64 buffers] w fun e w' => ∃ bp bm, e = .returned (.tuple #[.pointer (some ⟨bp, 0, none⟩), .int .i64 0]) ∧ PoolAt w' N bp bd bl bm fro pages buffers 0 [] ∧ Below w.heap.size w w' := by
  obtain ⟨S, P, hd, hn, -, -⟩ := hs.disk
  have hsm := hd.small
  rw [hn] at hsm
  have HD := Lib.hid hd
  have HN := Lib.hid hn
  have HS := Lib.hid hs
  have hz : ((n : Int) == 0) = false := beq_eq_false_iff_ne.mpr (by omega)
  have hf : ((L.first : Int) == 0) = false := beq_eq_false_iff_ne.mpr (by have := hs.lok.first.1; omega)
  have hmm := @run_makeMap Tryz.prog
  obtain ⟨R, hR⟩ : ∃ R, R = n - fro := ⟨_, rfl⟩
  have hw : IntKind.i64.wrap ((n : Int) - (fro : Int)) = (R : Int) := by rw [IntKind.wrap_i64]; omega
  have hw' : wrap64 ((n : Int) - (fro : Int)) = (R : Int) := by rw [wrap64]; omega
  have hpR : pages ≤ R := by omega
  have hfn : fro ≤ n := by omega
  have hp0 : ¬ pages = 0 := by omega
  have hb0 : ¬ buffers = 0 := by omega
  have HRR := Lib.hid hR
  clear hs hd hn hR h2
  go_enter Tryz.func48, Tryz.ntmps48
  go_wp2_with fail
  refine (sectors_any bd S P _ HD.out).mono ?_
  rintro e w1 ⟨rfl, rfl⟩
  rw [HN.out]
  go_wp2_with fail
  refine (first_any HS.out.log).mono ?_
  rintro e w2 ⟨rfl, rfl⟩
  go_wp2_with fail
  go_returns
  have hb1 : Below w2.heap.size w2 (w2.alloc (.map #[] 0)) := (Below.refl _ _).alloc (Nat.le_refl _) _
  refine ⟨w2.heap.size + 1, w2.heap.size, rfl, ⟨?_, ?_, by simp, by simp, ⟨by have := HS.out.base; omega, HS.out.base, by simp⟩, by simp, by simp⟩, hb1.alloc (by simp) _⟩
  · have := heap_alloc_new (w2.alloc (.map #[] 0)) (.cells #[.map (some w2.heap.size), .int .i64 0, .pointer (some ⟨bd, 0, none⟩), .pointer (some ⟨bl, 0, none⟩), .int .i64 fro, .int .i64 pages, .int .i64 buffers] 166)
    rw [World.size_alloc] at this
    exact this
  · exact (MapZ.made w2).upd (Upd.of_below' ((Below.refl (w2.alloc (.map #[] 0)).heap.size _).alloc (Nat.le_refl _) _) (fun _ => False)) (fun h => h)

theorem encV_zero : encV 0 (zeros 112) = zeros 128 := by
  unfold encV
  rw [if_pos ⟨rfl, by decide⟩]
  rfl
/-- A fresh pool: each page is noughts, of no record. -/
def C0 : Int → Nat × List UInt8 := fun _ => (0, zeros 112)
/-- A fresh disk, log and pool of the laws of layer 5. -/
theorem start_run {B bd bl : Nat} {w : World} {sv : Value} (hd : DiskAt w (z0 B) bd (zeroS 14) []) (hl : LogAt w B bl bd 0 4 1 0 0 0 sv []) (hbl : B ≤ bl) (hsv : sv = .slice none 0 0) (hB : B ≤ w.heap.size) (hT : Halves w) (hg : 0 < B) :
    St w (z0 B) bd bl 14 0 (fun _ => zeros 128) ⟨0, 4, 1, 0, 0, 0, sv, []⟩ where
  disk := ⟨zeroS 14, [], hd, by simp [zeroS], by simp, fun i hi => seen_zero hi⟩
  log := hl
  lown := fun g hg => by rw [hsv] at hg; cases hg
  llow := hbl
  lok := ⟨by simp, by simp, by simp, by simp, by simp, by simp⟩
  no := fun k hk => hk.elim
  halves := hT
  hlow := hg
  base := hB
theorem start_inv : PInv 4 10 (fun _ => zeros 128) [] C0 :=
  ⟨by simp, fun n _ _ _ => encV_zero.symm, fun n _ _ => ⟨by simp [C0], by simp [C0, zeros]⟩⟩
end Go.Proofs.YtjknofiaacdgfaaGreatDoor
