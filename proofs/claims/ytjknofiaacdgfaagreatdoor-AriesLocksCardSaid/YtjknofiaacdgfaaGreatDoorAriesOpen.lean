/- aries.Open: of no disk; over a disk of noughts. -/
import Derived.Test.YtjknofiaacdgfaaGreatDoorAriesRecover
import Derived.Test.YtjknofiaacdgfaaGreatDoorPoolNew
namespace Go.Proofs.YtjknofiaacdgfaaGreatDoor
open Go.RowKit Go.Shelf
set_option linter.unusedVariables false

set_option maxRecDepth 20000 in
set_option maxHeartbeats 400000 in
theorem logOpen_none (p : Option Addr) (a b : Int) (w : World) (h : NoDisk w p) :
    Calls Tryz.prog 47 #[.pointer p, .int .i64 a, .int .i64 b] w fun e w' => e = .returned (.tuple #[.pointer none, .slice none 0 0, .int .i64 2]) ∧ w' = w := by
  have H := Lib.hid h
  clear h
  go_enter Tryz.func47, Tryz.ntmps47
  go_wp2_with fail
  refine (sectors_none p _ H.out).mono ?_
  rintro e w1 ⟨rfl, rfl⟩
  go_wp2
  go_returns
  exact ⟨rfl, rfl⟩
set_option maxRecDepth 20000 in
set_option maxHeartbeats 400000 in
theorem ariesOpen_none (p : Option Addr) (a b c : Int) (w : World) (h : NoDisk w p) :
    Calls Tryz.prog 19 #[.pointer p, .int .i64 a, .int .i64 b, .int .i64 c] w fun e w' => e = .returned (.tuple #[.pointer none, .int .i64 2]) ∧ w' = w := by
  have H := Lib.hid h
  clear h
  go_enter Tryz.func19, Tryz.ntmps19
  go_wp2_with fail
  refine (logOpen_none p _ _ _ H.out).mono ?_
  rintro e w1 ⟨rfl, rfl⟩
  go_wp2
  go_returns
  exact ⟨rfl, rfl⟩
theorem start_any {B bd bl n k : Nat} {w : World} {sv : Value} (hd : DiskAt w (z0 B) bd (zeroS n) []) (hl : LogAt w B bl bd 0 k 1 0 0 0 sv []) (hbl : B ≤ bl) (hsv : sv = .slice none 0 0) (hB : B ≤ w.heap.size) (hT : Halves w) (hg : 0 < B) (hk : k ≤ n) :
    St w (z0 B) bd bl n 0 (fun _ => zeros 128) ⟨0, k, 1, 0, 0, 0, sv, []⟩ where
  disk := ⟨zeroS n, [], hd, by simp [zeroS], by simp, fun i hi => seen_zero hi⟩
  log := hl
  lown := fun g hg => by rw [hsv] at hg; cases hg
  llow := hbl
  lok := ⟨by simpa using hk, by simp, by simp, by simp, by simp, by simp⟩
  no := fun k hk => hk.elim
  halves := hT
  hlow := hg
  base := hB
theorem startInv_any (fro pages : Nat) : PInv fro pages (fun _ => zeros 128) [] C0 :=
  ⟨by simp, fun n _ _ _ => encV_zero.symm, fun n _ _ => ⟨by simp [C0], by simp [C0, zeros]⟩⟩
def MgrC (bp bl pages ba : Nat) : Obj := .cells #[.int .i32 0, .int .u32 0, .pointer (some ⟨bp, 0, none⟩), .pointer (some ⟨bl, 0, none⟩), .int .i64 pages, .int .i64 0, .int .i64 0, .map (some ba)] 52 (0, 0)
set_option maxRecDepth 20000 in
set_option maxHeartbeats 1000000 in
theorem ariesOpen_zero (Z bd logs pages buffers n : Nat) (w : World) (hD : DiskAt w (z0 Z) bd (zeroS n) []) (hZ : Z ≤ w.heap.size) (hT : Halves w) (hg : 0 < Z) (h1 : 1 ≤ logs) (h2 : 1 ≤ pages) (h3 : logs + pages ≤ n) (h4 : 1 ≤ buffers) (h5 : buffers ≤ 64) :
    Calls Tryz.prog 19 #[.pointer (some ⟨bd, 0, none⟩), .int .i64 logs, .int .i64 pages, .int .i64 buffers] w fun e w' => ∃ bg bp bl bm ba : Nat, e = .returned (.tuple #[.pointer (some ⟨bg, 0, none⟩), .int .i64 0]) ∧
      w'.heap[bg]? = some (MgrC bp bl pages ba) ∧ St w' (z0 Z) bd bl n 0 (fun _ => zeros 128) ⟨0, logs, 1, 0, 0, 0, .slice none 0 0, []⟩ ∧ PoolAt w' (z0 Z) bp bd bl bm logs pages buffers 0 [] ∧ MapZ w' ba [] ∧ Z ≤ bg ∧ Z ≤ ba ∧ ba ≠ bm ∧ Below w.heap.size w w' := by
  have HD := Lib.hid hD
  have HT := Lib.hid hT
  have HG := Lib.hid hg
  have HZ := Lib.hid hZ
  have HK := Lib.hid h3
  have H12 := Lib.hid (And.intro h1 h2)
  have H45 := Lib.hid (And.intro h4 h5)
  have hmm := @run_makeMap Tryz.prog
  clear hD hT hg hZ h1 h2 h3 h4 h5
  go_enter Tryz.func19, Tryz.ntmps19
  go_wp2_with fail
  refine (logOpen_zero Z bd 0 logs n _ HD.out H12.out.1 (by have := HK.out; omega)).mono ?_
  rintro e w1 ⟨bl, rfl, hL, hbl, hb1⟩
  have HST : Hid (St w1 (z0 Z) bd bl n 0 (fun _ => zeros 128) ⟨0, logs, 1, 0, 0, 0, .slice none 0 0, []⟩) := Lib.hid (start_any (HD.out.below hb1) ⟨hL.cells, World.ownsRow_nil _ _ _ _⟩ (Nat.le_trans HZ.out hbl) rfl (by have := hb1.size; have := HZ.out; omega) (HT.out.below hb1) HG.out (by have := HK.out; omega))
  have HB1 := Lib.hid hb1
  have HBL := Lib.hid hbl
  clear hL hb1 hbl
  go_wp2_with fail
  refine (poolNew_any bd bl n 0 logs pages buffers _ _ w1 HST.out H12.out.2 HK.out H45.out.1 H45.out.2).mono ?_
  rintro e w2 ⟨bp, bm, rfl, hP, hb2⟩
  have HP := Lib.hid hP
  have HB2 := Lib.hid hb2
  clear hP hb2
  have h23 : Below w2.heap.size w2 (w2.alloc (.map #[] 0)) := (Below.refl _ w2).alloc (Nat.le_refl _) _
  obtain ⟨W3, hW3⟩ : ∃ W, W = (w2.alloc (.map #[] 0)).alloc (MgrC bp bl pages w2.heap.size) := ⟨_, rfl⟩
  have s3 : W3.heap.size = w2.heap.size + 1 + 1 := by rw [hW3]; simp
  have h24 : Below w2.heap.size w2 W3 := by rw [hW3]; exact h23.alloc (by simp) _
  have m3 : MapZ W3 w2.heap.size [] := by rw [hW3]; exact (MapZ.made w2).upd (Upd.of_below' ((Below.refl (w2.alloc (.map #[] 0)).heap.size _).alloc (Nat.le_refl _) _) (fun _ => False)) (fun h => h)
  have g3 : W3.heap[w2.heap.size + 1]? = some (MgrC bp bl pages w2.heap.size) := by
    have := heap_alloc_new (w2.alloc (.map #[] 0)) (MgrC bp bl pages w2.heap.size)
    rw [World.size_alloc] at this
    rw [hW3]; exact this
  have c6 : W3.cell? ⟨w2.heap.size + 1, 6, none⟩ = some (.int .i64 0) := by simp [World.cell?, g3, MgrC]
  have f6 : W3.frozen? ⟨w2.heap.size + 1, 6, none⟩ = false := frozenC g3
  have g4 : (W3.setCell ⟨w2.heap.size + 1, 6, none⟩ (.int .i64 0)).heap[w2.heap.size + 1]? = some (MgrC bp bl pages w2.heap.size) := heap_setCell_same W3 (w2.heap.size + 1) 6 _ _ _ g3
  have HW := Lib.hid hW3
  have H24 := Lib.hid h24
  have HM3 := Lib.hid m3
  have HG3 := Lib.hid g3
  have HG4 := Lib.hid g4
  have HS3 := Lib.hid s3
  clear hW3 h23 h24 m3 g3 g4 s3
  go_wp2_with fail
  rw [show (w2.alloc (.map #[] 0)).alloc (.cells #[.int .i32 0, .int .u32 0, .pointer (some ⟨bp, 0, none⟩), .pointer (some ⟨bl, 0, none⟩), .int .i64 pages, .int .i64 0, .int .i64 0, .map (some w2.heap.size)] 52) = W3 from HW.out.symm]
  refine wp_loop_rounds 1 ?_
  rw [rounds_succ]
  go_wp2_with fail
  obtain ⟨W4, hW4⟩ : ∃ W, W = W3.setCell ⟨w2.heap.size + 1, 6, none⟩ (.int .i64 0) := ⟨_, rfl⟩
  have g4 : W4.heap[w2.heap.size + 1]? = some (MgrC bp bl pages w2.heap.size) := by rw [hW4]; exact HG4.out
  have k3 : W4.cell? ⟨w2.heap.size + 1, 3, none⟩ = some (.pointer (some ⟨bl, 0, none⟩)) := by simp [World.cell?, g4, MgrC]
  have b4 : Below w2.heap.size w2 W4 := by rw [hW4]; exact H24.out.setCell (p := ⟨w2.heap.size + 1, 6, none⟩) (by show w2.heap.size ≤ w2.heap.size + 1; omega) _
  have m4 : MapZ W4 w2.heap.size [] := by rw [hW4]; exact HM3.out.upd (Upd.setC W3 (w2.heap.size + 1) 6 _) (by show ¬ w2.heap.size = w2.heap.size + 1; omega)
  have st4 := (HST.out.below HB2.out).below b4
  have HP4 := Lib.hid (HP.out.below b4)
  have HG5 := Lib.hid g4
  have HM4 := Lib.hid m4
  have HB4 := Lib.hid b4
  have HS4 := Lib.hid st4
  rw [← hW4]
  clear hW4 g4 b4 m4 st4
  refine (recover_none (w2.heap.size + 1) W4 k3 HS4.out.log rfl).mono ?_
  rintro e w5 ⟨rfl, hb5⟩
  have HB5 := Lib.hid hb5
  clear hb5
  go_wp2_with fail
  go_returns
  have hbm := HP.out.map.lt
  have hsz : w.heap.size ≤ w2.heap.size := Nat.le_trans HB1.out.size HB2.out.size
  have hz := HZ.out
  refine ⟨w2.heap.size + 1, bp, bl, bm, w2.heap.size, rfl, (HB5.out.block _ (Array.getElem?_eq_some_iff.1 HG5.out).1).trans HG5.out, HS4.out.below HB5.out, HP4.out.below HB5.out, HM4.out.upd (Upd.of_below' HB5.out (fun _ => False)) (fun h => h), by omega, by omega, by omega, ?_⟩
  exact HB1.out.trans ((HB2.out.mono HB1.out.size).trans ((HB4.out.mono hsz).trans (HB5.out.mono (Nat.le_trans hsz HB4.out.size))))
end Go.Proofs.YtjknofiaacdgfaaGreatDoor
