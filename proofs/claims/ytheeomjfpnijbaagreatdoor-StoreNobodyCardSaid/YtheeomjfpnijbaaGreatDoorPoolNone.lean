/- A pool that no call made: each method tells so. -/
import Derived.Test.YtheeomjfpnijbaaGreatDoorInts
namespace Go.Proofs.YtheeomjfpnijbaaGreatDoor
open Go.RowKit Go.Shelf
set_option linter.unusedVariables false

/-- No pool: nil, or one that no call made. -/
def NoPool (w : World) (p : Option Addr) : Prop := p = none ∨ ∃ b, p = some ⟨b, 0, none⟩ ∧ w.cell? ⟨b, 0, none⟩ = some (.map none)
theorem NoPool.below {w w' : World} {p : Option Addr} (h : NoPool w p) (hb : Below w.heap.size w w') : NoPool w' p := by
  rcases h with rfl | ⟨b, rfl, h⟩
  · exact .inl rfl
  · exact .inr ⟨b, rfl, keepC hb h⟩

set_option maxRecDepth 20000 in
set_option maxHeartbeats 400000 in
theorem plook_none (p : Option Addr) (n : Int) (w : World) (h : NoPool w p) :
    Calls Tryz.prog 208 #[.pointer p, .int .i64 n] w fun e w' => e = .returned (.int .i64 2) ∧ w' = w := by
  rcases h with rfl | ⟨b, rfl, h⟩
  · have heq := fun w : World => run_eql_map_nil (P := Tryz.prog) w 257 3 317 none Tryz.underlying257
    go_enter Tryz.func208, Tryz.ntmps208
    go_wp2
    go_ret
    exact ⟨rfl, rfl⟩
  · have heq := fun w : World => run_eql_map_nil (P := Tryz.prog) w 257 3 317 none Tryz.underlying257
    go_enter Tryz.func208, Tryz.ntmps208
    go_wp2
    go_ret
    exact ⟨rfl, rfl⟩
set_option maxRecDepth 20000 in
set_option maxHeartbeats 400000 in
theorem get_none (p : Option Addr) (n : Int) (w : World) (h : NoPool w p) :
    Calls Tryz.prog 144 #[.pointer p, .int .i64 n] w fun e w' => e = .returned (.tuple #[.slice none 0 0, .int .i64 0, .int .i64 2]) ∧ w' = w := by
  have H := Lib.hid h
  clear h
  go_enter Tryz.func144, Tryz.ntmps144
  go_wp2_with fail
  refine (plook_none p _ _ H.out).mono ?_
  rintro e w1 ⟨rfl, rfl⟩
  go_wp2
  go_returns
  exact ⟨rfl, rfl⟩
set_option maxRecDepth 20000 in
set_option maxHeartbeats 400000 in
theorem pflush_none (p : Option Addr) (n : Int) (w : World) (h : NoPool w p) :
    Calls Tryz.prog 156 #[.pointer p, .int .i64 n] w fun e w' => e = .returned (.int .i64 2) ∧ w' = w := by
  have H := Lib.hid h
  clear h
  go_enter Tryz.func156, Tryz.ntmps156
  go_wp2_with fail
  refine (plook_none p _ _ H.out).mono ?_
  rintro e w1 ⟨rfl, rfl⟩
  go_wp2
  go_returns
  exact ⟨rfl, rfl⟩
set_option maxRecDepth 20000 in
set_option maxHeartbeats 400000 in
theorem put_none (p : Option Addr) (n l : Int) (q : Option Addr) (m c : Nat) (w : World) (h : NoPool w p) :
    Calls Tryz.prog 199 #[.pointer p, .int .i64 n, .int .i64 l, .slice q m c] w fun e w' => e = .returned (.int .i64 2) ∧ w' = w := by
  have H := Lib.hid h
  clear h
  go_enter Tryz.func199, Tryz.ntmps199
  go_wp2_with fail
  refine (plook_none p _ _ H.out).mono ?_
  rintro e w1 ⟨rfl, rfl⟩
  go_wp2
  go_returns
  exact ⟨rfl, rfl⟩
set_option maxRecDepth 20000 in
set_option maxHeartbeats 400000 in
theorem all_none (p : Option Addr) (w : World) (h : NoPool w p) :
    Calls Tryz.prog 111 #[.pointer p] w fun e w' => e = .returned (.int .i64 2) ∧ w' = w := by
  rcases h with rfl | ⟨b, rfl, h⟩
  · have heq := fun w : World => run_eql_map_nil (P := Tryz.prog) w 257 3 317 none Tryz.underlying257
    go_enter Tryz.func111, Tryz.ntmps111
    go_wp2
    go_returns
    exact ⟨rfl, rfl⟩
  · have heq := fun w : World => run_eql_map_nil (P := Tryz.prog) w 257 3 317 none Tryz.underlying257
    go_enter Tryz.func111, Tryz.ntmps111
    go_wp2
    go_returns
    exact ⟨rfl, rfl⟩
set_option maxRecDepth 20000 in
set_option maxHeartbeats 400000 in
theorem order_none (b : Nat) (w : World) (h : w.cell? ⟨b, 0, none⟩ = some (.map none)) :
    Calls Tryz.prog 261 #[.pointer (some ⟨b, 0, none⟩)] w fun e w' => ∃ p c, e = .returned (.slice p 0 c) ∧ Below w.heap.size w w' := by
  have HB := Lib.hid ((Below.refl _ w).alloc (Nat.le_refl _) (.cells #[.pointer (some ⟨b, 0, none⟩)] 372))
  have kb := keepC HB.out h
  have HK := Lib.hid kb
  have hlt := cell_lt h
  go_enter Tryz.func261, Tryz.ntmps261
  go_wp2_with fail
  refine (keys_any none _).mono ?_
  rintro e w1 ⟨rfl, rfl⟩
  go_wp2_with fail
  refine (sortedFuncNil_any (w.heap.size + 1) _ _ ?hm).mono ?_
  case hm =>
    have e := cellNew (w := w.alloc (.cells #[.pointer (some ⟨b, 0, none⟩)] 372)) (cs := #[.map none]) (t := 257) (j := 0) (v := .map none) rfl
    rw [World.size_alloc] at e
    exact e
  rintro e w2 ⟨p, c, rfl, hb⟩
  have HB2 := Lib.hid (chainC (below_alloc HB.out (.cells #[.map none] 257)) hb)
  go_wp2
  go_ret
  exact ⟨p, c, rfl, HB2.out⟩
set_option maxRecDepth 20000 in
set_option maxHeartbeats 400000 in
theorem held_none (p : Option Addr) (w : World) (h : NoPool w p) :
    Calls Tryz.prog 216 #[.pointer p] w fun e w' => ∃ q c, e = .returned (.slice q 0 c) ∧ Below w.heap.size w w' := by
  rcases h with rfl | ⟨b, rfl, h⟩
  · go_enter Tryz.func216, Tryz.ntmps216
    go_wp2
    go_returns
    exact ⟨none, 0, rfl, Below.refl _ _⟩
  · go_enter Tryz.func216, Tryz.ntmps216
    go_wp2_with fail
    refine (order_none b _ h).mono ?_
    rintro e w2 ⟨p, c, rfl, hb⟩
    have HB := Lib.hid hb
    clear hb
    go_wp2
    go_ret
    exact ⟨p, c, rfl, HB.out⟩
set_option maxRecDepth 20000 in
set_option maxHeartbeats 400000 in
theorem table_none (p : Option Addr) (w : World) (h : NoPool w p) :
    Calls Tryz.prog 155 #[.pointer p] w fun e w' => e = .returned (.slice none 0 0) ∧ Below w.heap.size w w' := by
  have H := Lib.hid h
  clear h
  go_enter Tryz.func155, Tryz.ntmps155
  go_wp2_with fail
  refine (held_none p _ H.out).mono ?_
  rintro e w2 ⟨q, c, rfl, hb⟩
  have HB := Lib.hid hb
  clear hb
  go_wp2_with fail
  refine (values_any q 0 c _).mono ?_
  rintro e w3 ⟨rfl, rfl⟩
  go_wp2_with fail
  refine (sortedNil_any _ c q _ ?hm).mono ?_
  case hm => exact cellNew (cs := #[.slice q 0 c]) (j := 0) (v := .slice q 0 c) rfl
  rintro e w4 ⟨q4, c4, rfl, hb4⟩
  have HB4 := Lib.hid (chainC (below_alloc HB.out (.cells #[.slice q 0 c] 107)) hb4)
  clear hb4
  go_wp2_with fail
  go_loopw [3, 12] (fun v i wr => v = .slice none 0 0 ∧ i = .int .i64 0 ∧ wr = w4) (fun _ _ _ => 0)
  case atStart => exact ⟨rfl, rfl, rfl⟩
  case round =>
    obtain ⟨rfl, rfl, rfl⟩ := hrel
    go_wp2
    go_ret
    exact ⟨rfl, HB4.out⟩

/-- No log: nil. -/
theorem first_none (w : World) : Calls Tryz.prog 116 #[.pointer none] w fun e w' => e = .returned (.int .i64 0) ∧ w' = w := by
  have hn : Calls Tryz.prog 158 #[.pointer none] w fun e w' => e = .returned (.bool true) ∧ w' = w := by
    go_enter Tryz.func158, Tryz.ntmps158
    go_wp2
    go_ret
    exact ⟨rfl, rfl⟩
  go_enter Tryz.func116, Tryz.ntmps116
  go_wp2_with fail
  refine hn.mono ?_
  rintro e w1 ⟨rfl, rfl⟩
  go_wp2
  go_returns
  exact ⟨rfl, rfl⟩
set_option maxRecDepth 20000 in
set_option maxHeartbeats 400000 in
theorem poolNew_nodisk (l : Option Addr) (a b c : Int) (w : World) :
    Calls Tryz.prog 114 #[.pointer none, .pointer l, .int .i64 a, .int .i64 b, .int .i64 c] w fun e w' => e = .returned (.tuple #[.pointer none, .int .i64 2]) ∧ w' = w := by
  go_enter Tryz.func114, Tryz.ntmps114
  go_wp2_with fail
  refine (sectors_none none _ (.inl rfl)).mono ?_
  rintro e w1 ⟨rfl, rfl⟩
  go_wp2
  go_returns
  exact ⟨rfl, rfl⟩
set_option maxRecDepth 20000 in
set_option maxHeartbeats 400000 in
theorem poolNew_nolog {N : Zone} (bd : Nat) (S : List (List UInt8)) (P : List (Nat × List UInt8)) (a b c : Int) (w : World) (h : DiskAt w N bd S P) :
    Calls Tryz.prog 114 #[.pointer (some ⟨bd, 0, none⟩), .pointer none, .int .i64 a, .int .i64 b, .int .i64 c] w fun e w' => e = .returned (.tuple #[.pointer none, .int .i64 2]) ∧ w' = w := by
  have hz : ((S.length : Int) == 0) = false := beq_eq_false_iff_ne.mpr (by have := h.pos; omega)
  have H := Lib.hid h
  clear h
  go_enter Tryz.func114, Tryz.ntmps114
  go_wp2_with fail
  refine (sectors_any bd S P _ H.out).mono ?_
  rintro e w1 ⟨rfl, rfl⟩
  go_wp2_with fail
  refine (first_none _).mono ?_
  rintro e w2 ⟨rfl, rfl⟩
  go_wp2
  go_returns
  exact ⟨rfl, rfl⟩
end Go.Proofs.YtheeomjfpnijbaaGreatDoor
