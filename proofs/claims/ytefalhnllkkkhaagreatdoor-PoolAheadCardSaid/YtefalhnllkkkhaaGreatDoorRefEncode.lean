/- The document's Encode: the same sector. -/
import Derived.Test.YtefalhnllkkkhaaGreatDoorEncode
namespace Go.Proofs.YtefalhnllkkkhaaGreatDoor
open Go.RowKit
set_option linter.unusedVariables false

set_option maxHeartbeats 400000 in
theorem refencode_bad (lsn : Int) (p : Option Addr) (n c : Nat) (w : World) (h : ¬ eok lsn n) :
    Calls Tryz.prog 41 #[.int .i64 lsn, .slice p n c] w fun e w' => e = .returned (.tuple #[.slice none 0 0, .int .i64 1]) ∧ w = w' := by
  unfold eok at h
  by_cases h1 : lsn < 0
  · clear h
    go_enter Tryz.func41, Tryz.ntmps41
    go_wp2
    go_ret2
    exact ⟨rfl, rfl⟩
  · by_cases h2 : (4611686018427387904 : Int) < lsn
    · clear h
      go_enter Tryz.func41, Tryz.ntmps41
      go_wp2
      go_ret2
      exact ⟨rfl, rfl⟩
    · have h3 : ((n : Int) != 112) = true := by rw [bne_iff_ne]; omega
      clear h
      go_enter Tryz.func41, Tryz.ntmps41
      go_wp2
      go_ret2
      exact ⟨rfl, rfl⟩

/-- A literal of bytes is a row of the call's own. -/
theorem own_lit (w : World) (xs : List UInt8) {base : Nat} (hb : base ≤ w.heap.size) (hl : xs.length ≤ maxLen) :
    (w.alloc (.cells (B8s xs).toArray 5)).ownsRow base 5 1 (.slice (some ⟨w.heap.size, 0, none⟩) xs.length xs.length) xs.length (B8s xs) :=
  own8_mk (cur := []) hb (by rw [List.append_nil]; exact heap_alloc_new w _) rfl rfl hl

/-- append(b, x...) of bytes onto a row of the call's own. -/
theorem wp_app8s {ops : Array Oper} {rest : List Oper} {o : Oper} {a : Act} {Q : Exit → Act → World → Prop} {w0 W : World} {base n m c : Nat} (hgd : o.guard = none) (s x : Operand)
    (ho : o.op = .call { callee := .builtin .append, args := #[s, x], argTypes := #[37, 37] })
    (v : Value) (xs ys : List UInt8) (p : Option Addr) (hs : a.eval s = v) (hx : a.eval x = .slice p m c) (hy : ys.length = m) (hr : Rd W p ys) (hm0 : 0 < m)
    (HO : W.ownsRow base 5 1 v n (B8s xs)) (HB : Below base w0 W) (hbase : base ≤ W.heap.size) (hl : n + m ≤ 140737488355328)
    (h : ∀ v1 w1, w1.ownsRow base 5 1 v1 (n + m) (B8s (xs ++ ys)) → Below base w0 w1 → wpList Tryz.prog ops Q rest (a.put o.dst v1) w1) :
    wpList Tryz.prog ops Q (o :: rest) a W := by
  obtain ⟨i0, hi, hz0, hz1, hz2⟩ := info_parts info8
  obtain ⟨ad, rfl, hn⟩ := hr.news (by omega)
  refine wpList_append_own _ hgd s x 37 ho base 5 i0 (.int .u8 0) 1 1 Tryz.underlying37 hi hz0 hz1 hz2 rfl (by decide) v n (B8s xs) hs HO ad m c (B8s ys) hx (by rw [B8s_length, hy]; omega)
    hn B8s_one (by simp only [maxLen]; omega) (by omega) hbase ?_
  intro v1 w1 hown hg _
  refine h v1 w1 (by rw [show B8s (xs ++ ys) = B8s xs ++ B8s ys from by simp [B8s]]; exact hown) (HB.grown hg hbase fun k hk => (HO.lt k hk).1)

theorem rd_new (w : World) (ys : List UInt8) : Rd (w.alloc (.cells (B8s ys).toArray 5)) (some ⟨w.heap.size, 0, none⟩) ys :=
  rd_front (cur := []) (by rw [List.append_nil]; exact heap_alloc_new w _) (show ys = ys ++ [] from (List.append_nil ys).symm)

theorem byte_at (l j : Nat) : Value.int .u8 ((l : Int) / 2 ^ (8 * j) % 256) = B8 (UInt8.ofNat (l / 256 ^ j % 256)) := by
  have e : (256 : Nat) ^ j = 2 ^ (8 * j) := by rw [Nat.pow_mul]
  rw [e]
  unfold B8
  congr 1
  simp

theorem four_bytes {S : Nat} (h : S < 4294967296) : #[Value.int .u8 ((S : Int) % 256), Value.int .u8 ((S : Int) / 256 % 256), Value.int .u8 ((S : Int) / 65536 % 256), Value.int .u8 ((S : Int) / 16777216 % 256)] = (B8s (leB S 4)).toArray := by
  have e1 : S / 256 / 256 = S / 65536 := by omega
  have e2 : S / 65536 / 256 = S / 16777216 := by omega
  simp [leB, B8s, B8, e1, e2]

set_option maxHeartbeats 1000000 in
set_option maxRecDepth 20000 in
theorem refencode_ok (l : Nat) (p : Option Addr) (n c : Nat) (xs : List UInt8) (w : World) (hx : xs.length = n) (hr : Rd w p xs) (hc : n ≤ c) (hm : c ≤ maxLen) (h : eok l n) :
    Calls Tryz.prog 41 #[.int .i64 l, .slice p n c] w fun e w' =>
      ∃ v', e = .returned (.tuple #[v', .int .i64 0]) ∧ w'.ownsRow w.heap.size 5 1 v' 128 (B8s (encV l xs)) ∧ Below w.heap.size w w' := by
  obtain ⟨_, hl, rfl⟩ := h
  have h2 : ¬ (4611686018427387904 : Int) < (l : Int) := by omega
  have HX := Lib.hid hx
  have HM := Lib.hid hm
  have HL := Lib.hid hl
  have hmk : ∀ W : World, (Instr.makeSlice 37 (.int .i64 128) (.int .i64 128)).run Tryz.prog W = .ok (.slice (some ⟨W.heap.size, 0, none⟩) 128 128) (W.alloc (.cells (Zs 128) 5)) := make8 128 (by omega)
  clear hx hm hl
  by_cases hz : l = 0 ∧ allZ xs = true
  · obtain ⟨rfl, hz⟩ := hz
    have HE : Hid (encV 0 xs = List.replicate 128 0) := Lib.hid (by unfold encV; rw [if_pos ⟨rfl, hz⟩])
    have HZ := Lib.hid hz
    clear hz
    go_enter Tryz.func41, Tryz.ntmps41
    go_wp2_with fail
    refine (noughts_any p 112 c xs _ HX.out hr (Nat.le_trans hc HM.out)).mono ?_
    rintro e w1 ⟨rfl, rfl⟩
    rw [HZ.out]
    go_wp2
    go_ret2
    refine ⟨_, rfl, ?_, (Below.refl _ _).alloc (Nat.le_refl _) _⟩
    rw [HE.out, Zs_arr]
    exact own8_mk (cur := []) (Nat.le_refl _) (by rw [List.append_nil]; exact heap_alloc_new w _) (by simp) rfl (by decide)
  · have HE : Hid (encV l xs = sector l xs) := Lib.hid (by unfold encV; rw [if_neg hz])
    by_cases hl0 : l = 0
    · have hzf : Hid (allZ xs = false) := Lib.hid (by rw [Bool.eq_false_iff]; exact fun h => hz ⟨hl0, h⟩)
      have hlz : ((l : Int) == 0) = true := by rw [beq_iff_eq]; omega
      clear hz hl0
      go_enter Tryz.func41, Tryz.ntmps41
      go_wp2_with fail
      refine (noughts_any p 112 c xs _ HX.out hr (Nat.le_trans hc HM.out)).mono ?_
      rintro e w1 ⟨rfl, rfl⟩
      rw [hzf.out]
      go_wp2_with fail
      go_loopw [6, 28] (fun v i wr => ∃ j : Nat, j ≤ 8 ∧ i = .int .i64 j ∧ Hid (wr.ownsRow w.heap.size 5 1 v (4 + j) (B8s ([0x50, 0, 0, 0] ++ leB l j))) ∧ Below w.heap.size w wr) (fun _ i _ => 8 - (intOf i).toNat)
      case atStart => exact ⟨0, by omega, rfl, Lib.hid (own_lit w [0x50, 0, 0, 0] (Nat.le_refl _) (by decide)), (Below.refl _ _).alloc (Nat.le_refl _) _⟩
      case round =>
        obtain ⟨j, hj, rfl, HO, hb⟩ := hrel
        by_cases hlt : j < 8
        · go_wp2_with (at_builtin; refine wp_app8 (w0 := w) (base := w.heap.size) (n := 4 + j) rfl _ _ rfl _ _ ([0x50, 0, 0, 0] ++ leB l j) (UInt8.ofNat (l / 256 ^ j % 256)) (byte_at l j) rfl rfl HO.out hb hb.size (by omega) ?_)
          intro v1 w1 hown1 hb1
          have HO1 := Lib.hid hown1
          clear hown1
          go_wp2
          go_roundw
          case rel => exact ⟨j + 1, by omega, by go_num, Lib.hid (by rw [leB_snoc, ← List.append_assoc]; exact HO1.out), hb1⟩
          case measure => simp [intOf]; omega
        · obtain rfl : j = 8 := by omega
          have hrw : Rd wr p xs := hr.below hb
          go_wp2_with (at_builtin; refine wp_app8s (w0 := w) (base := w.heap.size) (n := 12) (m := 112) (c := c) rfl _ _ rfl _ ([0x50, 0, 0, 0] ++ leB l 8) xs p rfl rfl HX.out hrw (by omega) HO.out hb hb.size (by omega) ?_)
          intro v1 w1 hown1 hb1
          obtain ⟨p1, cap1, rfl, hr1, hx1, _, _⟩ := own_rd hown1
          have HO1 := Lib.hid hown1
          have HX1 : Hid ((body l xs).length = 124) := Lib.hid hx1
          have hr1' : Rd w1 p1 (body l xs) := hr1
          clear hown1 hx1 hr1
          go_wp2_with fail
          refine (refsum_any p1 124 cap1 (body l xs) _ HX1.out hr1' (by unfold maxLen; omega)).mono ?_
          rintro e w2 ⟨rfl, rfl⟩
          have hSl := sumN_lt (body l xs)
          have HSe : Hid (sector l xs = body l xs ++ leB (sumN (body l xs)) 4) := Lib.hid rfl
          generalize sumN (body l xs) = S at *
          have HF := Lib.hid (four_bytes hSl)
          have hw8 : IntKind.u8.wrap ((S : Nat) : Int) = (S : Int) % 256 := IntKind.wrap_u8 _
          have hrd : Hid (Rd (w1.alloc (Obj.cells #[Value.int .u8 ((S : Int) % 256), Value.int .u8 ((S : Int) / 256 % 256), Value.int .u8 ((S : Int) / 65536 % 256), Value.int .u8 ((S : Int) / 16777216 % 256)] 5)) (some ⟨w1.heap.size, 0, none⟩) (leB S 4)) := Lib.hid (by rw [HF.out]; exact rd_new _ _)
          clear hSl
          go_wp2_with (at_builtin; refine wp_app8s (w0 := w) (base := w.heap.size) (n := 124) (m := 4) (c := 4) rfl _ _ rfl _ (body l xs) (leB S 4) _ rfl rfl (leB_length 4 S) hrd.out (by omega) (HO1.out.alloc _) (hb1.alloc hb1.size _) (by simp; exact Nat.le_succ_of_le hb1.size) (by omega) ?_)
          intro v5 w5 hown5 hb5
          have HO5 := Lib.hid hown5
          clear hown5
          go_wp2
          go_ret2
          exact ⟨_, rfl, by rw [HE.out, HSe.out]; exact HO5.out, hb5⟩
    · have hlz : ((l : Int) == 0) = false := by rw [beq_eq_false_iff_ne]; omega
      clear hz hl0
      go_enter Tryz.func41, Tryz.ntmps41
      go_wp2_with fail
      go_loopw [6, 28] (fun v i wr => ∃ j : Nat, j ≤ 8 ∧ i = .int .i64 j ∧ Hid (wr.ownsRow w.heap.size 5 1 v (4 + j) (B8s ([0x50, 0, 0, 0] ++ leB l j))) ∧ Below w.heap.size w wr) (fun _ i _ => 8 - (intOf i).toNat)
      case atStart => exact ⟨0, by omega, rfl, Lib.hid (own_lit w [0x50, 0, 0, 0] (Nat.le_refl _) (by decide)), (Below.refl _ _).alloc (Nat.le_refl _) _⟩
      case round =>
        obtain ⟨j, hj, rfl, HO, hb⟩ := hrel
        by_cases hlt : j < 8
        · go_wp2_with (at_builtin; refine wp_app8 (w0 := w) (base := w.heap.size) (n := 4 + j) rfl _ _ rfl _ _ ([0x50, 0, 0, 0] ++ leB l j) (UInt8.ofNat (l / 256 ^ j % 256)) (byte_at l j) rfl rfl HO.out hb hb.size (by omega) ?_)
          intro v1 w1 hown1 hb1
          have HO1 := Lib.hid hown1
          clear hown1
          go_wp2
          go_roundw
          case rel => exact ⟨j + 1, by omega, by go_num, Lib.hid (by rw [leB_snoc, ← List.append_assoc]; exact HO1.out), hb1⟩
          case measure => simp [intOf]; omega
        · obtain rfl : j = 8 := by omega
          have hrw : Rd wr p xs := hr.below hb
          go_wp2_with (at_builtin; refine wp_app8s (w0 := w) (base := w.heap.size) (n := 12) (m := 112) (c := c) rfl _ _ rfl _ ([0x50, 0, 0, 0] ++ leB l 8) xs p rfl rfl HX.out hrw (by omega) HO.out hb hb.size (by omega) ?_)
          intro v1 w1 hown1 hb1
          obtain ⟨p1, cap1, rfl, hr1, hx1, _, _⟩ := own_rd hown1
          have HO1 := Lib.hid hown1
          have HX1 : Hid ((body l xs).length = 124) := Lib.hid hx1
          have hr1' : Rd w1 p1 (body l xs) := hr1
          clear hown1 hx1 hr1
          go_wp2_with fail
          refine (refsum_any p1 124 cap1 (body l xs) _ HX1.out hr1' (by unfold maxLen; omega)).mono ?_
          rintro e w2 ⟨rfl, rfl⟩
          have hSl := sumN_lt (body l xs)
          have HSe : Hid (sector l xs = body l xs ++ leB (sumN (body l xs)) 4) := Lib.hid rfl
          generalize sumN (body l xs) = S at *
          have HF := Lib.hid (four_bytes hSl)
          have hw8 : IntKind.u8.wrap ((S : Nat) : Int) = (S : Int) % 256 := IntKind.wrap_u8 _
          have hrd : Hid (Rd (w1.alloc (Obj.cells #[Value.int .u8 ((S : Int) % 256), Value.int .u8 ((S : Int) / 256 % 256), Value.int .u8 ((S : Int) / 65536 % 256), Value.int .u8 ((S : Int) / 16777216 % 256)] 5)) (some ⟨w1.heap.size, 0, none⟩) (leB S 4)) := Lib.hid (by rw [HF.out]; exact rd_new _ _)
          clear hSl
          go_wp2_with (at_builtin; refine wp_app8s (w0 := w) (base := w.heap.size) (n := 124) (m := 4) (c := 4) rfl _ _ rfl _ (body l xs) (leB S 4) _ rfl rfl (leB_length 4 S) hrd.out (by omega) (HO1.out.alloc _) (hb1.alloc hb1.size _) (by simp; exact Nat.le_succ_of_le hb1.size) (by omega) ?_)
          intro v5 w5 hown5 hb5
          have HO5 := Lib.hid hown5
          clear hown5
          go_wp2
          go_ret2
          exact ⟨_, rfl, by rw [HE.out, HSe.out]; exact HO5.out, hb5⟩
end Go.Proofs.YtefalhnllkkkhaaGreatDoor
