/- The log's sector: little, join, sector. -/
import Derived.Test.YtheeomjfpnijbaaGreatDoorLogZero
namespace Go.Proofs.YtheeomjfpnijbaaGreatDoor
open Go.RowKit Go.Deep
set_option linter.unusedVariables false

theorem make8I (m : Nat) (hm : m ≤ 281474976710656) (W : World) :
    (Instr.makeSlice 76 (.int .i64 (m : Int)) (.int .i64 (m : Int))).run Tryz.prog W = .ok (.slice (some ⟨W.heap.size, 0, none⟩) m m) (W.alloc (.cells (Zs m) 5)) := make8 m hm W
def littleR (N j k : Nat) : List UInt8 := leB N j ++ zeros (k - j)
theorem littleR_length {N j k : Nat} (h : j ≤ k) : (littleR N j k).length = k := by simp [littleR, leB_length, zeros]; omega
theorem littleR_set {N j k : Nat} (h : j < k) : (B8s (littleR N j k)).set j (B8 (UInt8.ofNat (N / 256 ^ j % 256))) = B8s (littleR N (j + 1) k) := by
  unfold littleR B8s
  rw [leB_snoc]
  have e : k - j = (k - (j + 1)) + 1 := by omega
  rw [e]
  unfold zeros
  rw [List.replicate_succ, List.map_append, List.map_append, List.map_append, List.map_cons, List.set_append_right _ _ (by simp [leB_length])]
  simp [leB_length]
set_option maxRecDepth 20000 in
set_option maxHeartbeats 1000000 in
theorem little_any (N k : Nat) (w : World) (hN : N < 18446744073709551616) (hk : k ≤ 8) :
    Calls Tryz.prog 221 #[.int .u64 N, .int .i64 k] w fun e w' => ∃ v', e = .returned v' ∧ w'.ownsRow w.heap.size 5 1 v' k (B8s (leB N k)) ∧ Below w.heap.size w w' := by
  have HN := Lib.hid hN
  have hmk := make8I k (by omega)
  clear hN
  go_enter Tryz.func221, Tryz.ntmps221
  go_wp2
  go_loopw [11] (fun i wr => ∃ j : Nat, j ≤ k ∧ i = .int .i64 j ∧ Hid (wr.heap[w.heap.size]? = some (.cells (B8s (littleR N j k)).toArray 5 (0, 0))) ∧ Hid (Below w.heap.size w wr)) (fun i _ => k - (intOf i).toNat)
  case atStart => exact ⟨0, Nat.zero_le _, rfl, Lib.hid (by rw [heap_alloc_new, Zs_arr]; rfl), Lib.hid ((Below.refl _ w).alloc (Nat.le_refl _) _)⟩
  case round =>
    obtain ⟨j, hj, rfl, HH, HB⟩ := hrel
    by_cases hlt : j < k
    · have kc : wr.cell? ⟨w.heap.size, j, none⟩ = some (.int .u8 0) := by
        simp only [World.cell?, HH.out]
        have e0 : (littleR N j k)[j]? = some 0 := by
          unfold littleR zeros
          rw [List.getElem?_append_right (by rw [leB_length]; exact Nat.le_refl _), leB_length, List.getElem?_replicate, if_pos (by omega)]
        have : (B8s (littleR N j k))[j]? = some (.int .u8 0) := by
          unfold B8s
          rw [List.getElem?_map, e0]
          rfl
        simpa using this
      have kf := frozenC (i := j) HH.out
      have hv : Value.int .u8 ((N : Int) / 2 ^ (8 * j) % 256) = B8 (UInt8.ofNat (N / 256 ^ j % 256)) := by
        have e : (2 : Int) ^ (8 * j) = ((256 ^ j : Nat) : Int) := by rw [Int.pow_mul]; norm_cast
        rw [e]
        simp [B8]
      have HV := Lib.hid hv
      clear hv
      go_wp2_with fail
      go_roundw
      case rel =>
        refine ⟨j + 1, by omega, by go_num, Lib.hid ?_, Lib.hid (HB.out.setCell (Nat.le_refl _) _)⟩
        rw [HV.out, heap_setCell_same wr w.heap.size j _ _ _ HH.out, ← littleR_set hlt]
        simp
      case measure => simp [intOf]; omega
    · obtain rfl : j = k := by omega
      go_wp2
      go_ret
      have hh := HH.out
      unfold littleR at hh
      rw [Nat.sub_self] at hh
      simp only [zeros, List.replicate_zero, List.append_nil] at hh
      refine ⟨_, rfl, ⟨by rw [B8s_length, leB_length, Nat.mul_one], .inr ⟨w.heap.size, j, _, rfl, Nat.le_refl _, hh, Nat.le_refl _, by unfold maxLen; omega, by simp [B8s_length, leB_length, Nat.mul_one], ?_⟩⟩, HB.out⟩
      show List.take (j * 1) (B8s (leB N j)) = _
      rw [List.take_of_length_le (by rw [B8s_length, leB_length]; omega)]

/-- So many bytes that begin so. -/
def padTo (m : Nat) (xs : List UInt8) : List UInt8 := xs ++ zeros (m - xs.length)
theorem padTo_length {m : Nat} {xs : List UInt8} (h : xs.length ≤ m) : (padTo m xs).length = m := by simp [padTo, zeros]; omega
set_option maxHeartbeats 1000000 in
set_option maxRecDepth 20000 in
theorem join_any (m : Nat) (p : Option Addr) (n c : Nat) (ps : List (List UInt8)) (w : World) (hn : ps.length = n) (hn3 : n ≤ 1000000000) (h : PartsRd w p ps) (hf : ps.flatten.length ≤ m) (h0 : 0 < m) (hm : m ≤ 1000000) (hlt : ∀ k, k < ps.length → (ps.take k).flatten.length < m) :
    Calls Tryz.prog 220 #[.int .i64 m, .slice p n c] w fun e w' => ∃ v', e = .returned v' ∧ w'.ownsRow w.heap.size 5 1 v' m (B8s (padTo m ps.flatten)) ∧ Below w.heap.size w w' := by
  have HN := Lib.hid hn
  have hmk := make8I m (by omega)
  have HLT := Lib.hid hlt
  have HF := Lib.hid hf
  clear hn hlt hf
  go_enter Tryz.func220, Tryz.ntmps220
  go_wp2
  go_loopw [6, 13] (fun t i wr => ∃ k at' : Nat, k ≤ n ∧ i = .int .i64 k ∧ t = .int .i64 at' ∧ Hid (at' = (ps.take k).flatten.length) ∧ Hid (wr.heap[w.heap.size]? = some (.cells (B8s (padTo m (ps.take k).flatten)).toArray 5 (0, 0))) ∧ Below w.heap.size w wr) (fun _ i _ => n - (intOf i).toNat)
  case atStart => exact ⟨0, 0, Nat.zero_le _, rfl, rfl, Lib.hid rfl, Lib.hid (by rw [heap_alloc_new, Zs_arr]; rfl), (Below.refl _ w).alloc (Nat.le_refl _) _⟩
  case round =>
    obtain ⟨k, at', hk, rfl, rfl, HA, HC, hb⟩ := hrel
    by_cases hlt : k < n
    · have hkl : k < ps.length := by rw [HN.out]; exact hlt
      obtain ⟨b, o, q, cq, rfl, hc, hr⟩ := h k hkl
      have hc' := (hb.cell (cell_lt hc)).trans hc
      have hle1 : at' + (ps[k]).length ≤ m := by
        have := flat_take_le ps (k + 1)
        rw [flat_take_succ hkl, List.length_append] at this
        have := HA.out
        have := HF.out
        omega
      have hle2 : at' < m := by rw [HA.out]; exact HLT.out k hkl
      have HS := Lib.hid (flat_take_succ hkl)
      have hrq : Rd wr q ps[k] := hr.below hb
      have hlen : (padTo m (ps.take k).flatten).length = m := padTo_length (by have := flat_take_le ps k; have := HF.out; omega)
      have HQ := Lib.hid hrq
      have HLen := Lib.hid hlen
      clear hc hr hrq hlen
      have hmin : Hid ((B8s ps[k]).length = Nat.min (ps[k]).length (m - at')) := Lib.hid (by rw [B8s_length]; show _ = min _ _; omega)
      have hsz8 : (Tryz.prog.info? 5).map (·.size) = some 1 := by kernel_rfl
      have hne : (at' = m) = False := eq_false (by omega)
      go_wp2_with (with_reducible (refine wpList_copy_splice rfl (.tmp 20) (.tmp 21) 76 76 rfl 5 Tryz.underlying76 hsz8 _ _ _ _ _ _ rfl rfl w.heap.size at' (B8s (padTo m (ps.take k).flatten)) 5 HC.out (B8s ps[k]) hmin.out ?n2 ?n3 B8s_one w.heap.size w hb (Nat.le_refl _) ?_))
      case n2 => intro hp; rw [B8s_length] at hp; exact HQ.out.news hp
      case n3 => rw [B8s_length, B8s_length, HLen.out]; omega
      intro w2 hh2 hb2
      have e1 : splice (B8s (padTo m (ps.take k).flatten)) at' (B8s ps[k]) = B8s (padTo m (ps.take (k + 1)).flatten) := by
        have ha := HA.out
        have hl : (ps.take k).flatten.length ≤ m := by have := flat_take_le ps k; have := HF.out; omega
        rw [HS.out]
        unfold splice padTo B8s zeros
        generalize (ps.take k).flatten = xs at *
        generalize ps[k] = ys at *
        subst ha
        rw [← List.map_take, ← List.map_drop, ← List.map_append, ← List.map_append]
        congr 1
        rw [List.take_left, List.length_map, List.length_append, List.append_assoc]
        congr 1
        congr 1
        rw [List.drop_append, List.drop_of_length_le (by omega), List.nil_append, List.drop_replicate]
        congr 1
        omega
      have H2 : Hid (w2.heap[w.heap.size]? = some (.cells (B8s (padTo m (ps.take (k + 1)).flatten)).toArray 5 (0, 0))) := Lib.hid (by rw [hh2.out, e1])
      have HA2 : Hid (at' + (ps[k]).length = (ps.take (k + 1)).flatten.length) := Lib.hid (by rw [HS.out, List.length_append, HA.out])
      have hbl := B8s_length ps[k]
      clear hh2 e1 hne
      go_wp2
      go_roundw
      case rel => exact ⟨k + 1, at' + (ps[k]).length, by omega, by go_num, by go_num, HA2, H2, hb2⟩
      case measure => simp [intOf]; omega
    · obtain rfl : k = n := by omega
      have e : ps.take k = ps := List.take_of_length_le (by rw [HN.out]; exact Nat.le_refl _)
      rw [e] at HC
      have hl : (padTo m ps.flatten).length = m := padTo_length HF.out
      go_wp2
      go_ret
      refine ⟨_, rfl, ⟨by rw [B8s_length, hl, Nat.mul_one], .inr ⟨w.heap.size, m, _, rfl, Nat.le_refl _, HC.out, Nat.le_refl _, by unfold maxLen; omega, by simp [B8s_length, hl, Nat.mul_one], ?_⟩⟩, hb⟩
      show List.take (m * 1) (B8s (padTo m ps.flatten)) = _
      rw [List.take_of_length_le (by rw [B8s_length, hl]; omega)]

/-- The log's sector: what of it the sum is over, and it. -/
def lbody (place first : Nat) (load : List UInt8) : List UInt8 := [0x4c, UInt8.ofNat load.length] ++ leB place 2 ++ leB first 8 ++ load
def lsec (place first : Nat) (load : List UInt8) : List UInt8 := padTo 124 (lbody place first load) ++ leB (sumN (padTo 124 (lbody place first load))) 4
theorem lbody_length (place first : Nat) (load : List UInt8) : (lbody place first load).length = 12 + load.length := by
  simp [lbody, leB_length]
  omega
theorem lsec_length {place first : Nat} {load : List UInt8} (h : load.length ≤ 112) : (lsec place first load).length = 128 := by
  rw [lsec, List.length_append, padTo_length (by rw [lbody_length]; omega), leB_length]
theorem wrapU {n : Nat} (h : n < 18446744073709551616) : IntKind.u64.wrap (n : Int) = n := by
  simp [IntKind.wrap, IntKind.bits, IntKind.signed]
  omega
theorem parts4 {w W0 W : World} {p q2 q8 : Option Addr} {n c c2 c8 place first : Nat} {xs : List UInt8} (h0 : W.cell? ⟨W0.heap.size, 0, none⟩ = some (.slice (some ⟨w.heap.size, 0, none⟩) 2 2)) (h1 : W.cell? ⟨W0.heap.size, 1, none⟩ = some (.slice q2 2 c2)) (h2 : W.cell? ⟨W0.heap.size, 2, none⟩ = some (.slice q8 8 c8)) (h3 : W.cell? ⟨W0.heap.size, 3, none⟩ = some (.slice p n c))
    (k0 : W.cell? ⟨w.heap.size, 0, none⟩ = some (.int .u8 76)) (k1 : W.cell? ⟨w.heap.size, 1, none⟩ = some (.int .u8 n)) (hx : xs.length = n) (hn : n ≤ 112) (r2 : Rd W q2 (leB place 2)) (r8 : Rd W q8 (leB first 8)) (r : Rd W p xs) :
    PartsRd W (some ⟨W0.heap.size, 0, none⟩) [[0x4c, UInt8.ofNat xs.length], leB place 2, leB first 8, xs] := by
  intro k hk
  match k, hk with
  | 0, _ =>
    refine ⟨_, _, _, 2, rfl, h0, fun _ => ⟨w.heap.size, 0, rfl, fun i v hv => ?_⟩⟩
    have hi : i < 2 := by have := (List.getElem?_eq_some_iff.1 hv).1; simpa [B8s] using this
    match i, hi with
    | 0, _ => rw [k0, ← hv]; rfl
    | 1, _ =>
      rw [k1, ← hv, hx]
      simp [B8s, B8]
      omega
  | 1, _ => exact ⟨_, _, q2, c2, rfl, by simpa [leB_length] using h1, r2⟩
  | 2, _ => exact ⟨_, _, q8, c8, rfl, by simpa [leB_length] using h2, r8⟩
  | 3, _ => exact ⟨_, _, p, c, rfl, by simpa [hx] using h3, r⟩
set_option maxHeartbeats 1000000 in
set_option maxRecDepth 20000 in
theorem sector_any (place first : Nat) (p : Option Addr) (n c : Nat) (xs : List UInt8) (w : World) (hx : xs.length = n) (hr : Rd w p xs) (hn : n ≤ 112) (hp : place < 65536) (hf : first < 9223372036854775808) (hT : Halves w) :
    Calls Tryz.prog 160 #[.int .i64 place, .int .i64 first, .slice p n c] w fun e w' => ∃ v', e = .returned v' ∧ w'.ownsRow w.heap.size 5 1 v' 128 (B8s (lsec place first xs)) ∧ Below w.heap.size w w' := by
  have HX := Lib.hid hx
  have HR := Lib.hid hr
  have HT := Lib.hid hT
  have HF := Lib.hid hf
  have HP := Lib.hid hp
  have hwp := wrapU (n := place) (by omega)
  have hwf := wrapU (n := first) (by omega)
  clear hx hr hT hf hp
  go_enter Tryz.func160, Tryz.ntmps160
  go_wp2_with fail
  have HB0 := Lib.hid ((Below.refl w.heap.size w).alloc (Nat.le_refl _) (.cells #[.int .u8 76, .int .u8 n] 5))
  have k0 : (w.alloc (.cells #[.int .u8 76, .int .u8 n] 5)).cell? ⟨w.heap.size, 0, none⟩ = some (.int .u8 76) := cellNew rfl
  have k1 : (w.alloc (.cells #[.int .u8 76, .int .u8 n] 5)).cell? ⟨w.heap.size, 1, none⟩ = some (.int .u8 n) := cellNew rfl
  have HK := Lib.hid (And.intro k0 k1)
  clear k0 k1
  refine (little_any place 2 _ (by have := HP.out; omega) (by omega)).mono ?_
  rintro e w1 ⟨v2, rfl, ho2, hb1⟩
  obtain ⟨q2, c2, rfl, hr2, hx2, -, -⟩ := own_rd ho2
  have HR2 := Lib.hid hr2
  have HB1 := Lib.hid hb1
  clear ho2 hr2 hx2 hb1
  go_wp2_with fail
  refine (little_any first 8 _ (by have := HF.out; omega) (by omega)).mono ?_
  rintro e w2 ⟨v8, rfl, ho8, hb2⟩
  obtain ⟨q8, c8, rfl, hr8, hx8, -, -⟩ := own_rd ho8
  have HR8 := Lib.hid hr8
  have HB2 := Lib.hid hb2
  clear ho8 hr8 hx8 hb2
  go_wp2_with fail
  have HB3 : Hid (Below w.heap.size w (w2.alloc (.cells #[.slice (some ⟨w.heap.size, 0, none⟩) 2 2, .slice q2 2 c2, .slice q8 8 c8, .slice p n c] 76))) := Lib.hid (by
    have h := chainC (chainC HB0.out HB1.out) HB2.out
    exact h.alloc h.size _)
  refine (join_any 124 _ 4 4 [[0x4c, UInt8.ofNat xs.length], leB place 2, leB first 8, xs] _ rfl (by omega) (parts4 (w := w) (W0 := w2) (p := p) (q2 := q2) (q8 := q8) (n := n) (c := c) (c2 := c2) (c8 := c8) (cellNew rfl) (cellNew rfl) (cellNew rfl) (cellNew rfl) ?a0 ?a1 HX.out hn ?a2 ?a3 ?a4) (by simp [leB_length, HX.out]; omega) (by omega) (by omega) (fun k hk => ?a5)).mono ?_
  case a0 => exact keepC (below_alloc (chainC HB1.out HB2.out) _) HK.out.1
  case a1 => exact keepC (below_alloc (chainC HB1.out HB2.out) _) HK.out.2
  case a2 => exact HR2.out.below (below_alloc HB2.out _)
  case a3 => exact HR8.out.below (below_alloc (Below.refl _ _) _)
  case a4 => exact HR.out.below HB3.out
  case a5 =>
    have : k = 0 ∨ k = 1 ∨ k = 2 ∨ k = 3 := by simp at hk; omega
    rcases this with rfl | rfl | rfl | rfl <;> simp [leB_length]
  rintro e w3 ⟨v3, rfl, ho3, hb3⟩
  have e4 : [[0x4c, UInt8.ofNat xs.length], leB place 2, leB first 8, xs].flatten = lbody place first xs := by simp [lbody]
  rw [e4] at ho3
  have HB4 := Lib.hid (chainC HB3.out hb3)
  have HT4 := Lib.hid (HT.out.below HB4.out)
  have HO3 := Lib.hid (own_mono ho3 HB3.out.size)
  obtain ⟨q3, c3, rfl, hr3, hx3, -, -⟩ := own_rd ho3
  have HR3 := Lib.hid hr3
  have HX3 := Lib.hid hx3
  clear ho3 hr3 hx3 hb3 e4
  go_wp2_with fail
  refine (sum_any q3 124 c3 _ _ HX3.out HR3.out (by unfold maxLen; omega) HT4.out).mono ?_
  rintro e w5 ⟨rfl, rfl⟩
  have hSl := sumN_lt (padTo 124 (lbody place first xs))
  obtain ⟨S, hSe⟩ : ∃ S, sumN (padTo 124 (lbody place first xs)) = S := ⟨_, rfl⟩
  rw [hSe] at hSl
  rw [hSe]
  have HSe := Lib.hid hSe
  have hwS := wrapU (n := S) (by omega)
  have HSl := Lib.hid hSl
  clear hSe hSl hwp hwf
  go_wp2_with fail
  refine (little_any S 4 _ (by have := HSl.out; omega) (by omega)).mono ?_
  rintro e w6 ⟨v4, rfl, ho4, hb6⟩
  obtain ⟨q4, c4, rfl, hr4, hx4, -, -⟩ := own_rd ho4
  have HR4 := Lib.hid hr4
  have HX4 := Lib.hid hx4
  have HB6 := Lib.hid (chainC HB4.out hb6)
  have HO6 := Lib.hid (own_upd HO3.out (Upd.of_below' hb6 (fun _ => False)) (fun k hk => hk.elim))
  clear ho4 hr4 hx4 hb6
  go_wp2_with (at_builtin; refine wp_appx (w0 := w) (base := w.heap.size) (n := 124) (m := 4) rfl (.tmp 21) (.tmp 25) rfl _ (padTo 124 (lbody place first xs)) (leB S 4) q4 rfl rfl HX4.out HR4.out HO6.out HB6.out HB6.out.size (by omega) ?_)
  intro v7 w7 ho7 hb7
  have HO7 := Lib.hid ho7
  clear ho7
  go_wp2
  go_ret
  refine ⟨_, rfl, ?_, hb7⟩
  unfold lsec
  rw [HSe.out]
  exact HO7.out
end Go.Proofs.YtheeomjfpnijbaaGreatDoor
