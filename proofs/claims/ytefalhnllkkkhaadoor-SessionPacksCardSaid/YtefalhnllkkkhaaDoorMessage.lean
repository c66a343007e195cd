/- A message's bytes: net.message. -/
import Derived.Test.YtefalhnllkkkhaaDoorMayReply
namespace Go.Proofs.YtefalhnllkkkhaaDoor
open Go.RowKit
set_option linter.unusedVariables false

def numsB (ns : List Nat) : List UInt8 := (ns.map varN).flatten
theorem numsB_snoc {ns : List Nat} {k : Nat} (h : k < ns.length) : numsB (ns.take (k + 1)) = numsB (ns.take k) ++ varN ns[k] := by
  unfold numsB
  rw [List.take_succ_eq_append_getElem h, List.map_append, List.flatten_append]
  simp
theorem numsB_length : ∀ (ns : List Nat), (∀ m ∈ ns, m < 9223372036854775808) → (numsB ns).length ≤ 9 * ns.length
  | [], _ => by simp [numsB]
  | m :: ns, h => by
    have h1 := varN_le9 (h m (by simp))
    have h2 := numsB_length ns (fun x hx => h x (by simp [hx]))
    unfold numsB at *
    simp only [List.map_cons, List.flatten_cons, List.length_append, List.length_cons]
    omega

def msgB (k : UInt8) (ns : List Nat) (id text : ByteArray) : List UInt8 := [k] ++ numsB ns ++ varN id.size ++ strB id ++ varN text.size ++ strB text
/-- A frame, without an error. -/
def FrameOK (xs : List UInt8) (w w' : World) (e : Ending) : Prop :=
  ∃ p n c, e = .returned (.tuple #[.slice p n c, .int .i64 0]) ∧ (frameB xs).length = n ∧ Rd w' p (frameB xs) ∧ Below w.heap.size w w'
theorem FrameQ.ok {xs : List UInt8} {w w' : World} {e : Ending} (h : FrameQ xs w w' e) (hl : xs.length ≤ 65536) : FrameOK xs w w' e := by
  obtain ⟨p, n, c, h1, h2, h3, h4⟩ := h
  rw [if_neg (by omega)] at h1 h2 h3
  exact ⟨p, n, c, h1, h2, h3, h4⟩
set_option maxHeartbeats 1000000 in
set_option maxRecDepth 20000 in
theorem message_any (k : UInt8) (id text : ByteArray) (p : Option Addr) (n c : Nat) (ns : List Nat) (w : World) (hn : ns.length = n) (hn8 : n ≤ 8) (hns : ∀ m ∈ ns, m < 9223372036854775808)
    (hc : ∀ j (h : j < ns.length), ∃ b o, p = some ⟨b, o, none⟩ ∧ w.cell? ⟨b, o + j, none⟩ = some (.int .i64 (ns[j] : Nat))) (h1 : id.size ≤ 1000) (h2 : text.size ≤ 1000) (hT : Halves w) :
    Calls Tryd.prog 54 #[.int .u8 (k.toNat : Int), .string id, .string text, .slice p n c] w fun e w' =>
      FrameOK (msgB k ns id text) w w' e := by
  have HN := Lib.hid hn
  have HNS := Lib.hid hns
  have HC := Lib.hid hc
  have HT := Lib.hid hT
  have H1 := Lib.hid h1
  have H2 := Lib.hid h2
  clear hn hns hc hT h1 h2
  go_enter Tryd.func54, Tryd.ntmps54
  go_wp2_with fail
  go_loopw [10, 17] (fun v i wr => ∃ j : Nat, j ≤ n ∧ i = .int .i64 j ∧ Hid (wr.ownsRow w.heap.size 5 1 v ([k] ++ numsB (ns.take j)).length (B8s ([k] ++ numsB (ns.take j)))) ∧ Below w.heap.size w wr) (fun _ i _ => n - (intOf i).toNat)
  case atStart => exact ⟨0, Nat.zero_le _, rfl, Lib.hid (own_lit w [k] (Nat.le_refl _) (by simp [maxLen])), (Below.refl _ w).alloc (Nat.le_refl _) _⟩
  case round =>
    obtain ⟨j, hj, rfl, HO, hb⟩ := hrel
    by_cases hlt : j < n
    · have hjn : j < ns.length := by rw [HN.out]; exact hlt
      obtain ⟨b, o, rfl, hcell⟩ := HC.out j hjn
      have hcell' := (hb.cell (cell_lt hcell)).trans hcell
      have hm := HNS.out _ (List.getElem_mem hjn)
      have HE := Lib.hid (numsB_snoc hjn)
      obtain ⟨m, hme⟩ : ∃ m, m = ns[j] := ⟨_, rfl⟩
      rw [← hme] at hcell' hm HE
      have hl := numsB_length (ns.take j) (fun x hx => HNS.out x (List.mem_of_mem_take hx))
      rw [List.length_take] at hl
      have HL : Hid (([k] ++ numsB (ns.take j)).length + 9 ≤ 140737488355328) := Lib.hid (by simp; omega)
      obtain ⟨y, hy⟩ : ∃ y, y = [k] ++ numsB (ns.take j) := ⟨_, rfl⟩
      rw [← hy] at HO HL
      obtain ⟨L, hL⟩ : ∃ L, L = y.length := ⟨_, rfl⟩
      rw [← hL] at HO HL
      obtain ⟨pb, cb, rfl, hrb, hxb, _, _⟩ := own_rd HO.out
      have HRB := Lib.hid hrb
      have HY := Lib.hid hy
      have HM := Lib.hid hm
      have HLL := Lib.hid hL
      clear hcell hme hl hrb hxb hy hm hL HO
      go_wp2_with fail
      refine (put_any pb L cb y m _ HLL.out.symm HL.out HM.out HRB.out).mono ?_
      rintro e w2 ⟨v2, rfl, hown2, hb2⟩
      have HO2 := Lib.hid (own_mono hown2 hb.size)
      have hb02 : Below w.heap.size w w2 := hb.trans (hb2.mono hb.size)
      clear hown2
      go_wp2
      go_roundw
      case rel => exact ⟨j + 1, by omega, by go_num, Lib.hid (by rw [HE.out, ← List.append_assoc, ← HY.out]; exact HO2.out), hb02⟩
      case measure => simp [intOf]; omega
    · obtain rfl : j = n := by omega
      have e : ns.take j = ns := List.take_of_length_le (by rw [HN.out]; exact Nat.le_refl _)
      rw [e] at HO
      have hl := numsB_length ns HNS.out
      rw [HN.out] at hl
      have hL0 : ([k] ++ numsB ns).length ≤ 73 := by simp; omega
      have HL0 := Lib.hid hL0
      obtain ⟨y, hy⟩ : ∃ y, y = [k] ++ numsB ns := ⟨_, rfl⟩
      rw [← hy] at HO HL0
      obtain ⟨L, hL⟩ : ∃ L, L = y.length := ⟨_, rfl⟩
      rw [← hL] at HO HL0
      obtain ⟨pb, cb, rfl, hrb, hxb, _, _⟩ := own_rd HO.out
      have HRB := Lib.hid hrb
      have HY := Lib.hid hy
      have HLL := Lib.hid hL
      clear hl hrb hxb hy hL0 e HO hL
      go_wp2_with fail
      refine (text_any pb L cb y id _ HLL.out.symm (by have := HL0.out; have := H1.out; omega) HRB.out).mono ?_
      rintro e w2 ⟨v2, rfl, hown2, hb2⟩
      have hb02 : Below w.heap.size w w2 := hb.trans (hb2.mono hb.size)
      have HL1 : Hid ((y ++ varN id.size ++ strB id).length ≤ 1082) := Lib.hid (by
        have h9 := varN_le9 (n := id.size) (by have := H1.out; omega)
        have := HL0.out
        have := H1.out
        have := HLL.out
        rw [List.length_append, List.length_append, strB_length]
        omega)
      obtain ⟨y2, hy2⟩ : ∃ y2, y2 = y ++ varN id.size ++ strB id := ⟨_, rfl⟩
      rw [← hy2] at hown2 HL1
      obtain ⟨L2, hL2⟩ : ∃ L, L = y2.length := ⟨_, rfl⟩
      rw [← hL2] at hown2 HL1
      obtain ⟨p2, c2, rfl, hr2, hx2, _, _⟩ := own_rd hown2
      have HR2 := Lib.hid hr2
      have HLL2 := Lib.hid hL2
      have HY2 := Lib.hid hy2
      clear hown2 hr2 hx2 hy2 hL2
      go_wp2_with fail
      refine (text_any p2 L2 c2 y2 text _ HLL2.out.symm (by have := HL1.out; have := H2.out; omega) HR2.out).mono ?_
      rintro e w3 ⟨v3, rfl, hown3, hb3⟩
      have hb03 : Below w.heap.size w w3 := hb02.trans (hb3.mono hb02.size)
      have HL2 : Hid ((y2 ++ varN text.size ++ strB text).length ≤ 2091) := Lib.hid (by
        have h9 := varN_le9 (n := text.size) (by have := H2.out; omega)
        have := HL1.out
        have := H2.out
        have := HLL2.out
        rw [List.length_append, List.length_append, strB_length]
        omega)
      obtain ⟨y3, hy3⟩ : ∃ y3, y3 = y2 ++ varN text.size ++ strB text := ⟨_, rfl⟩
      rw [← hy3] at hown3 HL2
      obtain ⟨L3, hL3⟩ : ∃ L, L = y3.length := ⟨_, rfl⟩
      rw [← hL3] at hown3 HL2
      obtain ⟨p3, c3, rfl, hr3, hx3, _, _⟩ := own_rd hown3
      have HR3 := Lib.hid hr3
      have HLL3 := Lib.hid hL3
      have HY3 := Lib.hid hy3
      clear hown3 hr3 hx3 hy3 hL3
      go_wp2_with fail
      refine (frame_any p3 L3 c3 y3 _ HLL3.out.symm HR3.out (by have := HL2.out; omega) (HT.out.below hb03)).mono ?_
      rintro e w4 hq4
      obtain ⟨p4, m4, c4, rfl, hl4, hr4, hb4⟩ := hq4.ok (by have := HL2.out; have := HLL3.out; omega)
      clear hq4
      have hb04 : Below w.heap.size w w4 := hb03.trans (hb4.mono hb03.size)
      have HYE : Hid (y3 = msgB k ns id text) := Lib.hid (by rw [HY3.out, HY2.out, HY.out]; rfl)
      have HL4 := Lib.hid hl4
      have HR4 := Lib.hid hr4
      clear hl4 hr4
      go_wp2
      go_ret2
      rw [← HYE.out]
      exact ⟨p4, m4, c4, rfl, HL4.out, HR4.out, hb04⟩
end Go.Proofs.YtefalhnllkkkhaaDoor
