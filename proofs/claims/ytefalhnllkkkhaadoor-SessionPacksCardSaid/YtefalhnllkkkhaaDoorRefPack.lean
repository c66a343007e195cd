/- The document's Pack: the same changes. -/
import Derived.Test.YtefalhnllkkkhaaDoorCut
namespace Go.Proofs.YtefalhnllkkkhaaDoor
open Go.RowKit
set_option linter.unusedVariables false

theorem packN_max (len : Nat) : max (1 : Int) (((len : Int) + 1399) / 1400) = ((packN len : Nat) : Int) := by
  unfold packN pieces
  split
  · subst_vars; rfl
  · omega
theorem chunk_cut (xs : List UInt8) (k : Nat) : (xs.drop (min xs.length (1400 * k))).take (min xs.length (1400 * k + 1400) - min xs.length (1400 * k)) = chunkB xs k := by
  unfold chunkB
  by_cases h : xs.length ≤ 1400 * k
  · rw [List.drop_of_length_le (by omega), List.drop_of_length_le h]; simp
  · rw [Nat.min_eq_right (show 1400 * k ≤ xs.length by omega)]
    by_cases h2 : xs.length ≤ 1400 * k + 1400
    · rw [Nat.min_eq_left h2, List.take_of_length_le (by simp), List.take_of_length_le (by rw [List.length_drop]; omega)]
    · rw [Nat.min_eq_right (by omega)]
      congr 1
      omega

set_option maxHeartbeats 2000000 in
set_option maxRecDepth 20000 in
theorem refpack_any (id : Int) (p : Option Addr) (len c : Nat) (xs : List UInt8) (w : World) (hx : xs.length = len) (hr : Rd w p xs) (hlen : len ≤ 140737488351232) (hc : len ≤ c) (hcm : c ≤ 9223372036854775807) :
    Calls Tryd.prog 14 #[.int .i64 id, .slice p len c] w fun e w' => PackQ id xs w w' e := by
  have HX := Lib.hid hx
  have HC := Lib.hid hc
  have HCM := Lib.hid hcm
  have HLEN := Lib.hid hlen
  clear hc hcm
  by_cases h1 : 1 ≤ id ∧ id ≤ 9999
  · have hd1 : decide (1 ≤ id ∧ id ≤ 9999) = true := decide_eq_true h1
    have E1 : Hid (packE id xs.length = if packN len ≤ 40 then 0 else 4) := Lib.hid (by unfold packE; rw [if_pos h1, hx])
    have L1 : Hid (packL id xs = if packN len ≤ 40 then packPre id.toNat xs (packN len) (packN len) else []) := Lib.hid (by unfold packL; rw [if_pos h1, hx])
    obtain ⟨I, hI⟩ : ∃ I : Nat, id = I := ⟨id.toNat, by omega⟩
    subst hI
    have HI : Hid (I ≤ 9999) := Lib.hid (by omega)
    have HD1 := Lib.hid hd1
    have HR := Lib.hid hr
    have hmax := packN_max len
    obtain ⟨N, hN⟩ : ∃ N, N = packN len := ⟨_, rfl⟩
    rw [← hN] at hmax E1 L1
    have HNN := Lib.hid hN
    clear h1 hx hd1 hr hN
    go_enter Tryd.func14, Tryd.ntmps14
    go_wp2_with fail
    refine (refmay_any _ _).mono ?_
    rintro e w1 ⟨rfl, rfl⟩
    rw [HD1.out]
    by_cases h40 : N ≤ 40
    · have hd40 : decide ((N : Int) > 40) = false := by simp; omega
      have E2 : Hid (packE (↑I) xs.length = 0) := Lib.hid (by rw [E1.out, if_pos h40])
      have L2 : Hid (packL (↑I) xs = packPre I xs N N) := Lib.hid (by rw [L1.out, if_pos h40]; rfl)
      have H40 := Lib.hid h40
      clear h40 E1 L1
      go_wp2_with fail
      go_loopw [7, 21] (fun v i wr => ∃ (k : Nat) (rows : List ChR), k ≤ N ∧ i = .int .i64 k ∧ Hid (rows.map (fun r => (r.1, r.2.2)) = packPre I xs N k) ∧ Hid (PackAt wr w1.heap.size v rows) ∧ Hid (Below w1.heap.size w1 wr)) (fun _ i _ => N - (intOf i).toNat)
      case atStart => exact ⟨0, [], Nat.zero_le _, rfl, Lib.hid rfl, Lib.hid (PackAt.nil _ _), Lib.hid (Below.refl _ _)⟩
      case round =>
        obtain ⟨k, rows, hk, rfl, HRW, HPA, HBW⟩ := hrel
        by_cases hlt : k < N
        · obtain ⟨a1, ha1⟩ : ∃ a1, a1 = min len (1400 * k) := ⟨_, rfl⟩
          obtain ⟨a2, ha2⟩ : ∃ a2, a2 = min len (1400 * k + 1400) := ⟨_, rfl⟩
          have hm1 : min (len : Int) ((k : Int) * 1400) = (a1 : Int) := by omega
          have hm2 : min (len : Int) ((k : Int) * 1400 + 1400) = (a2 : Int) := by omega
          have h12 : a1 ≤ a2 := by omega
          have h2c : a2 ≤ c := by have := HC.out; omega
          have hchunk : (xs.drop a1).take (a2 - a1) = chunkB xs k := by rw [ha1, ha2, ← HX.out]; exact chunk_cut xs k
          have HCH := Lib.hid hchunk
          have HA1 : Hid (a1 ≤ len) := Lib.hid (by omega)
          have HA2 : Hid (a2 ≤ len) := Lib.hid (by omega)
          clear ha1 ha2 hchunk
          have hk9 : (k : Int) * 1400 ≤ 140000 := by have := H40.out; omega
          have hlen2 : len ≤ 140737488351232 := hlen
          have HAL := Lib.hid ((Below.refl _ wr).alloc (Nat.le_refl _) (.cells #[] 5))
          have HRA := Lib.hid ((HR.out.below HBW.out).below HAL.out)
          have H12 := Lib.hid h12
          have HOE := Lib.hid (World.ownsRow_made wr (base := wr.heap.size) (e := 5) (size := 1) #[] 0 (Nat.le_refl _) (Nat.zero_le _) rfl)
          clear h12 h2c
          go_wp2_with (with_reducible (refine wp_cut rfl (.tmp 25) (.tmp 30) (.tmp 36) rfl p len c a1 a2 xs rfl rfl rfl H12.out HA2.out HC.out HX.out HRA.out ?_))
          intro q d hrq _ _
          obtain ⟨M, hM⟩ : ∃ M, M = a2 - a1 := ⟨_, rfl⟩
          rw [HCH.out] at hrq
          rw [← hM]
          have hML : (chunkB xs k).length = M := by rw [← HCH.out, List.length_take, List.length_drop, HX.out, hM]; have := HA2.out; omega
          have HML := Lib.hid hML
          have HM4 : Hid (M ≤ 1400) := Lib.hid (by rw [← hML]; unfold chunkB; rw [List.length_take]; omega)
          have HRQ := Lib.hid hrq
          clear hrq hM hML hm1 hm2 hk9 hlen2 HRA H12
          go_wp2_with (at_builtin; refine wp_appx (w0 := wr) (base := wr.heap.size) (n := 0) rfl (.tmp 24) (.tmp 37) rfl _ [] (chunkB xs k) q rfl rfl HML.out HRQ.out HOE.out HAL.out HAL.out.size (by have := HM4.out; omega) ?_)
          intro v2 w2 hown2 hb2
          obtain ⟨q2, d2, rfl, hqd2⟩ := own_slice hown2
          have HO2 := Lib.hid hown2
          have HB2 := Lib.hid hb2
          obtain ⟨L, hL⟩ : ∃ L, L = (pieceBytes xs N k).length := ⟨_, rfl⟩
          have HL := Lib.hid hL
          clear hown2 hb2 hL
          go_upto_if 40 with fail
          go_cut [9] (fun v wx => ∃ q3 d3, v = .slice q3 L d3 ∧ Hid (wx.ownsRow wr.heap.size 5 1 (.slice q3 L d3) L (B8s (pieceBytes xs N k))) ∧ Hid (Below wr.heap.size wr wx))
          case first =>
            by_cases hk0 : k = 0
            · have hb0 : ((k : Int) == 0) = true := by simp; omega
              have HK0 := Lib.hid hk0
              clear hk0
              have HOL : Hid ((w2.alloc (.cells #[.int .u8 ((N : Int) % 256)] 5)).ownsRow wr.heap.size 5 1 (.slice (some ⟨w2.heap.size, 0, none⟩) 1 1) 1 (B8s [UInt8.ofNat N])) := Lib.hid (by
                rw [mod8 H40.out]; exact own_lit w2 [UInt8.ofNat N] (base := wr.heap.size) HB2.out.size (by simp [maxLen]))
              have HBL := Lib.hid (HB2.out.alloc HB2.out.size (.cells #[.int .u8 ((N : Int) % 256)] 5))
              have HRL := Lib.hid ((own_rd (own_later HO2.out ((Below.refl _ w2).alloc (Nat.le_refl _) (.cells #[.int .u8 ((N : Int) % 256)] 5)))))
              obtain ⟨q2', d2', e', hr2', -, -, -⟩ := HRL.out
              cases e'
              have HR2 := Lib.hid hr2'
              clear hr2' HRL
              go_wp2_with (at_builtin; refine wp_appx (w0 := wr) (base := wr.heap.size) (n := 1) rfl (.tmp 43) (.tmp 44) rfl _ [UInt8.ofNat N] (chunkB xs k) q2 rfl rfl HML.out HR2.out HOL.out HBL.out HBL.out.size (by have := HM4.out; omega) ?_)
              intro v4 w4 hown4 hb4
              obtain ⟨q4, d4, rfl, hqd4⟩ := own_slice hown4
              have HO4 := Lib.hid hown4
              have HB4 := Lib.hid hb4
              clear hown4 hb4
              go_wp2_with fail
              go_meet
              have hm : 1 + M = L := by rw [← HML.out, HL.out]; unfold pieceBytes; rw [if_pos HK0.out, HK0.out]; simp; omega
              refine ⟨q4, d4, by rw [hm], Lib.hid ?_, HB4⟩
              have := HO4.out
              rw [hm] at this
              unfold pieceBytes
              rw [if_pos HK0.out]
              rw [HK0.out] at this
              exact this
            · have hb0 : ((k : Int) == 0) = false := by simp; omega
              go_wp2_with fail
              go_meet
              have hm : M = L := by rw [← HML.out, HL.out]; unfold pieceBytes; rw [if_neg hk0]
              refine ⟨q2, d2, by rw [hm], Lib.hid ?_, HB2⟩
              have := HO2.out
              rw [hm] at this
              unfold pieceBytes
              rw [if_neg hk0]
              exact this
          case rest =>
          obtain ⟨q3, d3, rfl, HO3, HB3⟩ := hcut
          have HPA3 := Lib.hid (HPA.out.later HB3.out)
          have HO3' := Lib.hid (own_mono HO3.out HBW.out.size)
          have HBW3 := Lib.hid (HBW.out.trans (HB3.out.mono HBW.out.size))
          have hk9 : k ≤ 99 := by have := H40.out; omega
          have HK9 := Lib.hid hk9
          clear hk9
          go_wp2_with fail
          refine (refkey_any I k _ HI.out HK9.out).mono ?_
          rintro e w5 ⟨rfl, hb5⟩
          have HPA5 := Lib.hid (HPA3.out.later hb5)
          have HO5 := Lib.hid (own_later HO3'.out hb5)
          have HB5 := Lib.hid (chain2 HBW3.out hb5)
          have HRL : Hid (rows.length = k) := Lib.hid (by have := congrArg List.length HRW.out; rw [packPre_length, List.length_map] at this; exact this)
          have HRL2 : Hid (rows.length ≤ 1000) := Lib.hid (by rw [HRL.out]; have := H40.out; omega)
          clear hb5
          go_wp2_with (at_builtin; refine wp_appch (w0 := w1) (base := w1.heap.size) rfl (.tmp 46) (.tmp 52) rfl _ rows (pieceB I k) q3 L d3 (pieceBytes xs N k) rfl rfl HL.out.symm HO5.out HPA5.out HB5.out HB5.out.size HRL2.out ?_)
          intro v6 w6 hpa6 hb6
          have HPA6 := Lib.hid hpa6
          have HB6 := Lib.hid hb6
          clear hpa6 hb6
          go_wp2_with fail
          go_roundw
          case rel => exact ⟨k + 1, _, by omega, by congr 1, Lib.hid (by rw [List.map_append, HRW.out, packPre_succ]; rfl), HPA6, HB6⟩
          case measure => simp [intOf]; omega
        · obtain rfl : k = N := by omega
          go_wp2_with fail
          go_ret2
          exact ⟨_, rows, by rw [E2.out]; rfl, HPA.out, by rw [L2.out]; exact HRW.out, HBW.out⟩
    · have hd40 : decide ((N : Int) > 40) = true := by simp; omega
      have E2 : Hid (packE (↑I) xs.length = 4) := Lib.hid (by rw [E1.out, if_neg h40])
      have L2 : Hid (packL (↑I) xs = []) := Lib.hid (by rw [L1.out, if_neg h40])
      clear E1 L1 h40
      go_wp2_with fail
      go_ret2
      exact ⟨_, [], by rw [E2.out]; rfl, PackAt.nil _ _, by rw [L2.out]; rfl, Below.refl _ _⟩
  · have hd1 : decide (1 ≤ id ∧ id ≤ 9999) = false := decide_eq_false h1
    have E1 : Hid (packE id xs.length = 1) := Lib.hid (by unfold packE; rw [if_neg h1])
    have L1 : Hid (packL id xs = []) := Lib.hid (by unfold packL; rw [if_neg h1])
    clear h1 hr
    go_enter Tryd.func14, Tryd.ntmps14
    go_wp2_with fail
    refine (refmay_any _ _).mono ?_
    rintro e w1 ⟨rfl, rfl⟩
    rw [hd1]
    go_wp2_with fail
    go_ret2
    exact ⟨_, [], by rw [E1.out]; rfl, PackAt.nil _ _, by rw [L1.out]; rfl, Below.refl _ _⟩
end Go.Proofs.YtefalhnllkkkhaaDoor
