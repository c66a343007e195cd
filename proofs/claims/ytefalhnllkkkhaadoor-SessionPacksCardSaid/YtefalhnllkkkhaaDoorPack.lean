/- session.Pack: the changes that keep a session's bytes. -/
import Derived.Test.YtefalhnllkkkhaaDoorRow
import Derived.Test.YtefalhnllkkkhaaDoorCollect
import Derived.Deep.CutRange
namespace Go.Proofs.YtefalhnllkkkhaaDoor
open Go.RowKit
set_option linter.unusedVariables false

def chunkB (xs : List UInt8) (i : Nat) : List UInt8 := (xs.drop (1400 * i)).take 1400
def pieceBytes (xs : List UInt8) (n i : Nat) : List UInt8 := if i = 0 then UInt8.ofNat n :: chunkB xs 0 else chunkB xs i
def packN (len : Nat) : Nat := if len = 0 then 1 else pieces len
def packPre (id : Nat) (xs : List UInt8) (n k : Nat) : List (ByteArray × List UInt8) := (List.range k).map fun i => (pieceB id i, pieceBytes xs n i)
theorem packPre_succ (id : Nat) (xs : List UInt8) (n k : Nat) : packPre id xs n (k + 1) = packPre id xs n k ++ [(pieceB id k, pieceBytes xs n k)] := by simp [packPre, List.range_succ]
theorem packPre_length (id : Nat) (xs : List UInt8) (n k : Nat) : (packPre id xs n k).length = k := by simp [packPre]
def packE (id : Int) (len : Nat) : Int := if 1 ≤ id ∧ id ≤ 9999 then (if packN len ≤ 40 then 0 else 4) else 1
def packL (id : Int) (xs : List UInt8) : List (ByteArray × List UInt8) := if 1 ≤ id ∧ id ≤ 9999 then (if packN xs.length ≤ 40 then packPre id.toNat xs (packN xs.length) (packN xs.length) else []) else []
/-- What Pack hands back. -/
def PackQ (id : Int) (xs : List UInt8) (w w' : World) (e : Ending) : Prop :=
  ∃ v rows, e = .returned (.tuple #[v, .int .i64 (packE id xs.length)]) ∧ PackAt w' w.heap.size v rows ∧ rows.map (fun r => (r.1, r.2.2)) = packL id xs ∧ Below w.heap.size w w'
/-- The pieces, as a slice of slices. -/
def PcAt (w : World) (v : Value) (n : Nat) (xs : List UInt8) : Prop :=
  ∃ g c, v = .slice (some ⟨g, 0, none⟩) n c ∧ n ≤ c ∧ ∀ i, i < n → ∃ q m d, w.cell? ⟨g, i, none⟩ = some (.slice q m d) ∧ Rd w q (chunkB xs i) ∧ (chunkB xs i).length = m ∧ m ≤ d
theorem PcAt.below {w w' : World} {v : Value} {n : Nat} {xs : List UInt8} (h : PcAt w v n xs) (hb : Below w.heap.size w w') : PcAt w' v n xs := by
  obtain ⟨g, c, rfl, hc, hh⟩ := h
  refine ⟨g, c, rfl, hc, fun i hi => ?_⟩
  obtain ⟨q, m, d, h1, h2, h3, h4⟩ := hh i hi
  exact ⟨q, m, d, kept hb h1, h2.below hb, h3, h4⟩
theorem may_any (id : Int) (w : World) : Calls Tryd.prog 30 #[.int .i64 id] w fun e w' => e = .returned (.bool (decide (1 ≤ id ∧ id ≤ 9999))) ∧ w' = w := by
  go_enter Tryd.func30, Tryd.ntmps30
  go_wp2
  all_goals go_ret
  all_goals refine ⟨ret_bool ?_, rfl⟩
  all_goals first
    | exact (decide_eq_true (by omega)).symm
    | exact (decide_eq_false (by omega)).symm
    | (rw [decide_eq_decide]; omega)
    | (simp; omega)
theorem refmay_any (id : Int) (w : World) : Calls Tryd.prog 36 #[.int .i64 id] w fun e w' => e = .returned (.bool (decide (1 ≤ id ∧ id ≤ 9999))) ∧ w' = w := by
  go_enter Tryd.func36, Tryd.ntmps36
  go_wp2
  all_goals go_ret
  all_goals refine ⟨ret_bool ?_, rfl⟩
  all_goals first
    | exact (decide_eq_true (by omega)).symm
    | exact (decide_eq_false (by omega)).symm
    | (rw [decide_eq_decide]; omega)
    | (simp; omega)

theorem own_slice' {w : World} {base n size : Nat} {e : TypeId} {v : Value} {xs : List Value} (h : w.ownsRow base e size v n xs) : ∃ p c, v = .slice p n c ∧ n ≤ c ∧ c ≤ maxLen := by
  rcases h.2 with ⟨rfl, rfl⟩ | ⟨g, cap, cur, rfl, hb, hh, h1, h2, _⟩
  · exact ⟨none, 0, rfl, Nat.le_refl _, by simp⟩
  · exact ⟨_, cap, rfl, h1, h2⟩
theorem mod8 {N : Nat} (h : N ≤ 40) : Value.int .u8 ((N : Int) % 256) = B8 (UInt8.ofNat N) := by
  rw [← low8 N (by omega)]
  congr 1
  omega
theorem PackAt.mono {w : World} {base base' : Nat} {v : Value} {rows : List ChR} (h : PackAt w base v rows) (hb : base' ≤ base) : PackAt w base' v rows := ⟨own_mono h.own hb, fun r hr => own_mono (h.each r hr) hb⟩
theorem cell_two_0 (w : World) (v u : Value) (t s : TypeId) : ((w.alloc (.cells #[v] t)).alloc (.cells #[u] s)).cell? ⟨w.heap.size, 0, none⟩ = some v :=
  kept ((Below.refl _ _).alloc (Nat.le_refl _) _) (cell_alloc rfl)
theorem cell_two_1 (w : World) (v u : Value) (t s : TypeId) : ((w.alloc (.cells #[v] t)).alloc (.cells #[u] s)).cell? ⟨w.heap.size + 1, 0, none⟩ = some u := by
  have := cell_alloc (w := w.alloc (.cells #[v] t)) (cs := #[u]) (t := s) (j := 0) (v := u) rfl
  rw [World.size_alloc] at this
  exact this
theorem pc_of_chunks {w : World} {base len b off : Nat} {v : Value} {p : Option Addr} {xs : List UInt8} (hx : xs.length = len) (hr : Rd w p xs) (h0 : 0 < len) (hp : p = some ⟨b, off, none⟩)
    (ho : w.ownsRow base 22 1 v (pieces len) ((upto (pieces len)).map (chunkV b off len))) : PcAt w v (pieces len) xs := by
  have hK : 0 < pieces len := by unfold pieces; omega
  rcases ho.2 with ⟨-, h⟩ | ⟨g, cap, cur, rfl, hb, hh, h1, h2, h3, h4⟩
  · omega
  · refine ⟨g, cap, rfl, h1, fun i hi => ?_⟩
    subst hp
    refine ⟨some ⟨b, off + 1400 * i, none⟩, min 1400 (len - 1400 * i), min 1400 (len - 1400 * i), ?_, (hr.sub (1400 * i) 1400), ?_, Nat.le_refl _⟩
    · have hci : ((upto (pieces len)).map (chunkV b off len))[i]? = some (chunkV b off len i) := by
        simp [upto, hi]
      rw [← h4, List.getElem?_take_of_lt (by omega)] at hci
      simp only [World.cell?, hh]
      simpa [chunkV] using hci
    · unfold chunkB
      rw [List.length_take, List.length_drop, hx]

set_option maxHeartbeats 2000000 in
set_option maxRecDepth 20000 in
theorem pack_any (id : Int) (p : Option Addr) (len c : Nat) (xs : List UInt8) (w : World) (hx : xs.length = len) (hr : Rd w p xs) (hlen : len ≤ 140737488351232) (hc : len ≤ c) (hcm : c ≤ 9223372036854775807) (hT : Tens w) :
    Calls Tryd.prog 13 #[.int .i64 id, .slice p len c] w fun e w' => PackQ id xs w w' e := by
  have HX := Lib.hid hx
  have HC := Lib.hid hc
  have HCM := Lib.hid hcm
  have HT := Lib.hid hT
  clear hc hcm hT
  by_cases h1 : 1 ≤ id ∧ id ≤ 9999
  · have hd1 : decide (1 ≤ id ∧ id ≤ 9999) = true := decide_eq_true h1
    have E1 : Hid (packE id xs.length = if packN len ≤ 40 then 0 else 4) := Lib.hid (by unfold packE; rw [if_pos h1, hx])
    have L1 : Hid (packL id xs = if packN len ≤ 40 then packPre id.toNat xs (packN len) (packN len) else []) := Lib.hid (by unfold packL; rw [if_pos h1, hx])
    obtain ⟨I, hI⟩ : ∃ I : Nat, id = I := ⟨id.toNat, by omega⟩
    subst hI
    have HI : Hid (I ≤ 9999) := Lib.hid (by omega)
    have HD1 := Lib.hid hd1
    clear h1 hx hd1
    have hp : 0 < len → ∃ b off, p = some ⟨b, off, none⟩ := fun h => by
      obtain ⟨b, o, e, _⟩ := hr.at (by rw [HX.out]; exact h)
      exact ⟨b, o, e⟩
    have HR := Lib.hid hr
    have HP := Lib.hid hp
    have HLEN := Lib.hid hlen
    clear hr hp hlen
    go_enter Tryd.func13, Tryd.ntmps13
    go_wp2_with fail
    refine (may_any _ _).mono ?_
    rintro e w1 ⟨rfl, rfl⟩
    rw [HD1.out]
    go_wp2_with fail
    refine (chunk_any _ _ _ _).mono ?_
    rintro e w2 ⟨rfl, rfl⟩
    go_wp2_with fail
    have HB0 : Hid (Below w1.heap.size w1 ((w1.alloc (.cells #[.slice p len c] 22)).alloc (.cells #[.int .i64 1400] 3))) := Lib.hid (((Below.refl _ w1).alloc (Nat.le_refl _) _).alloc (by simp) _)
    refine (collect_any p len c w1.heap.size (w1.heap.size + 1) _ HP.out HLEN.out HC.out HCM.out ?ha ?hb).mono ?_
    case ha => exact cell_two_0 _ _ _ _ _
    case hb => exact cell_two_1 _ _ _ _ _
    rintro e w3 ⟨v, b, off, rfl, hpb, hown, hb⟩
    have HB3 := Lib.hid (chain2 HB0.out hb)
    obtain ⟨pv, cv, rfl, hvc, hvm⟩ := own_slice' hown
    have HVC := Lib.hid hvc
    have HVM : Hid (cv ≤ 9223372036854775807) := Lib.hid hvm
    have HPB := Lib.hid hpb
    have HO := Lib.hid hown
    obtain ⟨m, hm⟩ : ∃ m, m = pieces len := ⟨_, rfl⟩
    have HM := Lib.hid hm
    rw [← hm] at HO HVC ⊢
    clear hpb hown hb hvc hvm hm
    go_upto_if 18 with fail
    go_cut [6] (fun v wx => Hid (PcAt wx v (packN len) xs) ∧ Hid (Below w1.heap.size w1 wx))
    case first =>
      by_cases h0 : m = 0
      · have hb0 : ((m : Int) == 0) = true := by simp; omega
        go_wp2_with fail
        go_meet
        have hl0 : len = 0 := by have := HM.out; unfold pieces at this; omega
        exact ⟨Lib.hid (by
          have e1 : packN len = 1 := if_pos hl0
          rw [e1]
          have hxs : xs = [] := List.eq_nil_of_length_eq_zero (by rw [HX.out]; exact hl0)
          refine ⟨w3.heap.size, 1, rfl, Nat.le_refl _, fun i hi => ⟨none, 0, 0, ?_, ?_, ?_, Nat.le_refl _⟩⟩
          · obtain rfl : i = 0 := by omega
            exact cell_alloc rfl
          · rw [hxs]; simp [chunkB]; exact Rd.nil _ _
          · rw [hxs]; simp [chunkB]), Lib.hid (HB3.out.alloc HB3.out.size _)⟩
      · have hb0 : ((m : Int) == 0) = false := by simp; omega
        go_wp2_with fail
        go_meet
        have hl0 : 0 < len := by have := HM.out; unfold pieces at this; omega
        refine ⟨Lib.hid ?_, HB3⟩
        have e1 : packN len = m := by rw [HM.out]; exact if_neg (by omega)
        rw [e1, HM.out]
        have := HO.out
        rw [HM.out] at this
        exact pc_of_chunks HX.out (HR.out.below HB3.out) hl0 (HPB.out hl0) this
    case rest =>
    obtain ⟨HPC, HBC⟩ := hcut
    obtain ⟨W0, hW0⟩ : ∃ W0, W0 = wc := ⟨_, rfl⟩
    subst hW0
    obtain ⟨N, hN⟩ : ∃ N, N = packN len := ⟨_, rfl⟩
    rw [← hN] at HPC E1 L1
    have HNN := Lib.hid hN
    clear hN
    obtain ⟨g, cg, rfl, hcg, hcells⟩ := HPC.out
    have HCG := Lib.hid hcg
    have HCELLS := Lib.hid hcells
    clear HPC hcg hcells HB0 HB3 HO HVC
    by_cases h40 : N ≤ 40
    · have hd40 : decide ((N : Int) > 40) = false := by simp; omega
      have E2 : Hid (packE (↑I) xs.length = 0) := Lib.hid (by rw [E1.out, if_pos h40])
      have L2 : Hid (packL (↑I) xs = packPre I xs N N) := Lib.hid (by rw [L1.out, if_pos h40]; rfl)
      have H40 := Lib.hid h40
      clear h40 E1 L1
      go_wp2_with fail
      go_loopw [7, 25] (fun v i wr => ∃ (k : Nat) (rows : List ChR), k ≤ N ∧ i = .int .i64 k ∧ Hid (rows.map (fun r => (r.1, r.2.2)) = packPre I xs N k) ∧ Hid (PackAt wr W0.heap.size v rows) ∧ Hid (Below w1.heap.size w1 wr) ∧ Hid (Below W0.heap.size W0 wr)) (fun _ i _ => N - (intOf i).toNat)
      case atStart => exact ⟨0, [], Nat.zero_le _, rfl, Lib.hid rfl, Lib.hid (PackAt.nil _ _), HBC, Lib.hid (Below.refl _ _)⟩
      case round =>
        obtain ⟨k, rows, hk, rfl, HRW, HPA, HBW, HBCW⟩ := hrel
        by_cases hlt : k < N
        · obtain ⟨q, m1, d1, hcell, hrd, hml, hmd⟩ := HCELLS.out k hlt
          have hcell' := kept HBCW.out hcell
          have HRD := Lib.hid (hrd.below HBCW.out)
          have HML := Lib.hid hml
          clear hcell hrd
          go_wp2_with fail
          have HML0 : Hid (m1 ≤ 1400) := Lib.hid (by have := HML.out; unfold chunkB at this; rw [List.length_take] at this; omega)
          refine (clone2_any q m1 d1 (chunkB xs k) _ HML.out (by have := HML0.out; omega) HRD.out).mono ?_
          rintro e w2 ⟨v2, rfl, hown2, hb2⟩
          obtain ⟨q2, d2, rfl, hqd2⟩ := own_slice hown2
          have HO2 := Lib.hid hown2
          have HB2 := Lib.hid hb2
          obtain ⟨L, hL⟩ : ∃ L, L = (pieceBytes xs N k).length := ⟨_, rfl⟩
          have HL := Lib.hid hL
          clear hown2 hb2 hL hml
          go_upto_if 33 with fail
          go_cut [9] (fun v wx => ∃ q3 d3, v = .slice q3 L d3 ∧ Hid (wx.ownsRow wr.heap.size 5 1 (.slice q3 L d3) L (B8s (pieceBytes xs N k))) ∧ Hid (Below wr.heap.size wr wx))
          case first =>
            by_cases hk0 : k = 0
            · have hb0 : ((k : Int) == 0) = true := by simp; omega
              have HK0 := Lib.hid hk0
              clear hk0
              go_wp2_with fail
              rw [mod8 H40.out]
              have HA : Hid (Below w2.heap.size w2 (w2.alloc (.cells #[B8 (UInt8.ofNat N)] 5))) := Lib.hid ((Below.refl _ w2).alloc (Nat.le_refl _) _)
              refine (insert1_any q2 m1 d2 (chunkB xs k) (UInt8.ofNat N) w2.heap.size wr.heap.size _ (own_later HO2.out HA.out) (heap_alloc_new w2 _) ?hne ?hbase (by have := HML0.out; omega)).mono ?_
              case hne => intro b o s e; have := (own_rd HO2.out); obtain ⟨p', c', e', -, -, -, hlt⟩ := this; cases e'; have := (hlt b o s e).2; omega
              case hbase => exact Nat.le_trans HB2.out.size HA.out.size
              rintro e w4 ⟨v4, rfl, hown4, hb4⟩
              obtain ⟨q4, d4, rfl, hqd4⟩ := own_slice hown4
              have HO4 := Lib.hid hown4
              have HB4 := Lib.hid ((HB2.out.trans (HA.out.mono HB2.out.size)).trans hb4)
              clear hown4 hb4
              go_wp2_with fail
              go_meet
              have hm : m1 + 1 = L := by rw [← HML.out, HL.out]; unfold pieceBytes; rw [if_pos HK0.out, HK0.out]; simp
              refine ⟨q4, d4, by rw [hm], Lib.hid ?_, HB4⟩
              have := HO4.out
              rw [hm] at this
              unfold pieceBytes
              rw [if_pos HK0.out]
              rw [HK0.out] at this
              exact this
            · have hb0 : ((k : Int) == 0) = false := by simp; omega
              go_wp2_with fail
              go_meet
              have hm : m1 = L := by rw [← HML.out, HL.out]; unfold pieceBytes; rw [if_neg hk0]
              refine ⟨q2, d2, by rw [hm], Lib.hid ?_, HB2⟩
              have := HO2.out
              rw [hm] at this
              unfold pieceBytes
              rw [if_neg hk0]
              exact this
          case rest =>
          obtain ⟨q3, d3, rfl, HO3, HB3⟩ := hcut
          have HPA3 := Lib.hid (HPA.out.later HB3.out)
          have HO3' := Lib.hid (own_mono HO3.out HBCW.out.size)
          have HBC3 := Lib.hid (HBCW.out.trans (HB3.out.mono HBCW.out.size))
          have HBW3 := Lib.hid (HBW.out.trans (HB3.out.mono HBW.out.size))
          have HT3 := Lib.hid (HT.out.below HBW3.out)
          have hk9 : k ≤ 99 := by have := H40.out; omega
          have HK9 := Lib.hid hk9
          clear hk9
          go_wp2_with fail
          refine (piece_any I k _ HI.out HK9.out HT3.out).mono ?_
          rintro e w5 ⟨rfl, hb5⟩
          have HPA5 := Lib.hid (HPA3.out.later hb5)
          have HO5 := Lib.hid (own_later HO3'.out hb5)
          have HB5 := Lib.hid (chain2 HBW3.out hb5)
          have HBC5 := Lib.hid (chain2 HBC3.out hb5)
          have HRL : Hid (rows.length = k) := Lib.hid (by have := congrArg List.length HRW.out; rw [packPre_length, List.length_map] at this; exact this)
          have HRL2 : Hid (rows.length ≤ 1000) := Lib.hid (by rw [HRL.out]; have := H40.out; omega)
          clear hb5
          go_wp2_with (at_builtin; refine wp_appch (w0 := W0) (base := W0.heap.size) rfl (.tmp 40) (.tmp 46) rfl _ rows (pieceB I k) q3 L d3 (pieceBytes xs N k) rfl rfl HL.out.symm HO5.out HPA5.out HBC5.out HBC5.out.size HRL2.out ?_)
          intro v6 w6 hpa6 hb6
          have HPA6 := Lib.hid hpa6
          have HBC6 := Lib.hid hb6
          clear hpa6 hb6
          go_wp2_with fail
          go_roundw
          case rel => exact ⟨k + 1, _, by omega, by rw [wrapS hlt (by have := H40.out; omega)], Lib.hid (by rw [List.map_append, HRW.out, packPre_succ]; rfl), HPA6, Lib.hid (HBC.out.trans (HBC6.out.mono HBC.out.size)), HBC6⟩
          case measure => rw [wrapS hlt (by have := H40.out; omega)]; simp [intOf]; omega
        · obtain rfl : k = N := by omega
          go_wp2_with fail
          go_ret2
          exact ⟨_, rows, by rw [E2.out]; rfl, HPA.out.mono HBC.out.size, by rw [L2.out]; exact HRW.out, HBW.out⟩
    · have hd40 : decide ((N : Int) > 40) = true := by simp; omega
      have E2 : Hid (packE (↑I) xs.length = 4) := Lib.hid (by rw [E1.out, if_neg h40])
      have L2 : Hid (packL (↑I) xs = []) := Lib.hid (by rw [L1.out, if_neg h40])
      clear E1 L1 h40
      go_wp2_with fail
      go_ret2
      exact ⟨_, [], by rw [E2.out]; rfl, PackAt.nil _ _, by rw [L2.out]; rfl, HBC.out⟩
  · have hd1 : decide (1 ≤ id ∧ id ≤ 9999) = false := decide_eq_false h1
    have E1 : Hid (packE id xs.length = 1) := Lib.hid (by unfold packE; rw [if_neg h1])
    have L1 : Hid (packL id xs = []) := Lib.hid (by unfold packL; rw [if_neg h1])
    clear h1 hr
    go_enter Tryd.func13, Tryd.ntmps13
    go_wp2_with fail
    refine (may_any _ _).mono ?_
    rintro e w1 ⟨rfl, rfl⟩
    rw [hd1]
    go_wp2_with fail
    go_ret2
    exact ⟨_, [], by rw [E1.out]; rfl, PackAt.nil _ _, by rw [L1.out]; rfl, Below.refl _ _⟩
end Go.Proofs.YtefalhnllkkkhaaDoor
