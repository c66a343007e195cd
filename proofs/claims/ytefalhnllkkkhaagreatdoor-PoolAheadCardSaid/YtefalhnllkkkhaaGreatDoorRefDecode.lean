/- The document's Decode: the same answer. -/
import Derived.Test.YtefalhnllkkkhaaGreatDoorDecode
namespace Go.Proofs.YtefalhnllkkkhaaGreatDoor
open Go.RowKit
set_option linter.unusedVariables false

theorem add_step {L u k : Nat} (hk : k < 8) (hL : L < 256 ^ k) (hu : u < 256) :
    IntKind.u64.wrap ((L : Int) + IntKind.u64.wrap ((u : Int) * 2 ^ (8 * k))) = ((L + u * 256 ^ k : Nat) : Int) := by
  have e1 : ((u : Int) * 2 ^ (8 * k)) = ((u * 2 ^ (8 * k) : Nat) : Int) := by simp
  have hs := shl_lt hk hu
  have h3 : L + u * 256 ^ k < 2 ^ 64 := by
    have h4 : u * 256 ^ k ≤ 255 * 256 ^ k := Nat.mul_le_mul (by omega) (Nat.le_refl _)
    have h5 : 256 * 256 ^ k ≤ 2 ^ 64 := by
      rw [← Nat.pow_succ', pow256]
      exact Nat.pow_le_pow_right (by decide) (by omega)
    omega
  rw [e1, wrap_u64_nat hs]
  rw [← pow256]
  have e2 : (L : Int) + ((u * 256 ^ k : Nat) : Int) = ((L + u * 256 ^ k : Nat) : Int) := by simp
  rw [e2]
  exact wrap_u64_nat h3

theorem sum_bytes {bs : List UInt8} {S : Nat} (hl : bs.length = 128) (hS : S < 4294967296) :
    leB S 4 = bs.drop 124 ↔ ((bs[124]).toNat = S % 256 ∧ (bs[125]).toNat = S / 256 % 256 ∧ (bs[126]).toNat = S / 65536 % 256 ∧ (bs[127]).toNat = S / 16777216 % 256) := by
  have e1 : S / 256 / 256 = S / 65536 := by omega
  have e2 : S / 65536 / 256 = S / 16777216 := by omega
  have e : bs.drop 124 = [bs[124], bs[125], bs[126], bs[127]] := by
    refine List.ext_getElem (by simp [hl]) fun i h1 h2 => ?_
    rw [List.getElem_drop]
    match i, h2 with
    | 0, _ => rfl
    | 1, _ => rfl
    | 2, _ => rfl
    | 3, _ => rfl
  have k : ∀ (x : UInt8) (m : Nat), UInt8.ofNat (m % 256) = x ↔ x.toNat = m % 256 := fun x m => by
    rw [← UInt8.toNat_inj]
    simp
    omega
  rw [e]
  simp only [leB, List.cons.injEq, and_true, k, e1, e2]

set_option maxHeartbeats 2000000 in
set_option maxRecDepth 20000 in
theorem refdecode_any (p : Option Addr) (n c : Nat) (bs : List UInt8) (w : World) (hx : bs.length = n) (hr : Rd w p bs) (hc : n ≤ c) (hm : c ≤ maxLen) :
    Calls Tryz.prog 15 #[.slice p n c] w fun e w' => DecQ bs w w' e ∧ Below w.heap.size w w' := by
  have HX := Lib.hid hx
  have HM := Lib.hid hm
  have hmk : ∀ W : World, (Instr.makeSlice 37 (.int .i64 112) (.int .i64 112)).run Tryz.prog W = .ok (.slice (some ⟨W.heap.size, 0, none⟩) 112 112) (W.alloc (.cells (Zs 112) 5)) := make8 112 (by omega)
  by_cases h128 : n = 128
  · obtain rfl : n = 128 := h128
    clear hx hm
    go_enter Tryz.func15, Tryz.ntmps15
    go_wp2_with fail
    refine (noughts_any p 128 c bs _ HX.out hr (Nat.le_trans hc HM.out)).mono ?_
    rintro e w1 ⟨rfl, rfl⟩
    by_cases hz : allZ bs = true
    · have HZ := Lib.hid hz
      rw [hz]
      clear hz
      go_wp2_with fail
      go_region
      all_goals go_wp2
      all_goals go_ret3
      all_goals
        refine ⟨.inl ⟨?_, .slice (some ⟨w.heap.size, 0, none⟩) 112 112, ?_, ?_⟩, ?_⟩
        · unfold decE
          rw [if_neg (by rw [HX.out]; decide), if_pos HZ.out]
        · rw [decL_zero HZ.out HX.out]; rfl
        · rw [decP_zero HZ.out HX.out, Zs_arr]
          exact own8_mk (cur := []) (Nat.le_refl _) (by rw [List.append_nil]; exact heap_alloc_new w _) (by simp) rfl (by decide)
        · exact (below_drewN' (B := w.heap.size) w 1).alloc (Nat.le_refl _) _
    · have hzf : allZ bs = false := by simpa using hz
      have HZ := Lib.hid hzf
      rw [hzf]
      clear hz hzf
      have hx := HX.out
      obtain ⟨b0, o0, rfl, hcell0⟩ := hr.at (by rw [hx]; decide)
      have k124 := hcell0 124 (by omega)
      have k125 := hcell0 125 (by omega)
      have k126 := hcell0 126 (by omega)
      have k127 := hcell0 127 (by omega)
      have hS : Rd w (some ⟨b0, o0, none⟩) (bs.take 124) := hr.take 124
      have hlS : Hid ((bs.take 124).length = 124) := Lib.hid (by simp [hx])
      have hcap : (124 : Int) ≤ (c : Int) := by omega
      have HR := Lib.hid hr
      have HS := Lib.hid hS
      clear hr hS hcell0
      go_wp2_with fail
      refine (refsum_any (some ⟨b0, o0, none⟩) 124 c (bs.take 124) _ hlS.out HS.out (by unfold maxLen; decide)).mono ?_
      rintro e w1 ⟨rfl, rfl⟩
      have hSl := sumN_lt (bs.take 124)
      obtain ⟨S, hSe⟩ : ∃ S, sumN (bs.take 124) = S := ⟨_, rfl⟩
      rw [hSe] at hSl ⊢
      have HSe := Lib.hid hSe
      have HQ := Lib.hid (sum_bytes (S := S) hx hSl)
      have hE13 : ¬ leB S 4 = bs.drop 124 → Hid (decE bs = 13) := fun heq => Lib.hid (by
        unfold decE
        rw [if_neg (by rw [HX.out]; decide), if_neg (by rw [HZ.out]; decide), if_pos (by rw [HSe.out]; exact heq)])
      have HE13 := Lib.hid hE13
      have hw8 : IntKind.u8.wrap ((S : Nat) : Int) = (S : Int) % 256 := IntKind.wrap_u8 _
      unfold B8 at k124 k125 k126 k127
      generalize (bs[124]'(by omega)).toNat = x0 at *
      generalize (bs[125]'(by omega)).toNat = x1 at *
      generalize (bs[126]'(by omega)).toNat = x2 at *
      generalize (bs[127]'(by omega)).toNat = x3 at *
      clear hSe hSl hx hE13
      by_cases g0 : x0 = S % 256
      · by_cases g1 : x1 = S / 256 % 256
        · by_cases g2 : x2 = S / 65536 % 256
          · by_cases g3 : x3 = S / 16777216 % 256
            · have HQ2 := Lib.hid (HQ.out.2 ⟨g0, g1, g2, g3⟩)
              have t0 : ((x0 : Int) != (S : Int) % 256) = false := by rw [bne_eq_false_iff_eq]; omega
              have t1 : ((x1 : Int) != (S : Int) / 256 % 256) = false := by rw [bne_eq_false_iff_eq]; omega
              have t2 : ((x2 : Int) != (S : Int) / 65536 % 256) = false := by rw [bne_eq_false_iff_eq]; omega
              have t3 : ((x3 : Int) != (S : Int) / 16777216 % 256) = false := by rw [bne_eq_false_iff_eq]; omega
              clear g0 g1 g2 g3
              go_wp2
              go_loop [6, 53] (fun v i => ∃ k : Nat, k ≤ 8 ∧ i = .int .i64 k ∧ v = .int .u64 ((leV ((bs.drop 4).take k) : Nat) : Int)) (fun _ i => 8 - (intOf i).toNat)
              case atStart => exact ⟨0, by omega, rfl, rfl⟩
              case round =>
                obtain ⟨k, hk, rfl, rfl⟩ := hrel
                by_cases hlt : k < 8
                · have hkl : 4 + k < bs.length := by rw [HX.out]; omega
                  obtain ⟨b1, o1, hbo, k1⟩ := rd_cell HR.out (k := 4 + k) hkl
                  cases hbo
                  unfold B8 at k1
                  have hu := (bs[4 + k]).toNat_lt
                  have hs := leV_take (ys := bs.drop 4) (k := k) (by simp; omega)
                  rw [List.getElem_drop] at hs
                  have hLl := leV_take_lt (bs.drop 4) k
                  generalize (bs[4 + k]).toNat = u at *
                  generalize leV ((bs.drop 4).take k) = L at *
                  have HSt := Lib.hid hs
                  have HO := Lib.hid (add_step hlt hLl hu)
                  have e1 : ((4 : Int) + (k : Int)).toNat = 4 + k := by omega
                  clear hs hLl
                  go_wp2
                  go_round
                  case rel => exact ⟨k + 1, by omega, by go_num, by rw [HO.out, HSt.out]⟩
                  case measure => simp [intOf]; omega
                · obtain rfl : k = 8 := by omega
                  have HL : Hid (leV ((bs.drop 4).take 8) = decL bs) := Lib.hid rfl
                  rw [HL.out]
                  by_cases hbig : decL bs > 4611686018427387904
                  · have hgt : (4611686018427387904 : Int) < (decL bs : Int) := by omega
                    have HE : Hid (decE bs = 5) := Lib.hid (by
                      unfold decE
                      rw [if_neg (by rw [HX.out]; decide), if_neg (by rw [HZ.out]; decide), if_neg (by rw [HSe.out]; exact fun h => h HQ2.out), if_pos hbig])
                    clear hbig
                    go_wp2
                    go_ret3
                    exact ⟨.inr ⟨by rw [HE.out]; decide, by rw [HE.out]; rfl⟩, Below.refl _ _⟩
                  · have hgt : (decL bs : Int) ≤ 4611686018427387904 := by omega
                    have hP : Rd w (some ⟨b0, o0 + 12, none⟩) (decP bs) := HR.out.sub 12 112
                    have hPl : (decP bs).length = 112 := by unfold decP; have := HX.out; simp; omega
                    have HPl := Lib.hid hPl
                    have hPn : Rd (w.alloc (.cells #[] 5)) (some ⟨b0, o0 + 12, none⟩) (decP bs) := hP.below ((Below.refl _ _).alloc (Nat.le_refl _) _)
                    clear hbig hPl
                    go_wp2_with (at_builtin; refine wp_app8s (w0 := w) (base := w.heap.size) (n := 0) (m := 112) (c := c - 12) rfl _ _ rfl _ [] (decP bs) _ rfl rfl HPl.out hPn (by omega) (World.ownsRow_made w #[] 0 (Nat.le_refl _) (Nat.zero_le _) rfl) ((Below.refl _ _).alloc (Nat.le_refl _) _) (by simp) (by omega) ?_)
                    intro v5 w5 hown5 hb05
                    obtain ⟨p5, cap5, rfl, hr5, hx5, _, _⟩ := own_rd hown5
                    have hc5 : 112 ≤ cap5 ∧ cap5 ≤ maxLen := own_cap hown5 (by omega)
                    have HX5 := Lib.hid hx5
                    have HO5 := Lib.hid hown5
                    clear hown5 hx5
                    go_wp2_with fail
                    refine (refencode_ok (decL bs) p5 112 cap5 (decP bs) _ HX5.out hr5 hc5.1 hc5.2 ⟨by omega, by omega, rfl⟩).mono ?_
                    rintro e w6 ⟨v6, rfl, hown6, hb6⟩
                    obtain ⟨p6, cap6, rfl, hr6, hx6, _, _⟩ := own_rd hown6
                    have hb06 : Below w.heap.size w w6 := hb05.trans (hb6.mono hb05.size)
                    have hrb : Rd w6 (some ⟨b0, o0, none⟩) bs := HR.out.below hb06
                    have HO6 : Hid (w6.ownsRow w.heap.size 5 1 (.slice p5 112 cap5) 112 (B8s (decP bs))) := Lib.hid (own_later HO5.out hb6)
                    have c1 := hr6.convert hx6 cap6 _ _ _ Tryz.underlying37 Tryz.underlying5 Tryz.underlying9
                    have c2 := hrb.convert HX.out c _ _ _ Tryz.underlying37 Tryz.underlying5 Tryz.underlying9
                    clear hown6 hx6 hb6 hr6 hrb
                    by_cases hsame : encV (decL bs) (decP bs) = bs
                    · have HE : Hid (decE bs = 0) := Lib.hid (by
                        unfold decE
                        rw [if_neg (by rw [HX.out]; decide), if_neg (by rw [HZ.out]; decide), if_neg (by rw [HSe.out]; exact fun h => h HQ2.out), if_neg (by omega), if_neg (fun h => h hsame)])
                      have hsb : (encV (decL bs) (decP bs) == bs) = true := by rw [beq_iff_eq]; exact hsame
                      clear hsame
                      go_wp2
                      go_ret3
                      exact ⟨.inl ⟨HE.out, _, rfl, HO6.out⟩, hb06⟩
                    · have HE : Hid (decE bs = 5) := Lib.hid (by
                        unfold decE
                        rw [if_neg (by rw [HX.out]; decide), if_neg (by rw [HZ.out]; decide), if_neg (by rw [HSe.out]; exact fun h => h HQ2.out), if_neg (by omega), if_pos hsame])
                      have hsb : (encV (decL bs) (decP bs) == bs) = false := by rw [beq_eq_false_iff_ne]; exact hsame
                      clear hsame
                      go_wp2
                      go_ret3
                      exact ⟨.inr ⟨by rw [HE.out]; decide, by rw [HE.out]; rfl⟩, hb06⟩
            · have HE := HE13.out (fun hh => g3 (by have h := HQ.out.1 hh; exact h.2.2.2))
              have t0 : ((x0 : Int) != (S : Int) % 256) = false := by rw [bne_eq_false_iff_eq]; omega
              have t1 : ((x1 : Int) != (S : Int) / 256 % 256) = false := by rw [bne_eq_false_iff_eq]; omega
              have t2 : ((x2 : Int) != (S : Int) / 65536 % 256) = false := by rw [bne_eq_false_iff_eq]; omega
              have t3 : ((x3 : Int) != (S : Int) / 16777216 % 256) = true := by rw [bne_iff_ne]; omega
              clear g0 g1 g2 g3
              go_wp2
              go_ret3
              exact ⟨.inr ⟨by rw [HE.out]; decide, by rw [HE.out]; rfl⟩, Below.refl _ _⟩
          · have HE := HE13.out (fun hh => g2 (by have h := HQ.out.1 hh; exact h.2.2.1))
            have t0 : ((x0 : Int) != (S : Int) % 256) = false := by rw [bne_eq_false_iff_eq]; omega
            have t1 : ((x1 : Int) != (S : Int) / 256 % 256) = false := by rw [bne_eq_false_iff_eq]; omega
            have t2 : ((x2 : Int) != (S : Int) / 65536 % 256) = true := by rw [bne_iff_ne]; omega
            clear g0 g1 g2
            go_wp2
            go_ret3
            exact ⟨.inr ⟨by rw [HE.out]; decide, by rw [HE.out]; rfl⟩, Below.refl _ _⟩
        · have HE := HE13.out (fun hh => g1 (by have h := HQ.out.1 hh; exact h.2.1))
          have t0 : ((x0 : Int) != (S : Int) % 256) = false := by rw [bne_eq_false_iff_eq]; omega
          have t1 : ((x1 : Int) != (S : Int) / 256 % 256) = true := by rw [bne_iff_ne]; omega
          clear g0 g1
          go_wp2
          go_ret3
          exact ⟨.inr ⟨by rw [HE.out]; decide, by rw [HE.out]; rfl⟩, Below.refl _ _⟩
      · have HE := HE13.out (fun hh => g0 (by have h := HQ.out.1 hh; exact h.1))
        have t0 : ((x0 : Int) != (S : Int) % 256) = true := by rw [bne_iff_ne]; omega
        clear g0
        go_wp2
        go_ret3
        exact ⟨.inr ⟨by rw [HE.out]; decide, by rw [HE.out]; rfl⟩, Below.refl _ _⟩
  · have hb : ((n : Int) != 128) = true := by rw [bne_iff_ne]; omega
    have HE : Hid (decE bs = 5) := Lib.hid (by unfold decE; rw [if_pos (by rw [hx]; exact h128)])
    clear h128 hx hm
    go_enter Tryz.func15, Tryz.ntmps15
    go_wp2
    go_ret3
    exact ⟨.inr ⟨by rw [HE.out]; decide, by rw [HE.out]; rfl⟩, Below.refl _ _⟩
end Go.Proofs.YtefalhnllkkkhaaGreatDoor
