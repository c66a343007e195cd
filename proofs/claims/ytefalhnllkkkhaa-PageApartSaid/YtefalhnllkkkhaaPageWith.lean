/- The contracts of page.With and of the document's With: both put bytes at a place of a copy of the load. -/
import Derived.Test.YtefalhnllkkkhaaBytes
import Derived.Outline
namespace Go.Proofs.Ytefalhnllkkkhaa
open Go.RowKit
set_option linter.unusedVariables false

/-- With's arguments are as they should be. -/
def wok (n : Nat) (off : Int) (m : Nat) : Prop := n = 112 ∧ 0 ≤ off ∧ m ≤ 112 ∧ off ≤ 112 - (m : Int)
instance (n : Nat) (off : Int) (m : Nat) : Decidable (wok n off m) := by unfold wok; infer_instance

set_option maxHeartbeats 400000 in
theorem with_bad (p q : Option Addr) (n c m d : Nat) (off : Int) (w : World) (hm : m ≤ 9223372036854775807) (h : ¬ wok n off m) :
    Calls Try.prog 9 #[.slice p n c, .int .i64 off, .slice q m d] w fun e w' => e = .returned (.tuple #[.slice none 0 0, .int .i64 1]) ∧ w = w' := by
  unfold wok at h
  by_cases h1 : n = 112
  · by_cases h2 : off < 0
    · go_enter Try.func9, Try.ntmps9
      go_wp2
      go_ret2
      exact ⟨rfl, rfl⟩
    · by_cases h3 : 112 < (m : Int)
      · go_enter Try.func9, Try.ntmps9
        go_wp2
        go_ret2
        exact ⟨rfl, rfl⟩
      · have h4 : 112 - (m : Int) < off := by omega
        go_enter Try.func9, Try.ntmps9
        go_wp2
        go_ret2
        exact ⟨rfl, rfl⟩
  · go_enter Try.func9, Try.ntmps9
    go_wp2
    go_ret2
    exact ⟨rfl, rfl⟩

set_option maxHeartbeats 400000 in
theorem refwith_bad (p q : Option Addr) (n c m d : Nat) (off : Int) (w : World) (hm : m ≤ 9223372036854775807) (h : ¬ wok n off m) :
    Calls Try.prog 10 #[.slice p n c, .int .i64 off, .slice q m d] w fun e w' => e = .returned (.tuple #[.slice none 0 0, .int .i64 1]) ∧ w = w' := by
  unfold wok at h
  by_cases h1 : n = 112
  · by_cases h2 : off < 0
    · go_enter Try.func10, Try.ntmps10
      go_wp2
      go_ret2
      exact ⟨rfl, rfl⟩
    · by_cases h3 : 112 < (m : Int)
      · go_enter Try.func10, Try.ntmps10
        go_wp2
        go_ret2
        exact ⟨rfl, rfl⟩
      · have h4 : 112 - (m : Int) < off := by omega
        go_enter Try.func10, Try.ntmps10
        go_wp2
        go_ret2
        exact ⟨rfl, rfl⟩
  · go_enter Try.func10, Try.ntmps10
    go_wp2
    go_ret2
    exact ⟨rfl, rfl⟩

theorem sz8 : (Try.prog.info? 5).map (·.size) = some 1 := by kernel_rfl

/-- An owned row of bytes, written out. -/
theorem own8 {w : World} {base : Nat} {v : Value} {n : Nat} {xs : List UInt8} (h : w.ownsRow base 5 1 v n (B8s xs)) (hn : 0 < n) :
    ∃ g cap cur, v = .slice (some ⟨g, 0, none⟩) n cap ∧ base ≤ g ∧ w.heap[g]? = some (.cells (B8s xs ++ cur).toArray 5 (0, 0)) ∧ xs.length = n ∧ n + cur.length = cap ∧ cap ≤ maxLen := by
  obtain ⟨hl, h | ⟨g, cap, cur, rfl, hb, hh, h1, h2, h3, h4⟩⟩ := h
  · omega
  · rw [B8s_length] at hl
    refine ⟨g, cap, cur.toList.drop n, rfl, hb, ?_, by omega, ?_, h2⟩
    · rw [hh, ← h4, Nat.mul_one, List.take_append_drop]
    · rw [List.length_drop, Array.length_toList, h3]; omega

theorem own8_mk {w : World} {base g n cap : Nat} {xs : List UInt8} {cur : List Value} (hg : base ≤ g) (hh : w.heap[g]? = some (.cells (B8s xs ++ cur).toArray 5 (0, 0))) (hx : xs.length = n) (hc : n + cur.length = cap) (hm : cap ≤ maxLen) :
    w.ownsRow base 5 1 (.slice (some ⟨g, 0, none⟩) n cap) n (B8s xs) :=
  ⟨by rw [B8s_length]; omega, .inr ⟨g, cap, _, rfl, hg, hh, by omega, hm, by simp [B8s_length]; omega, by
    show List.take (n * 1) (B8s xs ++ cur) = B8s xs
    rw [Nat.mul_one, List.take_append_of_le_length (by rw [B8s_length]; omega), List.take_of_length_le (by rw [B8s_length]; omega)]⟩⟩

set_option maxHeartbeats 400000 in
theorem with_ok (p q : Option Addr) (n c m d : Nat) (off : Int) (xs ys : List UInt8) (w : World) (hx : xs.length = n) (hy : ys.length = m) (hr : Rd w p xs) (hs : Rd w q ys) (h : wok n off m) :
    Calls Try.prog 9 #[.slice p n c, .int .i64 off, .slice q m d] w fun e w' =>
      ∃ v', e = .returned (.tuple #[v', .int .i64 0]) ∧ w'.ownsRow w.heap.size 5 1 v' 112 (B8s (xs.take off.toNat ++ ys ++ xs.drop (off.toNat + ys.length))) ∧ Below w.heap.size w w' := by
  obtain ⟨hn, h1, h2, h3⟩ := h
  obtain ⟨k, rfl⟩ := Int.eq_ofNat_of_zero_le h1
  subst hn
  have hbad1 : ¬ (112 : Int) < (m : Int) := by omega
  have hbad2 : ¬ (112 : Int) - (m : Int) < (k : Int) := by omega
  have HR := Lib.hid hr
  have HX := Lib.hid hx
  clear hr hx
  go_enter Try.func9, Try.ntmps9
  go_wp2_with fail
  refine (clone_any p 112 c xs _ HX.out (by omega) HR.out).mono ?_
  rintro e w1 ⟨v', rfl, hown, hb⟩
  obtain ⟨g, cap, cur, rfl, hg, hh, _, hc, hm⟩ := own8 hown (by omega)
  have HY := Lib.hid hy
  have HH := Lib.hid hh
  have HO := Lib.hid hown
  have HC := Lib.hid hc
  clear hy hh hown hc
  have hs1 : Rd w1 q ys := hs.below hb
  clear hs
  go_wp2_with (with_reducible (refine wpList_copy_splice rfl (.tmp 32) (.tmp 33) 26 26 rfl 5 Try.underlying26 sz8 _ _ _ _ _ _ rfl rfl g k (B8s xs ++ cur) 5 HH.out (B8s ys) ?n1 ?n2 ?n3 B8s_one w.heap.size w hb hg ?_))
  case n1 => rw [B8s_length, HY.out]; show m = min m (112 - k); omega
  case n2.inl =>
    intro hp
    rw [B8s_length, HY.out] at hp
    have := HC.out
    omega
  case n2.inr => intro hp; rw [B8s_length] at hp; exact hs1.news hp
  case n3 => rw [List.length_append, B8s_length, B8s_length, HY.out, HX.out]; omega
  all_goals
    intro w2 hh2 hb2
    go_wp2
    go_ret2
    refine ⟨_, rfl, ?_, hb2⟩
    have e1 : splice (B8s xs ++ cur) k (B8s ys) = B8s (xs.take k ++ ys ++ xs.drop (k + ys.length)) ++ cur := by
      have := HX.out
      have := HY.out
      unfold splice B8s
      rw [List.take_append_of_le_length (by simp; omega), List.drop_append_of_le_length (by simp; omega)]
      simp [List.map_drop, List.map_take]
    refine own8_mk hg (by rw [hh2.out, e1]; rfl) ?_ ?_ (by omega)
    · have := HX.out
      have := HY.out
      simp; omega
    · have := HC.out
      omega

set_option maxHeartbeats 400000 in
theorem refwith_ok (p q : Option Addr) (n c m d : Nat) (off : Int) (xs ys : List UInt8) (w : World) (hx : xs.length = n) (hy : ys.length = m) (hr : Rd w p xs) (hs : Rd w q ys) (h : wok n off m) :
    Calls Try.prog 10 #[.slice p n c, .int .i64 off, .slice q m d] w fun e w' =>
      ∃ v', e = .returned (.tuple #[v', .int .i64 0]) ∧ w'.ownsRow w.heap.size 5 1 v' 112 (B8s (xs.take off.toNat ++ ys ++ xs.drop (off.toNat + ys.length))) ∧ Below w.heap.size w w' := by
  obtain ⟨hn, h1, h2, h3⟩ := h
  obtain ⟨k, rfl⟩ := Int.eq_ofNat_of_zero_le h1
  subst hn
  have hbad1 : ¬ (112 : Int) < (m : Int) := by omega
  have hbad2 : ¬ (112 : Int) - (m : Int) < (k : Int) := by omega
  have HR := Lib.hid hr
  have HX := Lib.hid hx
  clear hr hx
  go_enter Try.func10, Try.ntmps10
  obtain ⟨i0, hi, hz0, hz1, hz2⟩ := info_parts info8
  obtain ⟨pa, rfl, hnews⟩ := HR.out.news (by rw [HX.out]; omega)
  have HN := Lib.hid hnews
  clear hnews
  go_wp2_with (at_builtin; refine wpList_append_own _ rfl _ _ 26 rfl w.heap.size 5 i0 (.int .u8 0) 1 1 Try.underlying26 hi hz0 hz1 hz2 rfl (by decide) _ _ _ rfl (World.ownsRow_made w #[] 0 (Nat.le_refl _) (Nat.zero_le _) rfl) pa 112 c (B8s xs) rfl ?qc1 ?qc2 B8s_one ?qc4 ?qc5 ?qc6 ?_)
  case qc1 => rw [B8s_length, HX.out]
  case qc2 =>
    intro j u hj
    exact ((Upd.of_below' ((Below.refl _ w).alloc (Nat.le_refl _) _) (fun _ => False)).cell (HN.out j u hj) (fun h => h))
  case qc4 => unfold maxLen; omega
  intro v' w1 hown hgrow _
  have hb : Below w.heap.size w w1 := ((Below.refl _ w).alloc (Nat.le_refl _) _).grown hgrow (by simp) (by intro k hk; simp [Value.ownBlock] at hk; omega)
  clear hgrow
  obtain ⟨g, cap, cur, rfl, hg, hh, _, hc, hm⟩ := own8 hown (by omega)
  have HY := Lib.hid hy
  have HH := Lib.hid hh
  have HO := Lib.hid hown
  have HC := Lib.hid hc
  clear hy hh hown hc
  have hs1 : Rd w1 q ys := hs.below hb
  clear hs
  go_wp2_with (with_reducible (refine wpList_copy_splice rfl (.tmp 33) (.tmp 34) 26 26 rfl 5 Try.underlying26 sz8 _ _ _ _ _ _ rfl rfl g k (B8s xs ++ cur) 5 HH.out (B8s ys) ?n1 ?n2 ?n3 B8s_one w.heap.size w hb hg ?_))
  case n1 => rw [B8s_length, HY.out]; show m = min m (112 - k); omega
  case n2.inl =>
    intro hp
    rw [B8s_length, HY.out] at hp
    have := HC.out
    omega
  case n2.inr => intro hp; rw [B8s_length] at hp; exact hs1.news hp
  case n3 => rw [List.length_append, B8s_length, B8s_length, HY.out, HX.out]; omega
  all_goals
    intro w2 hh2 hb2
    go_wp2
    go_ret2
    refine ⟨_, rfl, ?_, hb2⟩
    have e1 : splice (B8s xs ++ cur) k (B8s ys) = B8s (xs.take k ++ ys ++ xs.drop (k + ys.length)) ++ cur := by
      have := HX.out
      have := HY.out
      unfold splice B8s
      rw [List.take_append_of_le_length (by simp; omega), List.drop_append_of_le_length (by simp; omega)]
      simp [List.map_drop, List.map_take]
    refine own8_mk hg (by rw [hh2.out, e1]; rfl) ?_ ?_ (by omega)
    · have := HX.out
      have := HY.out
      simp; omega
    · have := HC.out
      omega

end Go.Proofs.Ytefalhnllkkkhaa
