/- order, Held, victim. -/
import Derived.Test.YtefalhnllkkkhaaGreatDoorPoolOrder
namespace Go.Proofs.YtefalhnllkkkhaaGreatDoor
open Go.RowKit Go.Shelf Go.Sort
set_option linter.unusedVariables false
attribute [local go_sem] Oper.semAt_some

set_option maxRecDepth 20000 in
set_option maxHeartbeats 1000000 in
theorem sortedKeys_any {N : Zone} (Bm Bt bp bd bl bm fro pages buffers clock : Nat) (M : List (Int × Buf)) (w : World) (h : PoolAt w N bp bd bl bm fro pages buffers clock M) (hm : w.cell? ⟨Bm, 0, none⟩ = some (.map (some bm))) (hB : w.cell? ⟨Bt, 0, none⟩ = some (.pointer (some ⟨bp, 0, none⟩)))
    (hBt : Typed w Bt 123) (hc : clock < 4611686018427387904) :
    Calls Tryz.prog 69 #[.func (.func 93) #[] #[.pointer (some ⟨Bm, 0, none⟩)], .func (.func 71) #[] #[.pointer (some ⟨Bt, 0, none⟩)]] w fun e w' =>
      ∃ (v : Value) (zs : List Int), e = .returned v ∧ zs.Perm (M.map (·.1)) ∧ w'.ownsRow w.heap.size 3 1 v zs.length (zs.map (Value.int .i64)) ∧ Below w.heap.size w w' := by
  have H := Lib.hid h
  have HBT := Lib.hid hBt
  have HBC := Lib.hid hB
  have HC := Lib.hid hc
  clear h hBt hB hc
  go_enter Tryz.func69, Tryz.ntmps69
  go_wp2_with fail
  refine (collect_keys Bm bp bd bl bm fro pages buffers clock M _ H.out hm).mono ?_
  rintro e w1 ⟨v, ys, rfl, hys, ho, hb⟩
  have H1 := Lib.hid (H.out.below hb)
  have HB1 := Lib.hid (keepC hb HBC.out)
  have HT1 : Hid (Typed w1 Bt 123) := Lib.hid (by obtain ⟨cs, h'⟩ := HBT.out; exact ⟨cs, (hb.block _ (Array.getElem?_eq_some_iff.1 h').1).trans h'⟩)
  have HY := Lib.hid hys
  have HO := Lib.hid ho
  have HBE := Lib.hid hb
  obtain ⟨p, c, rfl⟩ := own_zero ho
  clear hys ho hb
  go_wp2_with fail
  refine (sortKeys_any Bt bp bd bl bm fro pages buffers clock w.heap.size M ys (.slice p ys.length c) w1 H1.out HB1.out HT1.out HC.out HY.out HO.out).mono ?_
  rintro e w2 ⟨⟨x, rfl⟩, zs, hz, ho2, hb2⟩
  have hl : ys.length = zs.length := by rw [HY.out.length_eq, hz.length_eq]
  rw [hl] at ho2
  have HZ := Lib.hid hz
  have HO2 := Lib.hid ho2
  have HB2 := Lib.hid (HBE.out.trans (hb2 w.heap.size HBE.out.size (Nat.le_refl _)))
  clear hz ho2 hb2
  go_wp2
  go_ret
  exact ⟨_, zs, rfl, HZ.out, HO2.out, HB2.out⟩

set_option maxRecDepth 20000 in
set_option maxHeartbeats 1000000 in
theorem order_any {N : Zone} (bp bd bl bm fro pages buffers clock : Nat) (M : List (Int × Buf)) (w : World) (h : PoolAt w N bp bd bl bm fro pages buffers clock M) (hc : clock < 4611686018427387904) :
    Calls Tryz.prog 47 #[.pointer (some ⟨bp, 0, none⟩)] w fun e w' => ∃ (v : Value) (zs : List Int), e = .returned v ∧ zs.Perm (M.map (·.1)) ∧ w'.ownsRow w.heap.size 3 1 v zs.length (zs.map (Value.int .i64)) ∧ Below w.heap.size w w' := by
  have hb1 : Below w.heap.size w (w.alloc (.cells #[.pointer (some ⟨bp, 0, none⟩)] 123)) := (Below.refl _ w).alloc (Nat.le_refl _) _
  have HB := Lib.hid hb1
  have HB2 : Hid (Below w.heap.size w ((w.alloc (.cells #[.pointer (some ⟨bp, 0, none⟩)] 123)).alloc (.cells #[.map (some bm)] 52))) := Lib.hid (hb1.alloc (by simp) _)
  have kb := keepC hb1 h.load.1
  have HK := Lib.hid kb
  have hlt := cell_lt h.load.1
  have hh2 : ((w.alloc (.cells #[.pointer (some ⟨bp, 0, none⟩)] 123)).alloc (.cells #[.map (some bm)] 52)).heap[w.heap.size]? = some (.cells #[.pointer (some ⟨bp, 0, none⟩)] 123 (0, 0)) :=
    (Below.heap_alloc _ _ _ (by simp)).trans (heap_alloc_new w _)
  have HT2 : Hid (Typed ((w.alloc (.cells #[.pointer (some ⟨bp, 0, none⟩)] 123)).alloc (.cells #[.map (some bm)] 52)) w.heap.size 123) := Lib.hid ⟨_, hh2⟩
  have HC2 : Hid (((w.alloc (.cells #[.pointer (some ⟨bp, 0, none⟩)] 123)).alloc (.cells #[.map (some bm)] 52)).cell? ⟨w.heap.size, 0, none⟩ = some (.pointer (some ⟨bp, 0, none⟩))) := Lib.hid (by simp [World.cell?, hh2])
  have H2 := Lib.hid (h.below HB2.out)
  have HC := Lib.hid hc
  clear h hb1 hh2 hc
  go_enter Tryz.func47, Tryz.ntmps47
  go_wp2_with fail
  refine (keys_any (some bm) _).mono ?_
  rintro e w1 ⟨rfl, rfl⟩
  go_wp2_with fail
  refine (sortedKeys_any (w.heap.size + 1) w.heap.size bp bd bl bm fro pages buffers clock M _ H2.out ?hm HC2.out HT2.out HC.out).mono ?_
  case hm =>
    have e := cellNew (w := w.alloc (.cells #[.pointer (some ⟨bp, 0, none⟩)] 123)) (cs := #[.map (some bm)]) (t := 52) (j := 0) (v := .map (some bm)) rfl
    rw [World.size_alloc] at e
    exact e
  rintro e w2 ⟨v, zs, rfl, hz, ho, hb⟩
  have HZ := Lib.hid hz
  have HO := Lib.hid (own_mono ho (base' := w.heap.size) (by simp; omega))
  have HB3 := Lib.hid (chainC HB2.out hb)
  obtain ⟨p, c, rfl⟩ := own_zero ho
  clear hz ho hb
  go_wp2
  go_ret
  exact ⟨_, zs, rfl, HZ.out, HO.out, HB3.out⟩
set_option maxRecDepth 20000 in
set_option maxHeartbeats 1000000 in
theorem held_any {N : Zone} (bp bd bl bm fro pages buffers clock : Nat) (M : List (Int × Buf)) (w : World) (h : PoolAt w N bp bd bl bm fro pages buffers clock M) (hc : clock < 4611686018427387904) :
    Calls Tryz.prog 22 #[.pointer (some ⟨bp, 0, none⟩)] w fun e w' => ∃ (v : Value) (zs : List Int), e = .returned v ∧ zs.Perm (M.map (·.1)) ∧ w'.ownsRow w.heap.size 3 1 v zs.length (zs.map (Value.int .i64)) ∧ Below w.heap.size w w' := by
  have H := Lib.hid h
  have HC := Lib.hid hc
  have k0 := h.load.1
  clear h hc
  go_enter Tryz.func22, Tryz.ntmps22
  go_wp2_with fail
  refine (order_any bp bd bl bm fro pages buffers clock M _ H.out HC.out).mono ?_
  rintro e w1 ⟨v, zs, rfl, hz, ho, hb⟩
  have HZ := Lib.hid hz
  have HO := Lib.hid ho
  have HB := Lib.hid hb
  obtain ⟨p, c, rfl⟩ := own_zero ho
  clear hz ho hb
  go_wp2
  go_ret
  exact ⟨_, zs, rfl, HZ.out, HO.out, HB.out⟩

/-- A place in a row of its own. -/
theorem own_at1 {w : World} {base n c : Nat} {e : TypeId} {p : Option Addr} {xs : List Value} (h : w.ownsRow base e 1 (.slice p n c) n xs) (hn : 0 < n) : ∃ g, p = some ⟨g, 0, none⟩ ∧ base ≤ g ∧ Typed w g e ∧ ∀ (j : Nat) (x : Value), xs[j]? = some x → w.cell? ⟨g, j, none⟩ = some x := by
  rcases h.2 with ⟨e', h0⟩ | ⟨g, cap, cur, e', hb, hg, h1, h2, h3, h4⟩
  · omega
  · cases e'
    refine ⟨g, rfl, hb, ⟨_, hg⟩, fun j x hx => ?_⟩
    have hl : xs.length = n * 1 := h.1
    have hj : j < n * 1 := by rw [← hl]; exact (List.getElem?_eq_some_iff.1 hx).1
    rw [← h4, List.getElem?_take_of_lt hj] at hx
    simp only [World.cell?, hg]
    simpa using hx

set_option maxRecDepth 20000 in
set_option maxHeartbeats 2000000 in
theorem victim_any {N : Zone} (bp bd bl bm fro pages buffers clock : Nat) (M : List (Int × Buf)) (w : World) (h : PoolAt w N bp bd bl bm fro pages buffers clock M) (hc : clock < 4611686018427387904) :
    Calls Tryz.prog 59 #[.pointer (some ⟨bp, 0, none⟩)] w fun e w' => ((∃ n b, e = .returned (.tuple #[.int .i64 n, .bool true]) ∧ (n, b) ∈ M ∧ b.pins = 0) ∨ (e = .returned (.tuple #[.int .i64 0, .bool false]) ∧ ∀ x ∈ M, x.2.pins ≠ 0)) ∧ Below w.heap.size w w' := by
  have H := Lib.hid h
  have HC := Lib.hid hc
  have k0 := h.load.1
  have hlt := cell_lt k0
  have HK := Lib.hid k0
  clear h hc
  go_enter Tryz.func59, Tryz.ntmps59
  go_wp2_with fail
  refine (order_any bp bd bl bm fro pages buffers clock M _ H.out HC.out).mono ?_
  rintro e w1 ⟨v, zs, rfl, hz, ho, hb⟩
  have HZ := Lib.hid hz
  have HO := Lib.hid ho
  have HB := Lib.hid hb
  have H1 := Lib.hid (H.out.below hb)
  have k01 := keepC hb k0
  have hsm : zs.length ≤ 100000 := by
    have h5 := hz.length_eq
    obtain ⟨_, _, _, _, _, h6, _⟩ := H.out.map
    simp [mapP] at h6 h5
    omega
  obtain ⟨p, c, rfl⟩ := own_zero ho
  obtain ⟨L, hL⟩ : ∃ L, L = zs.length := ⟨_, rfl⟩
  rw [← hL] at hsm ⊢
  have HL := Lib.hid hL
  clear hz ho hb hL
  go_wp2_with fail
  go_loopw [11] (fun i wr => ∃ k : Nat, k ≤ L ∧ i = .int .i64 k ∧ Hid (∀ j x b, j < k → zs[j]? = some x → (x, b) ∈ M → b.pins ≠ 0) ∧ wr = w1) (fun i _ => L - (intOf i).toNat)
  case atStart => exact ⟨0, by omega, rfl, Lib.hid (fun j x b hj => by omega), rfl⟩
  case round =>
    obtain ⟨k, hk, rfl, HP, rfl⟩ := hrel
    by_cases hkl : k < L
    · obtain ⟨x, hx⟩ : ∃ x, zs[k]? = some x := ⟨_, List.getElem?_eq_getElem (by rw [← HL.out]; exact hkl)⟩
      have hxm : x ∈ M.map (·.1) := HZ.out.mem_iff.1 (List.mem_of_getElem? hx)
      obtain ⟨⟨x', b⟩, hxb, hxe⟩ := List.mem_map.1 hxm
      obtain rfl : x' = x := hxe
      have ho' := HO.out
      rw [← HL.out] at ho'
      obtain ⟨g, rfl, -, -, hcell⟩ := own_at1 ho' (by omega)
      have hx2 : wr.cell? ⟨g, k, none⟩ = some (.int .i64 x') := hcell k _ (by simp [hx])
      have c3 := (H1.out.bufs _ hxb).cell.2.2.2.1
      have HLK : Hid (look (mapP M) x' = some (.pointer (some ⟨b.blk, 0, none⟩))) := Lib.hid (by rw [look_mapP, look_of_mem H1.out.nodup hxb]; rfl)
      have HX := Lib.hid hx
      have HXB := Lib.hid hxb
      clear hx hxm hxb hcell ho'
      by_cases hp : b.pins = 0
      · have hd : ((b.pins : Int) == 0) = true := by rw [beq_iff_eq]; omega
        have HPP := Lib.hid hp
        clear hp
        go_wp2_with (at_lookup; refine wpList_look (KK := intKeys) rfl _ _ 52 rfl 3 83 Tryz.underlying52 Tryz.underlying3 _ zbuf x' rfl rfl H1.out.map.is ?_; rw [HLK.out, Option.getD_some])
        go_returns
        exact ⟨.inl ⟨x', rfl, b, HXB.out, HPP.out⟩, HB.out⟩
      · have hd : ((b.pins : Int) == 0) = false := by rw [beq_eq_false_iff_ne]; omega
        have HPP := Lib.hid hp
        clear hp
        go_wp2_with (at_lookup; refine wpList_look (KK := intKeys) rfl _ _ 52 rfl 3 83 Tryz.underlying52 Tryz.underlying3 _ zbuf x' rfl rfl H1.out.map.is ?_; rw [HLK.out, Option.getD_some])
        go_roundw
        case rel => exact ⟨k + 1, by omega, by congr 1, Lib.hid (fun j y c hj hy hm => by
          rcases Nat.lt_or_ge j k with h' | h'
          · exact HP.out j y c h' hy hm
          · obtain rfl : j = k := by omega
            rw [HX.out] at hy
            cases hy
            rw [one_key H1.out.nodup hm HXB.out]
            exact HPP.out), by first | rfl | trivial⟩
        case measure => simp [intOf]; omega
    · obtain rfl : k = L := by omega
      go_wp2
      go_returns
      refine ⟨.inr ⟨rfl, fun x hx => ?_⟩, HB.out⟩
      have hm : x.1 ∈ zs := HZ.out.mem_iff.2 (List.mem_map.2 ⟨x, hx, rfl⟩)
      obtain ⟨j, hj⟩ := List.getElem?_of_mem hm
      exact HP.out j x.1 x.2 (by rw [HL.out]; exact (List.getElem?_eq_some_iff.1 hj).1) hj hx
end Go.Proofs.YtefalhnllkkkhaaGreatDoor
