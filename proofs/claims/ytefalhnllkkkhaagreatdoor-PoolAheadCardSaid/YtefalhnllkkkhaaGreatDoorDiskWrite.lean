/- (*disk.Disk).Write. -/
import Derived.Test.YtefalhnllkkkhaaGreatDoorDiskNew
namespace Go.Proofs.YtefalhnllkkkhaaGreatDoor
open Go.RowKit
set_option linter.unusedVariables false

theorem Upd.trans' {S T : Nat → Prop} {a b c : World} (h : Upd S a b) (k : Upd T b c) (hT : ∀ j, j < a.heap.size → T j → S j) : Upd S a c :=
  (h.trans k).mono fun j hj hs => hs.elim id (hT j hj)
theorem own_ne {W : World} {base : Nat} {e t : TypeId} {size n k : Nat} {v : Value} {xs : List Value} {cs : Array Value} (h : W.ownsRow base e size v n xs) (hk : W.heap[k]? = some (.cells cs t (0, 0))) (ht : t ≠ e) : some k ≠ v.ownBlock := fun e' => by
  rcases h.2 with ⟨rfl, _⟩ | ⟨g, cap, cur, rfl, _, hgb, _⟩
  · simp [Value.ownBlock] at e'
  · have : k = g := by simpa [Value.ownBlock] using e'
    subst this
    rw [hk] at hgb
    cases hgb
    exact ht rfl
theorem own_typed {W : World} {base : Nat} {e : TypeId} {size n k : Nat} {v : Value} {xs : List Value} (h : W.ownsRow base e size v n xs) (hk : some k = v.ownBlock) : Typed W k e := by
  rcases h.2 with ⟨rfl, _⟩ | ⟨g, cap, cur, rfl, _, hgb, _⟩
  · simp [Value.ownBlock] at hk
  · have : k = g := by simpa [Value.ownBlock] using hk
    subst this
    exact ⟨cur, hgb⟩
theorem grown_at {W w1 : World} {v : Value} {base : Nat} {e t : TypeId} {size n k : Nat} {xs : List Value} {cs : Array Value} (hk : W.heap[k]? = some (.cells cs t (0, 0))) (ho : W.ownsRow base e size v n xs) (hg : W.grownBy w1 v.ownBlock) (ht : t ≠ e) : w1.heap[k]? = some (.cells cs t (0, 0)) :=
  (hg.block k (Array.getElem?_eq_some_iff.1 hk).1 (own_ne ho hk ht)).trans hk
theorem alloc_at {W : World} {k : Nat} {o o' : Obj} (h : W.heap[k]? = some o') : (W.alloc o).heap[k]? = some o' := (Below.heap_alloc _ _ k (Array.getElem?_eq_some_iff.1 h).1).trans h
theorem own_ge {W : World} {base : Nat} {e : TypeId} {size n k : Nat} {v : Value} {xs : List Value} (h : W.ownsRow base e size v n xs) (hk : some k = v.ownBlock) : base ≤ k := by
  rcases h.2 with ⟨rfl, _⟩ | ⟨g, cap, cur, rfl, hb, hgb, _⟩
  · simp [Value.ownBlock] at hk
  · have : k = g := by simpa [Value.ownBlock] using hk
    omega
theorem own_apart {W w : World} {base base' : Nat} {e e' : TypeId} {size size' n n' : Nat} {v v' : Value} {xs xs' : List Value} (h : W.ownsRow base e size v n xs) (h' : w.ownsRow base' e' size' v' n' xs') (hb : w.heap.size ≤ base := by exact Nat.le_refl _) : v.ownBlock = none ∨ v.ownBlock ≠ v'.ownBlock := by
  rcases h.2 with ⟨rfl, _⟩ | ⟨g, cap, cur, rfl, hg, hgb, _⟩
  · exact .inl rfl
  · refine .inr fun e => ?_
    have := (h'.lt g (by rw [← e]; rfl)).2
    omega
theorem Upd.setC (w : World) (b i : Nat) (v : Value) : Upd (fun k => k = b) w (w.setCell ⟨b, i, none⟩ v) :=
  ⟨rfl, rfl, rfl, by simp [World.setCell], fun k _ hk => heap_setCell_other _ _ _ _ hk⟩
theorem Upd.drewBelow {w w2 : World} (h : Below w.drew.heap.size w.drew w2) (T : Nat → Prop) : Upd T w w2 := ⟨h.os, h.tape, h.output, h.size, fun k hk _ => h.block k hk⟩
theorem Upd.allocU {w w2 : World} {T : Nat → Prop} (h : Upd T w w2) (o : Obj) : Upd T w (w2.alloc o) :=
  h.trans' (Upd.of_below' ((Below.refl _ w2).alloc (Nat.le_refl _) o) T) (fun j _ h => h)
theorem write_end {w w2 w3 : World} {N : Zone} {bd i : Nat} {S : List (List UInt8)} {P : List (Nat × List UInt8)} {xs : List UInt8} {bs cs : Nat} {vs us : List Value} {pq q2 : Option Addr} {L pc c2 gg cap : Nat}
    (HL : L = P.length) (HX : xs.length = 128) (HI : i < S.length) (HNN : ∀ k, N k → k < w.heap.size)
    (HH : w.heap[bd]? = some (.cells #[.slice (some ⟨bs, 0, none⟩) S.length cs, .slice pq L pc] 75 (0, 0))) (HV : w.ownsRow N.B 37 1 (.slice (some ⟨bs, 0, none⟩) S.length cs) S.length vs) (HVL : vs.length = S.length)
    (HVB : ∀ (i : Nat) (x : List UInt8) (v : Value), S[i]? = some x → vs[i]? = some v → Byt w N v x)
    (HPR : w.ownsRow N.B 91 2 (.slice pq L pc) L ((P.zip us).flatMap fun x => [.int .i64 x.1.1, x.2])) (HPL : us.length = P.length) (HPB : ∀ (i : Nat) (x : Nat × List UInt8) (v : Value), P[i]? = some x → us[i]? = some v → Byt w N v x.2)
    (HA : 0 < S.length ∧ S.length ≤ 4096 ∧ (∀ x ∈ S, x.length = 128) ∧ (∀ x ∈ P, x.2.length = 128) ∧ (∀ x ∈ P, x.1 < S.length))
    (HO2 : w2.ownsRow w.drew.heap.size 5 1 (.slice q2 128 c2) 128 (B8s xs)) (HB2 : Below w.drew.heap.size w.drew w2)
    (HG3 : (w2.alloc (.cells #[.int .i64 i, .slice q2 128 c2] 91)).grownBy w3 (Value.slice pq L pc).ownBlock)
    (HO3 : w3.ownsRow N.B 91 2 (.slice (some ⟨gg, 0, none⟩) (L + 1) cap) (L + 1) (((P.zip us).flatMap fun x => [.int .i64 x.1.1, x.2]) ++ [.int .i64 i, .slice q2 128 c2]))
    (HLO : N.B ≤ bd) (HD3 : w3.heap[bd]? = some (.cells #[.slice (some ⟨bs, 0, none⟩) S.length cs, .slice pq L pc] 75 (0, 0))) :
    DiskAt (w3.setCell ⟨bd, 1, none⟩ (.slice (some ⟨gg, 0, none⟩) (L + 1) cap)) N bd S (P ++ [(i, xs)]) ∧ Upd (DS N w) w (w3.setCell ⟨bd, 1, none⟩ (.slice (some ⟨gg, 0, none⟩) (L + 1) cap)) := by
  have hU : Upd (fun k => (N.B ≤ k ∧ Typed w k 91) ∨ k = bd) w (w3.setCell ⟨bd, 1, none⟩ (.slice (some ⟨gg, 0, none⟩) (L + 1) cap)) :=
    ((((Upd.drewBelow HB2 _).allocU _).trans' (Upd.of_grown HG3) (fun j _ hj => .inl ⟨own_ge HPR hj, own_typed HPR hj⟩)).trans' (Upd.setC w3 bd 1 _) (fun j _ hj => .inr hj))
  have hbd : Typed w bd 75 := ⟨_, HH⟩
  have hn : ∀ t, t ≠ 91 → t ≠ 75 → ∀ k, ((N.B ≤ k ∧ Typed w k 91) ∨ k = bd) → ¬ Typed w k t := fun t h1 h2 k hk ht => by
    rcases hk with ⟨-, hk⟩ | rfl
    · exact h1 (ht.one hk)
    · exact h2 (ht.one hbd)
  have n8 : ∀ k, ((N.B ≤ k ∧ Typed w k 91) ∨ k = bd) → Typed w k 5 → N k := fun k hk ht => absurd ht (hn _ (by decide) (by decide) k hk)
  have hnew : Byt (w3.setCell ⟨bd, 1, none⟩ (.slice (some ⟨gg, 0, none⟩) (L + 1) cap)) N (.slice q2 128 c2) xs := by
    refine Byt.own (base := w.heap.size) (n := 128) ?_ HNN
    have o3 := (HO2.alloc (.cells #[.int .i64 i, .slice q2 128 c2] 91)).kept HG3 (own_apart HO2 HPR)
    exact own_upd o3 (Upd.setC w3 bd 1 _) (fun k hk ht => by subst hk; obtain ⟨cs', h'⟩ := ht; rw [HD3] at h'; cases h')
  refine ⟨⟨⟨bs, cs, .slice (some ⟨gg, 0, none⟩) (L + 1) cap, vs, us ++ [.slice q2 128 c2], heap_setCell_same w3 bd 1 _ _ _ HD3, own_upd HV hU (hn _ (by decide) (by decide)), HVL, fun j x v hx hv => (HVB j x v hx hv).upd hU n8, ?_, by simp [HPL], ?_⟩, HA.1, HA.2.1, HA.2.2.1, ?_, ?_, HLO⟩, hU.mono ?_⟩
  · have := own_upd HO3 (Upd.setC w3 bd 1 (.slice (some ⟨gg, 0, none⟩) (L + 1) cap)) (fun k hk ht => by subst hk; obtain ⟨cs', h'⟩ := ht; rw [HD3] at h'; cases h')
    rw [List.zip_append HPL.symm, List.flatMap_append, List.length_append, ← HL]
    simpa using this
  · intro j x v hx hv
    rcases Nat.lt_or_ge j P.length with hj | hj
    · rw [List.getElem?_append_left hj] at hx
      rw [List.getElem?_append_left (by omega)] at hv
      exact (HPB j x v hx hv).upd hU n8
    · have hj2 : j = P.length := by have := (List.getElem?_eq_some_iff.1 hx).1; simp at this; omega
      subst hj2
      simp at hx
      subst hx
      rw [← HPL] at hv
      simp at hv
      subst hv
      exact hnew
  · intro x hx
    rcases List.mem_append.1 hx with h | h
    · exact HA.2.2.2.1 x h
    · rw [List.mem_singleton.1 h]; exact HX
  · intro x hx
    rcases List.mem_append.1 hx with h | h
    · exact HA.2.2.2.2 x h
    · rw [List.mem_singleton.1 h]; exact HI
  · intro k _ hk
    rcases hk with ⟨hl, hk⟩ | rfl
    · exact ⟨hl, .inr (.inr hk)⟩
    · exact ⟨HLO, .inl hbd⟩
theorem infoSent : (Tryz.prog.info? 91).map (fun i => (i.zero, i.size, i.bytes)) = some (some (.agg #[.int .i64 0, .slice none 0 0]), 2, 32) := by kernel_rfl
theorem sent_news (W : World) (i : Int) (v : Value) (j : Nat) (u : Value) (h : [.int .i64 i, v][j]? = some u) :
    (W.alloc (.cells #[.int .i64 i, v] 91)).cell? ((⟨W.heap.size, 0, none⟩ : Addr).add j) = some u := by
  have hj : j = 0 ∨ j = 1 := by
    have := (List.getElem?_eq_some_iff.1 h).1
    simp at this
    omega
  rcases hj with rfl | rfl
  · cases h; exact cellNew rfl
  · cases h; exact cellNew rfl
def writeE (i : Int) (n m : Nat) : Int := if 0 ≤ i ∧ i < n then (if m = 128 then 0 else 1) else 1

set_option maxHeartbeats 2000000 in
set_option maxRecDepth 20000 in
theorem diskWrite_any {N : Zone} (bd : Nat) (S : List (List UInt8)) (P : List (Nat × List UInt8)) (i : Nat) (q : Option Addr) (c : Nat) (xs : List UInt8) (w : World) (h : DiskAt w N bd S P) (hN : ∀ k, N k → k < w.heap.size) (hi : i < S.length) (hx : xs.length = 128) (hr : Rd w q xs) (hP : P.length < 1000000000) :
    Calls Tryz.prog 44 #[.pointer (some ⟨bd, 0, none⟩), .int .i64 i, .slice q 128 c] w fun e w' => e = .returned (.int .i64 0) ∧ DiskAt w' N bd S (P ++ [(i, xs)]) ∧ Upd (DS N w) w w' := by
  have H := Lib.hid h
  have HX := Lib.hid hx
  have HR := Lib.hid hr
  have HP := Lib.hid hP
  obtain ⟨⟨bs, cs, pv, vs, us, hh, hv, hvl, hvb, hp, hpl, hpb⟩, a1, a2, a3, a4, a5⟩ := h
  have HLK : Hid (lookE i S.length = 0) := Lib.hid (if_pos (by omega))
  obtain ⟨pq, pc, rfl, hpc⟩ : ∃ q c, pv = .slice q P.length c ∧ P.length ≤ c := by
    rcases hp.2 with ⟨rfl, h0⟩ | ⟨g, cap, cur, rfl, _, _, h1, _⟩
    · exact ⟨none, 0, by rw [h0], by omega⟩
    · exact ⟨_, cap, rfl, h1⟩
  obtain ⟨L, hL⟩ : ∃ L, L = P.length := ⟨_, rfl⟩
  rw [← hL] at hh hp hpc HP
  have HL := Lib.hid hL
  have HH := Lib.hid hh
  have HV := Lib.hid hv
  have HPR := Lib.hid hp
  have HVL := Lib.hid hvl
  have HVB := Lib.hid hvb
  have HPL := Lib.hid hpl
  have HPB := Lib.hid hpb
  have k1 : w.cell? ⟨bd, 1, none⟩ = some (.slice pq L pc) := by simp [World.cell?, hh]
  have f1 : w.frozen? ⟨bd, 1, none⟩ = false := frozenC hh
  have hlt := cell_lt k1
  have HLB : Hid (N.B ≤ w.heap.size) := Lib.hid (by have h1 := H.out.low; have h2 : bd < w.heap.size := hlt; omega)
  have HI := Lib.hid hi
  have HA : Hid (0 < S.length ∧ S.length ≤ 4096 ∧ (∀ x ∈ S, x.length = 128) ∧ (∀ x ∈ P, x.2.length = 128) ∧ (∀ x ∈ P, x.1 < S.length)) := Lib.hid ⟨a1, a2, a3, a4, a5⟩
  have HNN := Lib.hid hN
  have HRD := Lib.hid (HR.out.drewN 1)
  rw [show w.drewN 1 = w.drew from rfl] at HRD
  clear hh hv hvl hvb hp hpl hpb a1 a2 a3 a4 a5 hx hr hi hN hL hP
  obtain ⟨i0, hi, hz0, hz1, hz2⟩ := info_parts infoSent
  go_enter Tryz.func44, Tryz.ntmps44
  go_wp2_with fail
  refine (look_any bd S P i _ H.out).mono ?_
  rintro e w1 ⟨rfl, rfl⟩
  rw [HLK.out]
  go_wp2_with fail
  go_region_law (first
    | (go_simp; go_at_call 10; refine (clone_any q 128 c xs _ HX.out (by omega) ?_).mono ?_; exact HRD.out; rintro e w2 ⟨v2, rfl, hown2, hb2⟩; obtain ⟨q2, c2, rfl, hc2⟩ := own_slice hown2; have HO2 := Lib.hid hown2; have HB2 := Lib.hid hb2; have k12 : w2.cell? ⟨bd, 1, none⟩ = some (.slice pq L pc) := (keepC hb2 (show w1.drew.cell? _ = _ from k1)); have hlt2 := cell_lt k12; have HD2 := Lib.hid (alloc_at (o := .cells #[.int .i64 i, .slice q2 128 c2] 91) ((hb2.block bd (cell_lt k1)).trans HH.out)); have HOA := Lib.hid ((own_later HPR.out.drew hb2).alloc (.cells #[.int .i64 i, .slice q2 128 c2] 91)); clear hown2 hb2)
    | (refine step_append_lies _ rfl (.tmp 21) (.tmp 26) 43 rfl N.B 91 i0 (.agg #[.int .i64 0, .slice none 0 0]) 2 32 Tryz.underlying43 hi hz0 hz1 hz2 rfl (by decide) (.slice pq L pc) L _ rfl HOA.out ⟨w2.heap.size, 0, none⟩ 1 1 [.int .i64 i, .slice q2 128 c2] (by rfl) rfl (sent_news w2 i _) (by simp [Value.oneCell']) (by omega) (by simp only [maxLen]; have := HP.out; omega) (by have := HP.out; omega) (by have h1 := HLB.out; have h2 : w1.heap.size ≤ w2.heap.size := HB2.out.size; simp; omega) (w2.heap.size + 1) (by simp) ?_; intro gg cap w3 hown3 hgrow3 hat hltg; have HD3 := Lib.hid (grown_at HD2.out HOA.out hgrow3 (by decide)); have k13 : w3.cell? ⟨bd, 1, none⟩ = some (.slice pq L pc) := (by simp [World.cell?, HD3.out]); have f13 := frozenC (i := 1) HD3.out; have HG3 := Lib.hid hgrow3; have HO3 := Lib.hid hown3; clear hown3 hgrow3 hat))
  all_goals go_wp2
  all_goals go_ret
  all_goals exact ⟨rfl, write_end HL.out HX.out HI.out HNN.out HH.out HV.out HVL.out HVB.out HPR.out HPL.out HPB.out HA.out HO2.out HB2.out HG3.out HO3.out H.out.low HD3.out⟩
end Go.Proofs.YtefalhnllkkkhaaGreatDoor
