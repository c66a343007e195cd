/- A disk in memory: what it holds; disk.New, Sectors, look. -/
import Derived.Test.YtefalhnllkkkhaaGreatDoorDecode
import Derived.Test.YtefalhnllkkkhaaGreatDoorRefDecode
import Derived.Test.YtefalhnllkkkhaaGreatDoorPutP
import Derived.Deep.AppendLies
import Derived.Deep.RegionHeld3
namespace Go.Proofs.YtefalhnllkkkhaaGreatDoor
open Go.RowKit
set_option linter.unusedVariables false

/-- A block of cells of a type. -/
def Typed (w : World) (k : Nat) (t : TypeId) : Prop := ∃ cs, w.heap[k]? = some (.cells cs t (0, 0))
theorem Typed.one {w : World} {k : Nat} {t u : TypeId} (h : Typed w k t) (h' : Typed w k u) : t = u := by
  obtain ⟨a, ha⟩ := h
  obtain ⟨b, hb⟩ := h'
  rw [ha] at hb
  cases hb
  rfl
/-- Bytes, in a block that is none of N's. -/
def Byt (w : World) (N : Nat → Prop) (v : Value) (xs : List UInt8) : Prop :=
  ∃ p c, v = .slice p xs.length c ∧ xs.length ≤ c ∧ c ≤ maxLen ∧ (0 < xs.length → ∃ g o cs, p = some ⟨g, o, none⟩ ∧ w.heap[g]? = some (.cells cs 5 (0, 0)) ∧ ¬ N g ∧ ∀ i x, xs[i]? = some x → cs[o + i]? = some (B8 x))
theorem Byt.rd {w : World} {N : Nat → Prop} {p : Option Addr} {n c : Nat} {xs : List UInt8} (h : Byt w N (.slice p n c) xs) : Rd w p xs ∧ xs.length = n ∧ n ≤ c ∧ c ≤ maxLen := by
  obtain ⟨p', c', e, h1, h2, h3⟩ := h
  cases e
  refine ⟨fun hne => ?_, rfl, h1, h2⟩
  obtain ⟨g, o, cs, rfl, hh, hn, hc⟩ := h3 (by rcases xs with _ | ⟨x, xs⟩ <;> simp [B8s] at hne ⊢)
  refine ⟨g, o, rfl, fun i v hv => ?_⟩
  obtain ⟨x, hx, rfl⟩ : ∃ x, xs[i]? = some x ∧ B8 x = v := by simpa [B8s] using hv
  simp only [World.cell?, hh]
  simpa using hc i x hx
theorem Byt.slice {w : World} {N : Nat → Prop} {v : Value} {xs : List UInt8} (h : Byt w N v xs) : ∃ p c, v = .slice p xs.length c := by
  obtain ⟨p, c, rfl, -⟩ := h
  exact ⟨p, c, rfl⟩
theorem Byt.upd {w w' : World} {N S : Nat → Prop} {v : Value} {xs : List UInt8} (h : Byt w N v xs) (hu : Upd S w w') (hS : ∀ k, S k → Typed w k 5 → N k) : Byt w' N v xs := by
  obtain ⟨p, c, rfl, h1, h2, h3⟩ := h
  refine ⟨p, c, rfl, h1, h2, fun hp => ?_⟩
  obtain ⟨g, o, cs, rfl, hh, hn, hc⟩ := h3 hp
  exact ⟨g, o, cs, rfl, (hu.block g (Array.getElem?_eq_some_iff.1 hh).1 (fun hs => hn (hS g hs ⟨cs, hh⟩))).trans hh, hn, hc⟩
/-- The blocks to be kept clear of may turn into others, so they are no elder ones. -/
theorem Byt.mono {w : World} {N N' : Nat → Prop} {v : Value} {xs : List UInt8} (h : Byt w N v xs) (hN : ∀ k, k < w.heap.size → N' k → N k) : Byt w N' v xs := by
  obtain ⟨p, c, rfl, h1, h2, h3⟩ := h
  refine ⟨p, c, rfl, h1, h2, fun hp => ?_⟩
  obtain ⟨g, o, cs, rfl, hh, hn, hc⟩ := h3 hp
  exact ⟨g, o, cs, rfl, hh, fun hn' => hn (hN g (Array.getElem?_eq_some_iff.1 hh).1 hn'), hc⟩
theorem Byt.own {w : World} {N : Nat → Prop} {base n : Nat} {v : Value} {xs : List UInt8} (h : w.ownsRow base 5 1 v n (B8s xs)) (hN : ∀ k, N k → k < base) : Byt w N v xs := by
  rcases Nat.eq_zero_or_pos n with h0 | h0
  · subst h0
    obtain ⟨p, c, e, hr, hl, hm, hb⟩ := own_rd h
    obtain ⟨p', c', e', hle, hcm⟩ : ∃ p c, v = .slice p 0 c ∧ 0 ≤ c ∧ c ≤ maxLen := by
      rcases h.2 with ⟨rfl, _⟩ | ⟨g, cap, cur, rfl, hb, hh, h1, h2, _⟩
      · exact ⟨none, 0, rfl, Nat.le_refl _, by simp⟩
      · exact ⟨_, cap, rfl, Nat.zero_le _, h2⟩
    have hx : xs = [] := List.eq_nil_of_length_eq_zero hl
    subst hx
    exact ⟨p', c', e', hle, hcm, fun hp => by simp at hp⟩
  · obtain ⟨g, cap, cur, rfl, hb, hh, hx, hc, hm⟩ := own8 h h0
    refine ⟨some ⟨g, 0, none⟩, cap, by rw [hx], by omega, hm, fun hp => ⟨g, 0, _, rfl, hh, fun hn => by have := hN g hn; omega, fun i x hi => ?_⟩⟩
    have hil : i < (B8s xs).length := by rw [B8s_length]; exact (List.getElem?_eq_some_iff.1 hi).1
    rw [Nat.zero_add, List.getElem?_toArray, List.getElem?_append_left hil]
    simp [B8s, hi]

/-- Blocks from B on are ours; some of them are kept clear of. -/
structure Zone where
  B : Nat
  no : Nat → Prop
instance : CoeFun Zone (fun _ => Nat → Prop) := ⟨Zone.no⟩
instance : Coe Zone (Nat → Prop) := ⟨Zone.no⟩
/-- A disk in block bd: its sectors, and what is pending. -/
structure DiskAt (w : World) (N : Zone) (bd : Nat) (S : List (List UInt8)) (P : List (Nat × List UInt8)) : Prop where
  cells : ∃ (bs cs : Nat) (pv : Value) (vs us : List Value), w.heap[bd]? = some (.cells #[.slice (some ⟨bs, 0, none⟩) S.length cs, pv] 75 (0, 0)) ∧
    w.ownsRow N.B 37 1 (.slice (some ⟨bs, 0, none⟩) S.length cs) S.length vs ∧ vs.length = S.length ∧ (∀ (i : Nat) (x : List UInt8) (v : Value), S[i]? = some x → vs[i]? = some v → Byt w N v x) ∧
    w.ownsRow N.B 91 2 pv P.length ((P.zip us).flatMap fun x => [.int .i64 x.1.1, x.2]) ∧ us.length = P.length ∧ (∀ (i : Nat) (x : Nat × List UInt8) (v : Value), P[i]? = some x → us[i]? = some v → Byt w N v x.2)
  pos : 0 < S.length
  small : S.length ≤ 4096
  size : ∀ x ∈ S, x.length = 128
  psize : ∀ x ∈ P, x.2.length = 128
  pin : ∀ x ∈ P, x.1 < S.length
  low : N.B ≤ bd
/-- What a disk's calls may turn. -/
def DS (N : Zone) (w : World) (k : Nat) : Prop := N.B ≤ k ∧ (Typed w k 75 ∨ Typed w k 37 ∨ Typed w k 91)
theorem own_upd {w w' : World} {S : Nat → Prop} {base : Nat} {e : TypeId} {size n : Nat} {v : Value} {xs : List Value} (h : w.ownsRow base e size v n xs) (hu : Upd S w w') (hS : ∀ k, S k → ¬ Typed w k e) : w'.ownsRow base e size v n xs := by
  refine ⟨h.1, ?_⟩
  rcases h.2 with hn | ⟨g, cap, cur, rfl, hb, hg, rest⟩
  · exact .inl hn
  · exact .inr ⟨g, cap, cur, rfl, hb, (hu.block g (Array.getElem?_eq_some_iff.1 hg).1 (fun hs => hS g hs ⟨cur, hg⟩)).trans hg, rest⟩
theorem own_updB {w w' : World} {S : Nat → Prop} {base : Nat} {e : TypeId} {size n : Nat} {v : Value} {xs : List Value} (h : w.ownsRow base e size v n xs) (hu : Upd S w w') (hS : ∀ k, S k → base ≤ k → ¬ Typed w k e) : w'.ownsRow base e size v n xs := by
  refine ⟨h.1, ?_⟩
  rcases h.2 with hn | ⟨g, cap, cur, rfl, hb, hg, rest⟩
  · exact .inl hn
  · exact .inr ⟨g, cap, cur, rfl, hb, (hu.block g (Array.getElem?_eq_some_iff.1 hg).1 (fun hs => hS g hs hb ⟨cur, hg⟩)).trans hg, rest⟩
theorem DiskAt.upd {w w' : World} {N : Zone} {T : Nat → Prop} {bd : Nat} {S : List (List UInt8)} {P : List (Nat × List UInt8)} (h : DiskAt w N bd S P) (hu : Upd T w w') (h1 : ∀ k, T k → ¬ DS N w k) (h2 : ∀ k, T k → Typed w k 5 → N k) : DiskAt w' N bd S P := by
  obtain ⟨⟨bs, cs, pv, vs, us, hh, hv, hvl, hvb, hp, hpl, hpb⟩, a1, a2, a3, a4, a5, a6⟩ := h
  refine ⟨⟨bs, cs, pv, vs, us, ?_, own_updB hv hu (fun k hk hb ht => h1 k hk ⟨hb, .inr (.inl ht)⟩), hvl, fun i x v hx hv' => (hvb i x v hx hv').upd hu h2, own_updB hp hu (fun k hk hb ht => h1 k hk ⟨hb, .inr (.inr ht)⟩), hpl, fun i x v hx hv' => (hpb i x v hx hv').upd hu h2⟩, a1, a2, a3, a4, a5, a6⟩
  exact (hu.block bd (Array.getElem?_eq_some_iff.1 hh).1 (fun hs => h1 bd hs ⟨a6, .inl ⟨_, hh⟩⟩)).trans hh
theorem DiskAt.mono {w : World} {N N' : Zone} {bd : Nat} {S : List (List UInt8)} {P : List (Nat × List UInt8)} (h : DiskAt w N bd S P) (hN : ∀ k, k < w.heap.size → N' k → N k) (hB : N'.B ≤ N.B) : DiskAt w N' bd S P := by
  obtain ⟨⟨bs, cs, pv, vs, us, hh, hv, hvl, hvb, hp, hpl, hpb⟩, a1, a2, a3, a4, a5, a6⟩ := h
  exact ⟨⟨bs, cs, pv, vs, us, hh, own_mono hv hB, hvl, fun i x v hx hv' => (hvb i x v hx hv').mono hN, own_mono hp hB, hpl, fun i x v hx hv' => (hpb i x v hx hv').mono hN⟩, a1, a2, a3, a4, a5, Nat.le_trans hB a6⟩

theorem keepC {w w' : World} {p : Addr} {v : Value} (hb : Below w.heap.size w w') (h : w.cell? p = some v) : w'.cell? p = some v := (hb.cell (cell_lt h)).trans h
theorem chainC {w W1 W2 : World} (h1 : Below w.heap.size w W1) (h2 : Below W1.heap.size W1 W2) : Below w.heap.size w W2 := h1.trans (h2.mono h1.size)
theorem cellNew {w : World} {cs : Array Value} {t : TypeId} {j : Nat} {v : Value} (hj : cs[j]? = some v) : (w.alloc (.cells cs t)).cell? ⟨w.heap.size, j, none⟩ = some v := by
  have := heap_alloc_new w (.cells cs t)
  simp only [World.cell?, this]
  simpa using hj
theorem wrapK {k n : Nat} (h : k < n) (hn : n ≤ 9223372036854775807) : wrap64 ((k : Int) + 1) = ((k + 1 : Nat) : Int) := by
  unfold wrap64
  omega
theorem frozenC {w : World} {g i : Nat} {c : Array Value} {t : TypeId} (h : w.heap[g]? = some (.cells c t (0, 0))) : w.frozen? ⟨g, i, none⟩ = false := by simp [World.frozen?, h]
/-- No disk: nil, or one that no call made. -/
def NoDisk (w : World) (p : Option Addr) : Prop := p = none ∨ ∃ b c, p = some ⟨b, 0, none⟩ ∧ w.cell? ⟨b, 0, none⟩ = some (.slice none 0 c)
theorem DiskAt.load {w : World} {N : Zone} {bd : Nat} {S : List (List UInt8)} {P : List (Nat × List UInt8)} (h : DiskAt w N bd S P) :
    ∃ bs cs pv, w.cell? ⟨bd, 0, none⟩ = some (.slice (some ⟨bs, 0, none⟩) S.length cs) ∧ w.cell? ⟨bd, 1, none⟩ = some pv := by
  obtain ⟨⟨bs, cs, pv, vs, us, hh, -⟩, -⟩ := h
  exact ⟨bs, cs, pv, by simp [World.cell?, hh], by simp [World.cell?, hh]⟩

set_option maxHeartbeats 400000 in
theorem sectors_none (p : Option Addr) (w : World) (h : NoDisk w p) :
    Calls Tryz.prog 29 #[.pointer p] w fun e w' => e = .returned (.int .i64 0) ∧ w' = w := by
  rcases h with rfl | ⟨b, c, rfl, h⟩
  · go_enter Tryz.func29, Tryz.ntmps29
    go_wp2
    go_ret
    exact ⟨rfl, rfl⟩
  · go_enter Tryz.func29, Tryz.ntmps29
    go_wp2
    go_ret
    exact ⟨rfl, rfl⟩
set_option maxHeartbeats 400000 in
theorem sectors_any {N : Zone} (bd : Nat) (S : List (List UInt8)) (P : List (Nat × List UInt8)) (w : World) (h : DiskAt w N bd S P) :
    Calls Tryz.prog 29 #[.pointer (some ⟨bd, 0, none⟩)] w fun e w' => e = .returned (.int .i64 S.length) ∧ w' = w := by
  obtain ⟨bs, cs, pv, h0, h1⟩ := h.load
  clear h h1
  go_enter Tryz.func29, Tryz.ntmps29
  go_wp2
  go_ret
  exact ⟨rfl, rfl⟩

def lookE (i : Int) (n : Nat) : Int := if 0 ≤ i ∧ i < n then 0 else 1
set_option maxHeartbeats 400000 in
theorem look_none (p : Option Addr) (i : Int) (w : World) (h : NoDisk w p) :
    Calls Tryz.prog 37 #[.pointer p, .int .i64 i] w fun e w' => e = .returned (.int .i64 2) ∧ w' = w := by
  have H := Lib.hid h
  clear h
  go_enter Tryz.func37, Tryz.ntmps37
  go_wp2_with fail
  refine (sectors_none p _ H.out).mono ?_
  rintro e w' ⟨rfl, rfl⟩
  go_wp2
  go_ret
  exact ⟨rfl, rfl⟩
set_option maxHeartbeats 400000 in
theorem look_any {N : Zone} (bd : Nat) (S : List (List UInt8)) (P : List (Nat × List UInt8)) (i : Int) (w : World) (h : DiskAt w N bd S P) :
    Calls Tryz.prog 37 #[.pointer (some ⟨bd, 0, none⟩), .int .i64 i] w fun e w' => e = .returned (.int .i64 (lookE i S.length)) ∧ w' = w := by
  have hpos := h.pos
  obtain ⟨bs, cs, pv, h0, h1⟩ := h.load
  have H := Lib.hid h
  obtain ⟨n, hn⟩ : ∃ n, n = S.length := ⟨_, rfl⟩
  rw [← hn] at h0 hpos ⊢
  have HN := Lib.hid hn
  have hz : ((n : Int) == 0) = false := by simp; omega
  clear h h1 hn
  unfold lookE
  go_enter Tryz.func37, Tryz.ntmps37
  go_wp2_with fail
  refine (sectors_any bd S P _ H.out).mono ?_
  rintro e w' ⟨rfl, rfl⟩
  rw [← HN.out]
  by_cases hi : i < 0
  · have hd : decide (i < 0) = true := decide_eq_true hi
    go_wp2
    go_ret
    exact ⟨rfl, rfl⟩
  · have hd : decide (i < 0) = false := decide_eq_false hi
    by_cases hi2 : i < n
    · have hd2 : decide (i ≥ (n : Int)) = false := decide_eq_false (by omega)
      go_wp2
      go_ret
      exact ⟨rfl, rfl⟩
    · have hd2 : decide (i ≥ (n : Int)) = true := decide_eq_true (by omega)
      go_wp2
      go_ret
      exact ⟨rfl, rfl⟩
end Go.Proofs.YtefalhnllkkkhaaGreatDoor
