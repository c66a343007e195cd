/- Append over a pool in use; the log's Force for good; what is ahead of the log. -/
import Derived.Test.YtheeomjfpnijbaaGreatDoorPoolWant
namespace Go.Proofs.YtheeomjfpnijbaaGreatDoor
open Go.RowKit Go.Shelf
set_option linter.unusedVariables false

theorem or_stepI {L u k : Nat} (hL : L < 256 ^ k) (hk : k < 8) (hs : u * 256 ^ k < 9223372036854775808) :
    bits .or .i64 (L : Int) (IntKind.i64.wrap ((u : Int) * 2 ^ (8 * k))) = ((L + u * 256 ^ k : Nat) : Int) := by
  have e1 : ((u : Int) * 2 ^ (8 * k)) = ((u * 2 ^ (8 * k) : Nat) : Int) := by simp
  rw [pow256] at hL hs ⊢
  have hs' : u * 2 ^ (8 * k) < 2 ^ 63 := hs
  have hL63 : L < 2 ^ 63 := Nat.lt_trans hL (Nat.pow_lt_pow_right (by decide) (by omega))
  have hw : ∀ n : Int, 0 ≤ n → n < 2 ^ 63 → IntKind.i64.wrap n = n := fun n h0 h1 => by
    have h1' : n < 9223372036854775808 := h1
    rw [IntKind.wrap_i64]
    omega
  rw [e1, hw _ (by omega) (by exact_mod_cast hs'), (bits_nat .i64 63 (by decide) hw L _ hL63 hs').2, Nat.or_comm, Nat.mul_comm u, ← Nat.two_pow_add_eq_or_of_lt hL, Nat.add_comm]
theorem forceC_all (N : Zone) (bd bl n : Nat) : ForceC N bd bl n := by
  intro w c D L h hc
  by_cases he : L.forced = L.last
  · refine (force_same h.log he).mono ?_
    rintro e w' ⟨rfl, hb⟩
    exact ⟨rfl, L, D, ⟨rfl, rfl, rfl, rfl, he, rfl, rfl, fun _ _ => rfl⟩, h.below hb, Upd.of_below' hb _⟩
  · refine (force_any bd bl n c D L w h (by omega) he).mono ?_
    rintro e w' ⟨rfl, hs, hu⟩
    refine ⟨rfl, { L with forced := L.last, durable := L.xs.length }, forceF L D, ⟨rfl, rfl, rfl, rfl, rfl, rfl, rfl, fun i hi => ?_⟩, hs.more (Nat.zero_le _), hu⟩
    unfold forceF
    rw [if_neg]
    rintro ⟨-, h2⟩
    have h3 := h.lok.long
    have h4 : L.sectors ≤ i - L.fro := by omega
    have h5 := Nat.mul_le_mul_right 112 h4
    omega

/-- One more block to be kept clear of. -/
def Zone.plus (N : Zone) (o : Option Nat) : Zone := ⟨N.B, fun k => N k ∨ o = some k, N.far⟩
theorem Byt.plus {w : World} {N : Zone} {o : Option Nat} {v : Value} {xs : List UInt8} (h : Byt w N v xs) (ho : ∀ g, o = some g → w.heap.size ≤ g ∨ N g) : Byt w (N.plus o) v xs :=
  h.mono (fun k hk hn => by
    rcases hn with hn | hn
    · exact hn
    · rcases ho k hn with h' | h'
      · omega
      · exact h')
theorem DiskIs.plus {w : World} {N : Zone} {o : Option Nat} {bd n c : Nat} {D : Nat → List UInt8} (h : DiskIs w N bd n D c) (ho : ∀ g, o = some g → w.heap.size ≤ g ∨ N g) : DiskIs w (N.plus o) bd n D c := by
  obtain ⟨S, P, hd, r⟩ := h
  exact ⟨S, P, hd.mono (N' := N.plus o) (fun k hk hn => by
    rcases hn with hn | hn
    · exact hn
    · rcases ho k hn with h' | h'
      · omega
      · exact h') (Nat.le_refl _) (fun _ h => h), r⟩
section
variable {w w' : World} {N : Zone} {bp bd bl bm fro pages buffers clock sz c : Nat} {M : List (Int × Buf)} {C : Int → Nat × List UInt8} {D : Nat → List UInt8} {L : LogV}
theorem PoolAt.plus {o : Option Nat} (h : PoolAt w N bp bd bl bm fro pages buffers clock M) (ho : ∀ g, o = some g → w.heap.size ≤ g ∨ N g) : PoolAt w (N.plus o) bp bd bl bm fro pages buffers clock M :=
  ⟨h.cells, h.map, fun x hx => by
    obtain ⟨v, h1, h2⟩ := h.bufs x hx
    exact ⟨v, h1, h2.plus ho⟩, h.apart, h.low, h.nums, h.keys⟩
/-- What an append turns. -/
def AT (bl : Nat) (sv : Value) (k : Nat) : Prop := k = bl ∨ some k = sv.ownBlock
theorem St.at_typed (h : St w N bd bl sz c D L) {k : Nat} (hk : AT bl L.sv k) : N.B ≤ k ∧ (Typed w k 267 ∨ (Typed w k 5 ∧ N k)) := by
  rcases hk with rfl | hk
  · exact ⟨h.llow, .inl h.log.typed⟩
  · exact ⟨own_ge h.log.own hk, .inr ⟨own_typed h.log.own hk, h.lown k hk.symm⟩⟩
theorem St.appended {sv' : Value} {T : List UInt8} (h : St w N bd bl sz c D L) (hl : LogAt w' N.B bl bd L.fro L.sectors L.first (L.last + 1) L.forced L.durable sv' (L.xs ++ T)) (hv : sv'.ownBlock = L.sv.ownBlock ∨ ∃ g, sv'.ownBlock = some g ∧ w.heap.size ≤ g ∧ g < w'.heap.size)
    (hu : Upd (AT bl L.sv) w w') (hlen : (L.xs ++ T).length ≤ L.sectors * 112) (hla : L.last + 1 ≤ 4611686018427387904) : St w' (N.plus sv'.ownBlock) bd bl sz c D { L with last := L.last + 1, sv := sv', xs := L.xs ++ T } where
  disk := (h.disk.plus (fun g hg => by
    rcases hv with e | ⟨g', e, h1, -⟩
    · exact .inr (h.lown g (by rw [← e]; exact hg))
    · rw [e] at hg; cases hg; exact .inl h1)).upd hu (fun k hk hd => by
      obtain ⟨-, ht | ⟨ht, -⟩⟩ := h.at_typed hk <;> rcases hd with ⟨-, hd | hd | hd⟩ <;> exact absurd (hd.one ht) (by decide)) (fun k hk ht => by
      obtain ⟨-, ht' | ⟨-, hn⟩⟩ := h.at_typed hk
      · exact absurd (ht.one ht') (by decide)
      · exact .inl hn)
  log := hl
  lown := fun g hg => .inr hg
  llow := h.llow
  lok := ⟨h.lok.inn, hlen, by have := h.lok.dur; simp only [List.length_append]; omega, hla, h.lok.first, Nat.le_succ_of_le h.lok.forced⟩
  no := fun k hk => by
    rcases hk with hk | hk
    · exact Nat.lt_of_lt_of_le (h.no k hk) hu.size
    · rcases hv with e | ⟨g', e, -, h2⟩
      · exact Nat.lt_of_lt_of_le (h.no k (h.lown k (by rw [← e]; exact hk))) hu.size
      · rw [e] at hk; cases hk; exact h2
  halves := h.halves.upd hu (fun ht => by have := (h.at_typed ht).1; have := h.hlow; omega)
  hlow := h.hlow
  base := Nat.le_trans h.base hu.size
def AppRQ (N : Zone) (bp bd bl bm fro pages buffers sz : Nat) (w : World) (clock c : Nat) (M : List (Int × Buf)) (C : Int → Nat × List UInt8) (D : Nat → List UInt8) (L : LogV) (e : Ending) (w' : World) : Prop :=
  (e = .returned (.tuple #[.int .i64 0, .int .i64 4]) ∧ Below w.heap.size w w') ∨
  ∃ (N' : Zone) (L' : LogV), e = .returned (.tuple #[.int .i64 (L.last + 1 : Nat), .int .i64 0]) ∧ N'.B = N.B ∧ Run N' bp bd bl bm fro pages buffers sz w' clock c M C D L' ∧ L'.fro = L.fro ∧ L'.sectors = L.sectors ∧ L'.last = L.last + 1 ∧ L'.forced = L.forced ∧
    (∀ v xs, Byt w N v xs → Byt w' N' v xs) ∧ (∀ b m, MapIs intKeys w b m → MapIs intKeys w' b m) ∧ Below N.B w w' ∧ (∀ b t, Typed w b t → t ≠ 267 → t ≠ 5 → w'.heap[b]? = w.heap[b]?)
theorem appendR_any (rec : List UInt8) (p : Option Addr) (n cc : Nat) (w : World) (h : Run N bp bd bl bm fro pages buffers sz w clock c M C D L) (hs : L.sectors ≤ 4096) (hl : L.last < 4611686018427387904) (hrec : rec.length = n) (h0 : 0 < n) (h1 : n ≤ 2000) (hr : Rd w p rec) :
    Calls Tryz.prog 197 #[.pointer (some ⟨bl, 0, none⟩), .slice p n cc] w (AppRQ N bp bd bl bm fro pages buffers sz w clock c M C D L) := by
  have hst := h.st
  refine (append_any w N.B bl bd L.fro L.sectors L.first L.last L.forced L.durable L.sv L.xs rec p n cc hst.log hs hst.lok.long hst.base hl hrec h0 h1 hr).mono ?_
  rintro e w' (⟨-, rfl, hb⟩ | ⟨hfit, sv', rfl, hl', hv, hu⟩)
  · exact .inl ⟨rfl, hb⟩
  · have hu' : Upd (AT bl L.sv) w w' := hu
    have ho : ∀ g, sv'.ownBlock = some g → w.heap.size ≤ g ∨ N g := fun g hg => by
      rcases hv with e | ⟨g', e, h1, -⟩
      · exact .inr (hst.lown g (by rw [← e]; exact hg))
      · rw [e] at hg; cases hg; exact .inl h1
    have h8 : ∀ k, AT bl L.sv k → Typed w k 5 → (N.plus sv'.ownBlock) k := fun k hk ht => by
      obtain ⟨-, ht' | ⟨-, hn⟩⟩ := hst.at_typed hk
      · exact absurd (ht.one ht') (by decide)
      · exact .inl hn
    refine .inr ⟨N.plus sv'.ownBlock, _, rfl, rfl, ⟨hst.appended hl' hv hu' (by rw [List.length_append]; exact hfit) (by omega), (h.pool.plus ho).upd hu' (fun k hk _ => ?_) h8, h.inv, h.small, h.log, .inr (forceC_all _ _ _ _), h.len, h.buf⟩, rfl, rfl, rfl, rfl, fun v xs hb => (hb.plus ho).upd hu' h8, fun b m hm => hm.upd hu' (fun hk => ?_), Upd.below hu' hst.base (fun k hk => (hst.at_typed hk).1), fun b t ht h2 h3 => hu'.block b (by obtain ⟨cs, hcs⟩ := ht; exact (Array.getElem?_eq_some_iff.1 hcs).1) (fun hk => by
      obtain ⟨-, ht' | ⟨ht', -⟩⟩ := hst.at_typed hk
      · exact h2 (ht.one ht')
      · exact h3 (ht.one ht'))⟩
    · obtain ⟨-, ht | ⟨ht, -⟩⟩ := hst.at_typed hk
      · exact ⟨fun h2 => absurd (h2.one ht) (by decide), fun h2 => absurd (h2.one ht) (by decide), h.pool.map.notTyped ht⟩
      · exact ⟨fun h2 => absurd (h2.one ht) (by decide), fun h2 => absurd (h2.one ht) (by decide), h.pool.map.notTyped ht⟩
    · obtain ⟨-, ht | ⟨ht, -⟩⟩ := hst.at_typed hk <;> exact hm.notTyped ht rfl
/-- Flush of whatever page. -/
theorem flushA_any (n : Int) (w : World) (h : Run N bp bd bl bm fro pages buffers sz w clock c M C D L) (h0 : 0 ≤ n) (h1 : n < pages) (hc : c < 1000000) :
    Calls Tryz.prog 156 #[.pointer (some ⟨bp, 0, none⟩), .int .i64 n] w fun e w' => e = .returned (.int .i64 0) ∧ ∃ c' M' D' L', c' ≤ c + 1 ∧ Run N bp bd bl bm fro pages buffers sz w' clock c' M' C D' L' ∧ (∀ k, pinsOf M' k = pinsOf M k) ∧ Wr fro pages C L D L' D' ∧ Upd (FS N bm w) w w' := by
  by_cases hm : n ∈ M.map (·.1)
  · obtain ⟨⟨n', b⟩, hb, rfl⟩ := List.mem_map.1 hm
    refine (pflushR_any n' b h hb hc).mono ?_
    rintro e w' ⟨rfl, c', D', L', q1, q2, q3, q4⟩
    exact ⟨rfl, c', _, D', L', q1, q2, fun k => pinsOf_setM (b' := { b with first := 0 }) h.pool.nodup hb rfl k, q3, q4⟩
  · refine (pflush_clean bp bd bl bm fro pages buffers clock M n w h.pool h0 h1 (fun b hb => absurd (List.mem_map.2 ⟨_, hb, rfl⟩) hm)).mono ?_
    rintro e w' ⟨rfl, rfl⟩
    exact ⟨rfl, c, M, D, L, by omega, h, fun _ => rfl, .inl ⟨rfl, rfl⟩, Upd.refl _ _⟩
/-- No page on the disk is of a record that the log has not forced. -/
def Ahead (D : Nat → List UInt8) (f : Nat) : Prop := ∀ n : Nat, n < 10 → ∃ l xs, D (4 + n) = encV l xs ∧ xs.length = 112 ∧ l ≤ f
theorem Ahead.wr {L' : LogV} {D' : Nat → List UInt8} (h : Ahead D L.forced) (hw : Wr 4 10 C L D L' D') (hL : L.fro + L.sectors ≤ 4) (hf : L.forced ≤ L.last) (hC : ∀ n : Int, 0 ≤ n → n < 10 → (C n).1 ≤ L.last ∧ (C n).2.length = 112) : Ahead D' L'.forced := by
  have hle := hw.same.2.2.2.2 hf
  intro n hn
  obtain ⟨l, xs, h1, h2, h3⟩ := h n hn
  have hold : ∀ D1 : Nat → List UInt8, D1 (4 + n) = D (4 + n) → ∃ l xs, D1 (4 + n) = encV l xs ∧ xs.length = 112 ∧ l ≤ L'.forced := fun D1 e => ⟨l, xs, e.trans h1, h2, Nat.le_trans h3 hle⟩
  rcases hw with ⟨rfl, rfl⟩ | ⟨k, D1, hk0, hk1, hfo, rfl⟩
  · exact hold _ rfl
  · by_cases e : 4 + n = 4 + k.toNat
    · have hc := hC k hk0 (by omega)
      refine ⟨(C k).1, (C k).2, ?_, hc.2, hfo.same.2.2.2.2.2 hc.1⟩
      unfold updD
      rw [if_pos e]
    · refine hold _ ?_
      unfold updD
      rw [if_neg e]
      exact hfo.disk (by omega)
theorem leV_mono (ys : List UInt8) {a b : Nat} (h : a ≤ b) : leV (ys.take a) ≤ leV (ys.take b) := by
  induction b with
  | zero => obtain rfl : a = 0 := by omega
            exact Nat.le_refl _
  | succ b ih =>
    rcases Nat.lt_or_ge b a with h1 | h1
    · obtain rfl : a = b + 1 := by omega
      exact Nat.le_refl _
    · refine Nat.le_trans (ih h1) ?_
      rcases Nat.lt_or_ge b ys.length with h2 | h2
      · rw [leV_take h2]
        omega
      · rw [List.take_of_length_le h2, List.take_of_length_le (by omega)]
        exact Nat.le_refl _
theorem decL_encV {l : Nat} {xs : List UInt8} (h : xs.length = 112) (hl : l ≤ 4611686018427387904) : decL (encV l xs) = l := (dec_enc h hl).2.1
end
end Go.Proofs.YtheeomjfpnijbaaGreatDoor
