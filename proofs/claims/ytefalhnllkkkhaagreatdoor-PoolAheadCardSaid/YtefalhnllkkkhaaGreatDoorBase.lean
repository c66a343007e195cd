/- General words of this seat's proofs: how bytes lie in memory, and what a call leaves as it was. -/
import Derived.Test.YtefalhnllkkkhaaGreatDoorProg
import Derived.WalkKit
import Derived.ProofKit
import Derived.Lib.Hide
import Derived.Lib.ConvBytes
import Derived.WalkSpells
import Derived.WalkLawsBesides
import Derived.Laws.CopyOwn
import Derived.Deep.QuietTactic
import Derived.BigQuiet
import Derived.Deep.LoopGhost
import Derived.Deep.DeepCutAuto
namespace Go.Proofs.YtefalhnllkkkhaaGreatDoor
open Go.RowKit
set_option linter.unusedVariables false

/-- A byte as a cell's value. -/
def B8 (x : UInt8) : Value := .int .u8 (x.toNat : Int)
def B8s (xs : List UInt8) : List Value := xs.map B8
theorem B8s_length (xs : List UInt8) : (B8s xs).length = xs.length := by simp [B8s]

/-- The cells from an address on hold these values. -/
def Cells (w : World) (p : Option Addr) (vs : List Value) : Prop :=
  vs ≠ [] → ∃ b o, p = some ⟨b, o, none⟩ ∧ ∀ i v, vs[i]? = some v → w.cell? ⟨b, o + i, none⟩ = some v

/-- A slice's bytes. -/
def Rd (w : World) (p : Option Addr) (xs : List UInt8) : Prop := Cells w p (B8s xs)

/-- Of the blocks that there were none outside of S has turned. -/
structure Upd (S : Nat → Prop) (w w' : World) : Prop where
  os : w'.os = w.os
  tape : w'.tape = w.tape
  output : w'.output = w.output
  size : w.heap.size ≤ w'.heap.size
  block : ∀ k, k < w.heap.size → ¬ S k → w'.heap[k]? = w.heap[k]?

theorem Upd.refl (S : Nat → Prop) (w : World) : Upd S w w := ⟨rfl, rfl, rfl, Nat.le_refl _, fun _ _ _ => rfl⟩
theorem Upd.mono {S T : Nat → Prop} {w w' : World} (h : Upd S w w') (hT : ∀ k, k < w.heap.size → S k → T k) : Upd T w w' :=
  ⟨h.os, h.tape, h.output, h.size, fun k hk hn => h.block k hk fun hs => hn (hT k hk hs)⟩
theorem Upd.trans {S T : Nat → Prop} {a b c : World} (h : Upd S a b) (k : Upd T b c) : Upd (fun i => S i ∨ T i) a c :=
  ⟨k.os.trans h.os, k.tape.trans h.tape, k.output.trans h.output, Nat.le_trans h.size k.size,
   fun i hi hn => (k.block i (Nat.lt_of_lt_of_le hi h.size) fun ht => hn (.inr ht)).trans (h.block i hi fun hs => hn (.inl hs))⟩
theorem Upd.below {w w' : World} {S : Nat → Prop} {B : Nat} (h : Upd S w w') (hB : B ≤ w.heap.size) (hS : ∀ k, S k → B ≤ k) : Below B w w' :=
  ⟨h.os, h.tape, h.output, h.size, fun k hk => h.block k (Nat.lt_of_lt_of_le hk hB) fun hs => by have := hS k hs; omega⟩
theorem Upd.of_below {B : Nat} {w w' : World} (h : Below B w w') : Upd (fun k => B ≤ k) w w' :=
  ⟨h.os, h.tape, h.output, h.size, fun k hk hn => h.block k (by omega)⟩
theorem Upd.of_below' {w w' : World} (h : Below w.heap.size w w') (S : Nat → Prop) : Upd S w w' :=
  ⟨h.os, h.tape, h.output, h.size, fun k hk _ => h.block k hk⟩
theorem Upd.of_grown {w w' : World} {r : Option Nat} (h : w.grownBy w' r) : Upd (fun k => some k = r) w w' :=
  ⟨h.os, h.tape, h.output, h.size, fun k hk hn => h.block k hk hn⟩

theorem cell_lt {w : World} {a : Addr} {v : Value} (h : w.cell? a = some v) : a.block < w.heap.size := World.block_lt_of_cell? w a h

theorem Upd.cell {S : Nat → Prop} {w w' : World} (h : Upd S w w') {a : Addr} {v : Value} (hc : w.cell? a = some v) (hn : ¬ S a.block) : w'.cell? a = some v :=
  (World.cell?_of_block (h.block _ (cell_lt hc) hn)).trans hc

theorem Cells.nil (w : World) (p : Option Addr) : Cells w p [] := fun h => absurd rfl h
theorem Cells.upd {S : Nat → Prop} {w w' : World} {p : Option Addr} {vs : List Value} (h : Cells w p vs) (hu : Upd S w w')
    (hn : ∀ b o s, p = some ⟨b, o, s⟩ → ¬ S b) : Cells w' p vs := fun hne => by
  obtain ⟨b, o, rfl, hc⟩ := h hne
  exact ⟨b, o, rfl, fun i v hv => hu.cell (hc i v hv) (hn b o none rfl)⟩
theorem Cells.below {w w' : World} {p : Option Addr} {vs : List Value} (h : Cells w p vs) (hb : Below w.heap.size w w') : Cells w' p vs := fun hne => by
  obtain ⟨b, o, rfl, hc⟩ := h hne
  exact ⟨b, o, rfl, fun i v hv => (hb.cell (p := ⟨b, o + i, none⟩) (cell_lt (hc i v hv))).trans (hc i v hv)⟩

theorem Rd.below {w w' : World} {p : Option Addr} {xs : List UInt8} (h : Rd w p xs) (hb : Below w.heap.size w w') : Rd w' p xs := Cells.below h hb
theorem Rd.nil (w : World) (p : Option Addr) : Rd w p [] := Cells.nil w p
theorem Rd.upd {S : Nat → Prop} {w w' : World} {p : Option Addr} {xs : List UInt8} (h : Rd w p xs) (hu : Upd S w w')
    (hn : ∀ b o s, p = some ⟨b, o, s⟩ → ¬ S b) : Rd w' p xs := Cells.upd h hu hn

theorem B8s_get {xs : List UInt8} {i : Nat} (h : i < xs.length) : (B8s xs)[i]? = some (B8 xs[i]) := by simp [B8s, h]
theorem Rd.at {w : World} {p : Option Addr} {xs : List UInt8} (h : Rd w p xs) (hn : 0 < xs.length) :
    ∃ b o, p = some ⟨b, o, none⟩ ∧ ∀ i (hi : i < xs.length), w.cell? ⟨b, o + i, none⟩ = some (B8 xs[i]) := by
  obtain ⟨b, o, rfl, hc⟩ := h (by intro e; have := congrArg List.length e; simp [B8s] at this; simp [this] at hn)
  exact ⟨b, o, rfl, fun i hi => hc i _ (B8s_get hi)⟩

/-- The numbers that a list of bytes is. -/
def nums8 (xs : List UInt8) : List Int := xs.map fun x => (x.toNat : Int)
theorem nums8_getD {xs : List UInt8} {i : Nat} (h : i < xs.length) : (nums8 xs).getD i 0 = ((xs[i]).toNat : Int) := by
  simp [nums8, List.getD_eq_getElem?_getD, h]
theorem strOfNums8 (xs : List UInt8) : strOfNums (nums8 xs) = ⟨xs.toArray⟩ := by
  unfold strOfNums nums8
  simp [List.map_map, Function.comp_def]
end Go.Proofs.YtefalhnllkkkhaaGreatDoor
