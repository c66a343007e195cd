/- A manager in memory: its lock, its pool and log, its open transactions. -/
import Derived.Test.YtheeomjfpnijbaaGreatDoorPoolApp
import Derived.Test.YtheeomjfpnijbaaGreatDoorMapRange
namespace Go.Proofs.YtheeomjfpnijbaaGreatDoor
open Go.RowKit Go.Shelf
set_option linter.unusedVariables false

/-- A record. -/
structure Rec where
  kind : Nat
  tx : Nat
  page : Nat
  off : Nat
  ahead : ByteArray
  behind : ByteArray
  undone : Nat
  lsn : Nat
def recCells (r : Rec) : List Value := [.int .i64 r.kind, .int .i64 r.tx, .int .i64 r.page, .int .i64 r.off, .string r.ahead, .string r.behind, .int .i64 r.undone, .int .i64 r.lsn]
def recV (r : Rec) : Value := .agg #[.int .i64 r.kind, .int .i64 r.tx, .int .i64 r.page, .int .i64 r.off, .string r.ahead, .string r.behind, .int .i64 r.undone, .int .i64 r.lsn]
theorem recCells_length (r : Rec) : (recCells r).length = 8 := rfl
/-- An open transaction: its block, its updates' slice, its updates. -/
structure Tx where
  blk : Nat
  row : Value
  us : List Rec
/-- Where a manager's parts lie, and what never turns. -/
structure Par where
  bg : Nat
  bp : Nat
  bd : Nat
  bl : Nat
  bm : Nat
  ba : Nat
  fro : Nat
  pages : Nat
  buffers : Nat
  sz : Nat
  G : Int → List UInt8 := fun _ => []
/-- What turns. t bounds the counters. -/
structure ASt where
  N : Zone
  clock : Nat
  c : Nat
  M : List (Int × Buf)
  C : Int → Nat × List UInt8
  D : Nat → List UInt8
  L : LogV
  last : Nat
  recs : Nat
  A : List (Int × Tx)
  t : Nat
def mapA (A : List (Int × Tx)) : List (Int × Value) := A.map fun x => (x.1, .pointer (some ⟨x.2.blk, 0, none⟩))
structure TxAt (w : World) (B : Nat) (t : Tx) : Prop where
  cells : w.heap[t.blk]? = some (.cells #[t.row] 236 (0, 0))
  row : w.ownsRow B 218 8 t.row t.us.length (t.us.flatMap recCells)
/-- How much room taking all back needs. -/
def needA (A : List (Int × Tx)) : Nat := (A.map fun x => if x.2.us.length = 0 then 0 else 160 * x.2.us.length + 16).sum
structure UpdOk (p : Par) (tx : Int) (r : Rec) : Prop where
  kind : r.kind = 1
  tx : (r.tx : Int) = tx
  page : r.page < p.pages
  off : r.off + r.behind.size ≤ 112
  len : r.ahead.size = r.behind.size
  pos : 0 < r.behind.size
  lsn : 1 ≤ r.lsn ∧ r.lsn ≤ 4611686018427387904
/-- A manager; k: its lock's word. -/
structure MR (k : Int) (p : Par) (w : World) (s : ASt) : Prop where
  cells : w.heap[p.bg]? = some (.cells #[.int .i32 k, .int .u32 0, .pointer (some ⟨p.bp, 0, none⟩), .pointer (some ⟨p.bl, 0, none⟩), .int .i64 p.pages, .int .i64 s.last, .int .i64 s.recs, .map (some p.ba)] 63 (0, 0))
  run : Run s.N p.bp p.bd p.bl p.bm p.fro p.pages p.buffers p.sz w s.clock s.c s.M s.C s.D s.L
  map : MapZ w p.ba (mapA s.A)
  txs : ∀ x ∈ s.A, TxAt w s.N.B x.2
  apart : (s.A.map (·.2.blk)).Nodup
  rows : s.A.Pairwise fun x y => ∀ g, x.2.row.ownBlock = some g → y.2.row.ownBlock ≠ some g
  low : s.N.B ≤ p.bg ∧ s.N.B ≤ p.ba ∧ p.ba ≠ p.bm ∧ ∀ x ∈ s.A, s.N.B ≤ x.2.blk
  pins : ∀ n, pinsOf s.M n = 0
  few : s.A.length ≤ 16
  keys : ∀ x ∈ s.A, 1 ≤ x.1 ∧ x.1 ≤ 1099511627776
  last : s.last ≤ 1099511627776
  cnt : s.clock ≤ s.t ∧ s.c ≤ s.t ∧ s.L.last ≤ s.t ∧ s.recs ≤ s.t
  ups : ∀ x ∈ s.A, ∀ r ∈ x.2.us, UpdOk p x.1 r
  ulen : ∀ x ∈ s.A, x.2.us.length ≤ s.t
  sect : s.L.sectors ≤ 4096
/-- Room to take all back. -/
def RoomOk (s : ASt) : Prop := needA s.A + s.L.xs.length ≤ s.L.sectors * 112
end Go.Proofs.YtheeomjfpnijbaaGreatDoor
