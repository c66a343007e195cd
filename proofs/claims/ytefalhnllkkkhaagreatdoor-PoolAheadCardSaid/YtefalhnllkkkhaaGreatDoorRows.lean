/-
  NARROWER THAN 'FOR EVERY INPUT', by the rows' own cells (each row's printed sentence says how): PoolWritten: laid · PoolNobody: laid · PoolBound: laid · PoolAhead: laid.
  DERIVED. THE GIVEN ROWS OF THIS SEAT. 4 by the template 'for every input the law returns true; each argument reads behind the call as it read before'; 0 by the template 'total and deterministic' (their statements: YtefalhnllkkkhaaGreatDoorTotals.lean).
  GIVEN WITH THE SEED: the statements are not yours to turn. If you find one false, say at which input.
  Laid BY PROGRAM, IN A SANDBOX (cutbox-rows.mjs): the forced cells as the released guide's own fill.sh prints them over the translation 08f5b19730403eb8… (all of the seat's roots in one cut). By AI agents, Wed Nov 11 2026. No macro, syntax, notation, axiom, sorry.
-/
import Derived.Test.YtefalhnllkkkhaaGreatDoorChecked
import GoSem.PinnedTables
import GoSem.Claim
import GoSem.ClaimJoined
import GoSem.ClaimMapViews
import Derived.JoinedTies
import Derived.KernelRfl
namespace Go.Proofs.YtefalhnllkkkhaaGreatDoor
/- THE CELL 'sum', in the pinned program and in every row, IS THE sha256 OF THE DUMP (.gsa) THAT YtefalhnllkkkhaaGreatDoorProg.lean LOADS. Nothing in Lean hashes anything: it is a label: what it is worth is what the hold of that sum in a sandbox is worth. -/
noncomputable def Tryz.pinned : Pinned := { name := "ytefalhnllkkkhaagreatdoor", sum := "08f5b19730403eb87c19e564eb69dd6d231f69dccbaf873b2e3c9df0d0a70ff6", checked := Tryz.checked }
namespace Rows
def none {H : Type} : Left H := { results := [], args := [] }

/- WHAT THE LISTED PACKAGE-LEVEL VARIABLES READ AS WHEN THE CALL BEGINS. Each datum BY PROGRAM (the guide's laid-datum.mjs) off the statement by which the dump's own 'gosem.cut.vars' lays the variable. In a bare row this is a premise. The card (YtefalhnllkkkhaaGreatDoorCards.lean) ties it to the program's text. -/
def laid_unicode_utf8_acceptRanges {H : Type} : DataW H := .agg [.agg [.lit (.int .u8 128), .lit (.int .u8 191)], .agg [.lit (.int .u8 160), .lit (.int .u8 191)], .agg [.lit (.int .u8 128), .lit (.int .u8 159)], .agg [.lit (.int .u8 144), .lit (.int .u8 191)], .agg [.lit (.int .u8 128), .lit (.int .u8 143)], .agg [.lit (.int .u8 0), .lit (.int .u8 0)], .agg [.lit (.int .u8 0), .lit (.int .u8 0)], .agg [.lit (.int .u8 0), .lit (.int .u8 0)], .agg [.lit (.int .u8 0), .lit (.int .u8 0)], .agg [.lit (.int .u8 0), .lit (.int .u8 0)], .agg [.lit (.int .u8 0), .lit (.int .u8 0)], .agg [.lit (.int .u8 0), .lit (.int .u8 0)], .agg [.lit (.int .u8 0), .lit (.int .u8 0)], .agg [.lit (.int .u8 0), .lit (.int .u8 0)], .agg [.lit (.int .u8 0), .lit (.int .u8 0)], .agg [.lit (.int .u8 0), .lit (.int .u8 0)]]
def laid_rostrum_wire_halves {H : Type} : DataW H := .agg [.lit (.int .u32 0), .lit (.int .u32 498536548), .lit (.int .u32 997073096), .lit (.int .u32 651767980), .lit (.int .u32 1994146192), .lit (.int .u32 1802195444), .lit (.int .u32 1303535960), .lit (.int .u32 1342533948), .lit (.int .u32 3988292384), .lit (.int .u32 4027552580), .lit (.int .u32 3604390888), .lit (.int .u32 3412177804), .lit (.int .u32 2607071920), .lit (.int .u32 2262029012), .lit (.int .u32 2685067896), .lit (.int .u32 3183342108)]
/-- One of Go's own tables, pinned by name: the form's constant. -/
def laid_unicode_utf8_first : DataW Unit := Go.Pinned.utf8First

/-- 'rostrumlaw05.PoolWritten': WHATEVER THE INPUT: true; the input reads as it did. -/
def poolWrittenSpec : ChangeSpec := { name := "poolWritten", fn := fun _ => fun
  | [d1, d2] => { results := [.lit (.bool true)], args := [d1, d2] }
  | _ => none }
def poolWrittenRow : OpenClaim := { program := "ytefalhnllkkkhaagreatdoor", sum := "08f5b19730403eb87c19e564eb69dd6d231f69dccbaf873b2e3c9df0d0a70ff6", func := "rostrum/rostrumlaw05.PoolWritten", spec := "poolWritten", unfollowed := true, recurses := true, named := ["rostrum/wire.halves", "unicode/utf8.first", "unicode/utf8.acceptRanges"], apart := false, laid := [("unicode/utf8.acceptRanges", laid_unicode_utf8_acceptRanges), ("rostrum/wire.halves", laid_rostrum_wire_halves), ("unicode/utf8.first", laid_unicode_utf8_first)] }
def PoolWrittenSaid : Prop := poolWrittenRow.holds Tryz.pinned (OpenSpec.ofChange poolWrittenSpec)

/-- ITS FALSE NEIGHBOUR: 'it returns false'. Refute it at one input. -/
def poolWrittenWrong : ChangeSpec := { name := "poolWritten", fn := fun _ => fun
  | [d1, d2] => { results := [.lit (.bool false)], args := [d1, d2] }
  | _ => none }
def PoolWrittenWrongFalsely : Prop := poolWrittenRow.holds Tryz.pinned (OpenSpec.ofChange poolWrittenWrong)

/-- 'rostrumlaw05.PoolNobody': WHATEVER THE INPUT: true; the input reads as it did. -/
def poolNobodySpec : ChangeSpec := { name := "poolNobody", fn := fun _ => fun
  | [d] => { results := [.lit (.bool true)], args := [d] }
  | _ => none }
def poolNobodyRow : OpenClaim := { program := "ytefalhnllkkkhaagreatdoor", sum := "08f5b19730403eb87c19e564eb69dd6d231f69dccbaf873b2e3c9df0d0a70ff6", func := "rostrum/rostrumlaw05.PoolNobody", spec := "poolNobody", unfollowed := true, recurses := true, named := ["unicode/utf8.first", "unicode/utf8.acceptRanges", "rostrum/wire.halves"], apart := false, laid := [("unicode/utf8.acceptRanges", laid_unicode_utf8_acceptRanges), ("rostrum/wire.halves", laid_rostrum_wire_halves), ("unicode/utf8.first", laid_unicode_utf8_first)] }
def PoolNobodySaid : Prop := poolNobodyRow.holds Tryz.pinned (OpenSpec.ofChange poolNobodySpec)

/-- ITS FALSE NEIGHBOUR: 'it returns false'. Refute it at one input. -/
def poolNobodyWrong : ChangeSpec := { name := "poolNobody", fn := fun _ => fun
  | [d] => { results := [.lit (.bool false)], args := [d] }
  | _ => none }
def PoolNobodyWrongFalsely : Prop := poolNobodyRow.holds Tryz.pinned (OpenSpec.ofChange poolNobodyWrong)

/-- 'rostrumlaw05.PoolBound': WHATEVER THE INPUT: true; the input reads as it did. -/
def poolBoundSpec : ChangeSpec := { name := "poolBound", fn := fun _ => fun
  | [d1, d2] => { results := [.lit (.bool true)], args := [d1, d2] }
  | _ => none }
def poolBoundRow : OpenClaim := { program := "ytefalhnllkkkhaagreatdoor", sum := "08f5b19730403eb87c19e564eb69dd6d231f69dccbaf873b2e3c9df0d0a70ff6", func := "rostrum/rostrumlaw05.PoolBound", spec := "poolBound", unfollowed := true, recurses := true, named := ["rostrum/wire.halves", "unicode/utf8.first", "unicode/utf8.acceptRanges"], apart := false, laid := [("unicode/utf8.acceptRanges", laid_unicode_utf8_acceptRanges), ("rostrum/wire.halves", laid_rostrum_wire_halves), ("unicode/utf8.first", laid_unicode_utf8_first)] }
def PoolBoundSaid : Prop := poolBoundRow.holds Tryz.pinned (OpenSpec.ofChange poolBoundSpec)

/-- ITS FALSE NEIGHBOUR: 'it returns false'. Refute it at one input. -/
def poolBoundWrong : ChangeSpec := { name := "poolBound", fn := fun _ => fun
  | [d1, d2] => { results := [.lit (.bool false)], args := [d1, d2] }
  | _ => none }
def PoolBoundWrongFalsely : Prop := poolBoundRow.holds Tryz.pinned (OpenSpec.ofChange poolBoundWrong)

/-- 'rostrumlaw05.PoolAhead': WHATEVER THE INPUT: true; the input reads as it did. -/
def poolAheadSpec : ChangeSpec := { name := "poolAhead", fn := fun _ => fun
  | [d1, d2] => { results := [.lit (.bool true)], args := [d1, d2] }
  | _ => none }
def poolAheadRow : OpenClaim := { program := "ytefalhnllkkkhaagreatdoor", sum := "08f5b19730403eb87c19e564eb69dd6d231f69dccbaf873b2e3c9df0d0a70ff6", func := "rostrum/rostrumlaw05.PoolAhead", spec := "poolAhead", unfollowed := true, recurses := true, named := ["rostrum/wire.halves", "unicode/utf8.first", "unicode/utf8.acceptRanges"], apart := false, laid := [("unicode/utf8.acceptRanges", laid_unicode_utf8_acceptRanges), ("rostrum/wire.halves", laid_rostrum_wire_halves), ("unicode/utf8.first", laid_unicode_utf8_first)] }
def PoolAheadSaid : Prop := poolAheadRow.holds Tryz.pinned (OpenSpec.ofChange poolAheadSpec)

/-- ITS FALSE NEIGHBOUR: 'it returns false'. Refute it at one input. -/
def poolAheadWrong : ChangeSpec := { name := "poolAhead", fn := fun _ => fun
  | [d1, d2] => { results := [.lit (.bool false)], args := [d1, d2] }
  | _ => none }
def PoolAheadWrongFalsely : Prop := poolAheadRow.holds Tryz.pinned (OpenSpec.ofChange poolAheadWrong)

/- THE SECOND FORM. 'bulk': how many values and letters a reading holds, each counted each time it is reached (what is shared counts as often as it is met; a slice's spare places count too). A statement '..UptoSaid' is the law's where the arguments, and the package variables that the reading takes, are together of bulk at most 1048576: NARROWER than '..Said'. Prove '..Said' where nothing that the law and all that it calls make is longer than what came in: it says more and counts as full. Else prove '..UptoSaid'. A law counts once. -/
mutual
def uptoBulk {H : Type} : DataW H → Nat
  | .lit (.string bytes) => bytes.length + 1
  | .lit _ => 1
  | .nil => 1
  | .ptr d => uptoBulk d + 1
  | .slice elems spare => uptoBulkAll elems + uptoBulkAll spare + 1
  | .agg parts => uptoBulkAll parts + 1
  | .iface _ d => uptoBulk d + 1
  | .map entries => uptoBulkEntries entries + 1
  | .held _ => 1
def uptoBulkAll {H : Type} : List (DataW H) → Nat
  | [] => 0
  | d :: r => uptoBulk d + uptoBulkAll r
def uptoBulkEntries {H : Type} : List (Lit × DataW H) → Nat
  | [] => 0
  | x :: r => uptoBulkEntry x + uptoBulkEntries r
def uptoBulkEntry {H : Type} : Lit × DataW H → Nat
  | (.string bytes, d) => bytes.length + uptoBulk d + 1
  | (_, d) => uptoBulk d + 1
 end
def uptoSmall : (H : Type) → List (DataW H) → Bool := fun _ ds => decide (uptoBulkAll ds ≤ 1048576)
def OpenSpec.upto (s : _root_.Go.ChangeSpec) : _root_.Go.OpenSpec := { _root_.Go.OpenSpec.ofChange s with cond := some uptoSmall }

/-- 'rostrumlaw05.PoolWritten', WHERE WHAT IT READS IS OF BULK AT MOST 1048576: true; the input reads as it did. -/
def poolWrittenUptoRow : OpenClaim := { program := "ytefalhnllkkkhaagreatdoor", sum := "08f5b19730403eb87c19e564eb69dd6d231f69dccbaf873b2e3c9df0d0a70ff6", func := "rostrum/rostrumlaw05.PoolWritten", spec := "poolWritten", unfollowed := true, recurses := true, named := ["rostrum/wire.halves", "unicode/utf8.first", "unicode/utf8.acceptRanges"], apart := false, laid := [("unicode/utf8.acceptRanges", laid_unicode_utf8_acceptRanges), ("rostrum/wire.halves", laid_rostrum_wire_halves), ("unicode/utf8.first", laid_unicode_utf8_first)], narrowed := true }
def PoolWrittenUptoSaid : Prop := poolWrittenUptoRow.holds Tryz.pinned (OpenSpec.upto poolWrittenSpec)

/-- 'rostrumlaw05.PoolNobody', WHERE WHAT IT READS IS OF BULK AT MOST 1048576: true; the input reads as it did. -/
def poolNobodyUptoRow : OpenClaim := { program := "ytefalhnllkkkhaagreatdoor", sum := "08f5b19730403eb87c19e564eb69dd6d231f69dccbaf873b2e3c9df0d0a70ff6", func := "rostrum/rostrumlaw05.PoolNobody", spec := "poolNobody", unfollowed := true, recurses := true, named := ["unicode/utf8.first", "unicode/utf8.acceptRanges", "rostrum/wire.halves"], apart := false, laid := [("unicode/utf8.acceptRanges", laid_unicode_utf8_acceptRanges), ("rostrum/wire.halves", laid_rostrum_wire_halves), ("unicode/utf8.first", laid_unicode_utf8_first)], narrowed := true }
def PoolNobodyUptoSaid : Prop := poolNobodyUptoRow.holds Tryz.pinned (OpenSpec.upto poolNobodySpec)

/-- 'rostrumlaw05.PoolBound', WHERE WHAT IT READS IS OF BULK AT MOST 1048576: true; the input reads as it did. -/
def poolBoundUptoRow : OpenClaim := { program := "ytefalhnllkkkhaagreatdoor", sum := "08f5b19730403eb87c19e564eb69dd6d231f69dccbaf873b2e3c9df0d0a70ff6", func := "rostrum/rostrumlaw05.PoolBound", spec := "poolBound", unfollowed := true, recurses := true, named := ["rostrum/wire.halves", "unicode/utf8.first", "unicode/utf8.acceptRanges"], apart := false, laid := [("unicode/utf8.acceptRanges", laid_unicode_utf8_acceptRanges), ("rostrum/wire.halves", laid_rostrum_wire_halves), ("unicode/utf8.first", laid_unicode_utf8_first)], narrowed := true }
def PoolBoundUptoSaid : Prop := poolBoundUptoRow.holds Tryz.pinned (OpenSpec.upto poolBoundSpec)

/-- 'rostrumlaw05.PoolAhead', WHERE WHAT IT READS IS OF BULK AT MOST 1048576: true; the input reads as it did. -/
def poolAheadUptoRow : OpenClaim := { program := "ytefalhnllkkkhaagreatdoor", sum := "08f5b19730403eb87c19e564eb69dd6d231f69dccbaf873b2e3c9df0d0a70ff6", func := "rostrum/rostrumlaw05.PoolAhead", spec := "poolAhead", unfollowed := true, recurses := true, named := ["rostrum/wire.halves", "unicode/utf8.first", "unicode/utf8.acceptRanges"], apart := false, laid := [("unicode/utf8.acceptRanges", laid_unicode_utf8_acceptRanges), ("rostrum/wire.halves", laid_rostrum_wire_halves), ("unicode/utf8.first", laid_unicode_utf8_first)], narrowed := true }
def PoolAheadUptoSaid : Prop := poolAheadUptoRow.holds Tryz.pinned (OpenSpec.upto poolAheadSpec)

end Rows
end Go.Proofs.YtefalhnllkkkhaaGreatDoor
