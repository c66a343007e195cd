/-
  No cell of these rows narrows 'for every input' (looked for: loops, veiled, ifaces, maps, wideKeys, modest, calm, conditions, laid).
  DERIVED. THE GIVEN ROWS OF THIS SEAT. 3 by the template 'for every input the law returns true; each argument reads behind the call as it read before'; 0 by the template 'total and deterministic' (their statements: YtefalhnllkkkhaaTotals.lean).
  GIVEN WITH THE SEED: the statements are not yours to turn. If you find one false, say at which input.
  Laid BY PROGRAM, IN A SANDBOX (cutbox-rows.mjs): the forced cells as the released guide's own fill.sh prints them over the translation 84ed49d499927bd8… (all of the seat's roots in one cut). By AI agents, Wed Nov 11 2026. No macro, syntax, notation, axiom, sorry.
-/
import Derived.Test.YtefalhnllkkkhaaChecked
import GoSem.Claim
import GoSem.ClaimJoined
import GoSem.ClaimMapViews
import Derived.JoinedTies
import Derived.KernelRfl
namespace Go.Proofs.Ytefalhnllkkkhaa
/- THE CELL 'sum', in the pinned program and in every row, IS THE sha256 OF THE DUMP (.gsa) THAT YtefalhnllkkkhaaProg.lean LOADS. Nothing in Lean hashes anything: it is a label: what it is worth is what the hold of that sum in a sandbox is worth. -/
noncomputable def Try.pinned : Pinned := { name := "ytefalhnllkkkhaa", sum := "84ed49d499927bd8b74559f23ad9149fcbf98ef641bbb86331b79c1b1913578e", checked := Try.checked }
namespace Rows
def none {H : Type} : Left H := { results := [], args := [] }

/-- 'rostrumlaw24.AuditOnce': WHATEVER THE INPUT: true; the input reads as it did. -/
def auditOnceSpec : ChangeSpec := { name := "auditOnce", fn := fun _ => fun
  | [d] => { results := [.lit (.bool true)], args := [d] }
  | _ => none }
def auditOnceRow : OpenClaim := { program := "ytefalhnllkkkhaa", sum := "84ed49d499927bd8b74559f23ad9149fcbf98ef641bbb86331b79c1b1913578e", func := "rostrum/rostrumlaw24.AuditOnce", spec := "auditOnce", apart := false }
def AuditOnceSaid : Prop := auditOnceRow.holds Try.pinned (OpenSpec.ofChange auditOnceSpec)

/-- ITS FALSE NEIGHBOUR: 'it returns false'. Refute it at one input. -/
def auditOnceWrong : ChangeSpec := { name := "auditOnce", fn := fun _ => fun
  | [d] => { results := [.lit (.bool false)], args := [d] }
  | _ => none }
def AuditOnceWrongFalsely : Prop := auditOnceRow.holds Try.pinned (OpenSpec.ofChange auditOnceWrong)

/-- 'rostrumlaw04.PageWith': WHATEVER THE INPUT: true; the input reads as it did. -/
def pageWithSpec : ChangeSpec := { name := "pageWith", fn := fun _ => fun
  | [d1, d2, d3, d4] => { results := [.lit (.bool true)], args := [d1, d2, d3, d4] }
  | _ => none }
def pageWithRow : OpenClaim := { program := "ytefalhnllkkkhaa", sum := "84ed49d499927bd8b74559f23ad9149fcbf98ef641bbb86331b79c1b1913578e", func := "rostrum/rostrumlaw04.PageWith", spec := "pageWith", unfollowed := true, recurses := true, apart := false }
def PageWithSaid : Prop := pageWithRow.holds Try.pinned (OpenSpec.ofChange pageWithSpec)

/-- ITS FALSE NEIGHBOUR: 'it returns false'. Refute it at one input. -/
def pageWithWrong : ChangeSpec := { name := "pageWith", fn := fun _ => fun
  | [d1, d2, d3, d4] => { results := [.lit (.bool false)], args := [d1, d2, d3, d4] }
  | _ => none }
def PageWithWrongFalsely : Prop := pageWithRow.holds Try.pinned (OpenSpec.ofChange pageWithWrong)

/-- 'rostrumlaw04.PageApart': WHATEVER THE INPUT: true; the input reads as it did. -/
def pageApartSpec : ChangeSpec := { name := "pageApart", fn := fun _ => fun
  | [d1, d2] => { results := [.lit (.bool true)], args := [d1, d2] }
  | _ => none }
def pageApartRow : OpenClaim := { program := "ytefalhnllkkkhaa", sum := "84ed49d499927bd8b74559f23ad9149fcbf98ef641bbb86331b79c1b1913578e", func := "rostrum/rostrumlaw04.PageApart", spec := "pageApart", unfollowed := true, recurses := true, apart := false }
def PageApartSaid : Prop := pageApartRow.holds Try.pinned (OpenSpec.ofChange pageApartSpec)

/-- ITS FALSE NEIGHBOUR: 'it returns false'. Refute it at one input. -/
def pageApartWrong : ChangeSpec := { name := "pageApart", fn := fun _ => fun
  | [d1, d2] => { results := [.lit (.bool false)], args := [d1, d2] }
  | _ => none }
def PageApartWrongFalsely : Prop := pageApartRow.holds Try.pinned (OpenSpec.ofChange pageApartWrong)

/- THE SECOND FORM. 'bulk': how many values and letters a reading holds, each counted each time it is reached (what is shared counts as often as it is met; a slice's spare places count too). A statement '..UptoSaid' is the law's where the arguments, and the package variables that the reading takes, are together of bulk at most 1048576: NARROWER than '..Said'. Prove '..Said' where nothing that the law and all that it calls make is longer than what came in: it says more and counts as full. Else prove '..UptoSaid'. A law counts once. -/
mutual
def uptoBulk {H : Type} : DataW H → Nat
  | .lit (.string bytes) => bytes.length + 1
  | .lit _ => 1
  | .nil => 1
  | .ptr d => uptoBulk d + 1
  | .slice elems spare => uptoBulkAll elems + uptoBulkAll spare + 1
  | .agg parts => uptoBulkAll parts + 1
  | .iface _ d => uptoBulk d + 1
  | .map entries => uptoBulkEntries entries + 1
  | .held _ => 1
def uptoBulkAll {H : Type} : List (DataW H) → Nat
  | [] => 0
  | d :: r => uptoBulk d + uptoBulkAll r
def uptoBulkEntries {H : Type} : List (Lit × DataW H) → Nat
  | [] => 0
  | x :: r => uptoBulkEntry x + uptoBulkEntries r
def uptoBulkEntry {H : Type} : Lit × DataW H → Nat
  | (.string bytes, d) => bytes.length + uptoBulk d + 1
  | (_, d) => uptoBulk d + 1
 end
def uptoSmall : (H : Type) → List (DataW H) → Bool := fun _ ds => decide (uptoBulkAll ds ≤ 1048576)
def OpenSpec.upto (s : _root_.Go.ChangeSpec) : _root_.Go.OpenSpec := { _root_.Go.OpenSpec.ofChange s with cond := some uptoSmall }

/-- 'rostrumlaw24.AuditOnce', WHERE WHAT IT READS IS OF BULK AT MOST 1048576: true; the input reads as it did. -/
def auditOnceUptoRow : OpenClaim := { program := "ytefalhnllkkkhaa", sum := "84ed49d499927bd8b74559f23ad9149fcbf98ef641bbb86331b79c1b1913578e", func := "rostrum/rostrumlaw24.AuditOnce", spec := "auditOnce", apart := false, narrowed := true }
def AuditOnceUptoSaid : Prop := auditOnceUptoRow.holds Try.pinned (OpenSpec.upto auditOnceSpec)

/-- 'rostrumlaw04.PageWith', WHERE WHAT IT READS IS OF BULK AT MOST 1048576: true; the input reads as it did. -/
def pageWithUptoRow : OpenClaim := { program := "ytefalhnllkkkhaa", sum := "84ed49d499927bd8b74559f23ad9149fcbf98ef641bbb86331b79c1b1913578e", func := "rostrum/rostrumlaw04.PageWith", spec := "pageWith", unfollowed := true, recurses := true, apart := false, narrowed := true }
def PageWithUptoSaid : Prop := pageWithUptoRow.holds Try.pinned (OpenSpec.upto pageWithSpec)

/-- 'rostrumlaw04.PageApart', WHERE WHAT IT READS IS OF BULK AT MOST 1048576: true; the input reads as it did. -/
def pageApartUptoRow : OpenClaim := { program := "ytefalhnllkkkhaa", sum := "84ed49d499927bd8b74559f23ad9149fcbf98ef641bbb86331b79c1b1913578e", func := "rostrum/rostrumlaw04.PageApart", spec := "pageApart", unfollowed := true, recurses := true, apart := false, narrowed := true }
def PageApartUptoSaid : Prop := pageApartUptoRow.holds Try.pinned (OpenSpec.upto pageApartSpec)

end Rows
end Go.Proofs.Ytefalhnllkkkhaa
