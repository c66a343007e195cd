/- What a listed variable's datum gives: the cells of a table of integers; a start for the witness. -/
import Derived.Test.YtjknofiaacdgfaaGreatDoorCrc
import Derived.Test.YtjknofiaacdgfaaGreatDoorRows
import Derived.Lib.LaidU8
import Derived.LaidMore
import Derived.Lay
import Derived.MakeChecks
import Derived.SevenTiedAt
import Derived.Stop.Joined
namespace Go.Proofs.YtjknofiaacdgfaaGreatDoor
open Go.RowKit
set_option linter.unusedVariables false

theorem tab_of_laid {P : Program} {laid : List (String × DataW Unit)} {W : World} {name : String} {k : IntKind} {zs : List Int} {g n : Nat} {t e : TypeId} (h : laidMetH P laid W)
    (hp : (laid.all fun x => x.2.handleName?.isNone) = true) (hm : (name, Lib.tabData k zs) ∈ laid) (hg : P.globalNamed name = some g) (hty : (P.globals[g]?).map (·.type) = some t)
    (ht : P.underlying t = some (.array n e)) (he : P.underlying e = some (.int k)) (hce : P.cellsOf e = 1) (hct : P.cellsOf t = n) : Lib.TabIs P W name k zs := by
  rw [MakeChecks.laidMetH_plain _ _ _ hp] at h
  obtain ⟨g', t', cs, fuel, p, hg', ht', hvar, hd⟩ := Lib.laidMet.reads h hm
  obtain rfl := Option.some.inj (hg.symm.trans hg')
  obtain rfl := Option.some.inj (hty.symm.trans ht')
  unfold Lib.TabIs
  rw [hvar, ← Lib.cells_of_tab ht he hce hct hd]

def halvesZ : List Int := [0, 498536548, 997073096, 651767980, 1994146192, 1802195444, 1303535960, 1342533948, 3988292384, 4027552580, 3604390888, 3412177804, 2607071920, 2262029012, 2685067896, 3183342108]
theorem halves_data {H : Type} : (Rows.laid_rostrum_wire_halves : DataW H) = Lib.tabData .u32 halvesZ := rfl
theorem halves_tab : ∀ i, i < 16 → halvesZ.getD i 0 = ((tab i : Nat) : Int) := by decide
theorem gHalves : Tryz.prog.globalNamed "rostrum/wire.halves" = some 0 := by kernel_rfl
theorem halves_of_laid {laid : List (String × DataW Unit)} {W : World} (h : laidMetH Tryz.prog laid W) (hp : (laid.all fun x => x.2.handleName?.isNone) = true)
    (hm : ("rostrum/wire.halves", Rows.laid_rostrum_wire_halves) ∈ laid) : Halves W := by
  have ht := tab_of_laid (t := 315) (e := 43) (n := 16) h hp (halves_data ▸ hm) gHalves (by kernel_rfl) (by kernel_rfl) (by kernel_rfl) (by kernel_rfl) (by kernel_rfl)
  intro i
  have hi : M16 i < 16 := by unfold M16; omega
  rw [ht.cell gHalves (M16 i) hi, halves_tab _ hi]
end Go.Proofs.YtjknofiaacdgfaaGreatDoor
