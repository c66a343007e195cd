/- Lemmas: Open, LawBrJ, Tab. -/
import Derived.Test.YtheeomjfpnijbaaGreatDoorBaseP
import Derived.SizedLaws
import Derived.OpenShut
import Derived.ShutString
import Derived.ChangeOld
import Derived.Test.YtheeomjfpnijbaaGreatDoorRows
import Derived.Test.YtheeomjfpnijbaaGreatDoorChecked
import Derived.WalkKit
import Derived.SevenTiedAt
import Derived.Stop.Joined
import Derived.Test.YtheeomjfpnijbaaGreatDoorCrcP
import Derived.Lib.LaidU8
import Derived.LaidMore
import Derived.Lay
import Derived.MakeChecks
set_option linter.unusedVariables false
section
namespace Go.Proofs.YtheeomjfpnijbaaGreatDoor
open Go.ChangeShapes Go.WideShapes Go.ChangeAt Go.RowKit
theorem own:ownKnob Tryz.prog.godebug=none:=by kernel_rfl
theorem laidOut:laidOutB Tryz.prog=true:=by kernel_rfl
theorem cellsOf8:Tryz.prog.cellsOf 5=1:=by kernel_rfl
theorem bytesOf8:Tryz.prog.bytesOf 5=1:=by kernel_rfl
theorem wf8 {n:Int} (h:(Lit.int .u8 n).wf=true):((UInt8.ofNat n.toNat).toNat:Int)=n:=by
  have hb:0≤n∧n≤255:=bounds_u8 h
  simp
  omega
theorem open_bytes {H:Type} {enc:TypeId × Value→H} {W:World} {a:Option Addr} {n c:Nat} {d:DataW H} {p:List MemPlace}
    (h:DataW.Trod enc Tryz.prog W 0 (fun _=>true) true 76 (.slice a n c) d p) :
    ∃ xs:List UInt8,xs.length=n∧Rd W a xs∧n≤c∧c≤maxLen∧(∀ (ts:List TypeId) (ds:List (DataW H)) (j:Nat),(DataW.weightsEach Tryz.prog ts ds).all (·≤reachBytes)=true→ts[j]?=some 76→ds[j]?=some d→n≤140737488351232):=by
  obtain ⟨fuel,hf⟩:=h
  rcases open_ints Tryz.underlying76 Tryz.underlying5 cellsOf8 hf with ⟨hcs,hd⟩ | ⟨x,l,c',zs,hcs,_,hl,hm,hz,hd,hcell,hwz⟩
  · simp [Value.cells] at hcs
    obtain ⟨rfl,rfl,rfl⟩:=hcs
    exact ⟨[],rfl,Rd.nil _ _,Nat.le_refl _,by decide,fun _ _ _ _ _ _=>by omega⟩
  · simp [Value.cells] at hcs
    obtain ⟨rfl,rfl,rfl⟩:=hcs
    simp only [if_true] at hz
    simp only [Prod.mk.injEq] at hd
    obtain ⟨rfl,_⟩:=hd
    refine ⟨(zs.take n).map fun z=>UInt8.ofNat z.toNat,by simp;omega,fun hne=>?_,hl,hm,fun ts ds j hs ht hd=>?_⟩
    · have hpos:0 < zs.length:=by
        rcases zs with _ | ⟨z,zs⟩
        · simp [B8s] at hne
        · simp
      obtain ⟨b,o,sp⟩:=x
      have hc0:=hcell 0 hpos
      obtain rfl:sp=none:=by simpa [Addr.add] using World.cell?_spot hc0
      refine ⟨b,o,rfl,fun i v hv=>?_⟩
      have hi:i < n∧i < zs.length:=by
        have:=(List.getElem?_eq_some_iff.1 hv).1
        simp [B8s] at this
        omega
      have hci:=hcell i hi.2
      rw [Go.WideShapes.add_plain] at hci
      rw [hci,← hv]
      have e:(B8s ((zs.take n).map fun z=>UInt8.ofNat z.toNat))[i]?=some (.int .u8 (zs.getD i 0)):=by
        simp only [B8s,List.map_map,List.getElem?_map,List.getElem?_take,if_pos hi.1,List.getElem?_eq_getElem hi.2,Option.map_some,Function.comp,B8,List.getD_eq_getElem?_getD,Option.getD_some]
        rw [wf8 (hwz _ (List.getElem_mem _))]
      rw [e]
    · have:=sized_slice hs ht hd Tryz.underlying76
      rw [bytesOf8] at this
      simp only [lits,List.length_map,List.length_take,List.length_drop,reachBytes] at this
      omega
end Go.Proofs.YtheeomjfpnijbaaGreatDoor
end
section
namespace Go.Proofs.YtheeomjfpnijbaaGreatDoor.btreeRange
open Go.ChangeShapes Go.WideShapes Go.RowKit
theorem j1:(Rows.btreeRangeRow.inPlace == Tryz.pinned.checked.prog.inPlace 3)=true:=by kernel_rfl
theorem j2:(Rows.btreeRangeRow.unfollowed == Tryz.pinned.checked.prog.unfollowed 3)=true:=by kernel_rfl
theorem j3:(Rows.btreeRangeRow.recurses == Tryz.pinned.checked.prog.recurses 3)=true:=by kernel_rfl
theorem j4:(Rows.btreeRangeRow.named == Tryz.pinned.checked.prog.varsNamed 3)=true:=by kernel_rfl
theorem closed:joinedFacts Tryz.pinned.checked.prog 3 Tryz.f3 Rows.btreeRangeSpec Rows.btreeRangeRow=true:=by
  unfold joinedFacts
  rw [j1,j2,j3,j4]
  kernel_rfl
end Go.Proofs.YtheeomjfpnijbaaGreatDoor.btreeRange
end
section
namespace Go.Proofs.YtheeomjfpnijbaaGreatDoor
open Go.RowKit
theorem tab_of_laid {P:Program} {laid:List (String × DataW Unit)} {W:World} {name:String} {k:IntKind} {zs:List Int} {g n:Nat} {t e:TypeId} (h:laidMetH P laid W)
    (hp:(laid.all fun x=>x.2.handleName?.isNone)=true) (hm:(name,Lib.tabData k zs)∈laid) (hg:P.globalNamed name=some g) (hty:(P.globals[g]?).map (·.type)=some t)
    (ht:P.underlying t=some (.array n e)) (he:P.underlying e=some (.int k)) (hce:P.cellsOf e=1) (hct:P.cellsOf t=n):Lib.TabIs P W name k zs:=by
  rw [MakeChecks.laidMetH_plain _ _ _ hp] at h
  obtain ⟨g',t',cs,fuel,p,hg',ht',hvar,hd⟩:=Lib.laidMet.reads h hm
  obtain rfl:=Option.some.inj (hg.symm.trans hg')
  obtain rfl:=Option.some.inj (hty.symm.trans ht')
  unfold Lib.TabIs
  rw [hvar,← Lib.cells_of_tab ht he hce hct hd]
def halvesZ:List Int:=[0,498536548,997073096,651767980,1994146192,1802195444,1303535960,1342533948,3988292384,4027552580,3604390888,3412177804,2607071920,2262029012,2685067896,3183342108]
theorem halves_data {H:Type}:(Rows.laid_rostrum_wire_halves:DataW H)=Lib.tabData .u32 halvesZ:=rfl
theorem halves_tab:∀ i,i < 16→halvesZ.getD i 0=((tab i:Nat):Int):=by decide
theorem gHalves : Tryz.prog.globalNamed "rostrum/wire.halves" = some 0 := by kernel_rfl
theorem halves_of_laid {laid:List (String × DataW Unit)} {W:World} (h:laidMetH Tryz.prog laid W) (hp:(laid.all fun x=>x.2.handleName?.isNone)=true)
    (hm : ("rostrum/wire.halves", Rows.laid_rostrum_wire_halves) ∈ laid) : Halves W := by
  have ht:=tab_of_laid (t:=357) (e:=54) (n:=16) h hp (halves_data ▸ hm) gHalves (by kernel_rfl) (by kernel_rfl) (by kernel_rfl) (by kernel_rfl) (by kernel_rfl)
  intro i
  have hi:M16 i < 16:=by unfold M16;omega
  rw [ht.cell gHalves (M16 i) hi,halves_tab _ hi]
end Go.Proofs.YtheeomjfpnijbaaGreatDoor
end
