/- Lemmas: RefLog, RefClean, RefOpen3, RefPool5. -/
import Derived.Test.YtheeomjfpnijbaaGreatDoorRefDiskP
import Derived.BigQuiet
import Derived.Deep.RegionLaw
set_option linter.unusedVariables false
section
namespace Go.Proofs.YtheeomjfpnijbaaGreatDoor
open Go.RowKit
set_option maxHeartbeats 400000 in
set_option maxRecDepth 20000 in
theorem read3_zero (p:Option Addr) (c:Nat) (place:Int) (w:World) (hr:Rd w p (zeros 128)) :
    Calls Tryz.prog 176 #[.slice p 128 c,.int .i64 place] w fun e w'=>e=.returned (.tuple #[.slice none 0 0,.int .i64 0,.bool false])∧∃ j,w'=w.drewN j:=by
  obtain ⟨g,o,rfl,hc⟩:=hr (by simp [zeros,B8s])
  have hz:∀ j,j < 128→w.cell? ⟨g,o+j,none⟩=some (.int .u8 0):=fun j hj=>hc j _ (by unfold zeros B8s;rw [List.map_replicate,List.getElem?_replicate_of_lt hj];rfl)
  have k1:=hz 1 (by omega)
  have HZ:=Lib.hid hz
  clear hc hz hr
  go_enter Tryz.func176,Tryz.ntmps176
  go_wp2_with fail
  go_loopw [8,9] (fun f v wr=>∃ m:Nat,m≤8∧f=.int .i64 0∧v=.int .i64 ((m:Int) - 1)∧wr=w) (fun _ v _=>(intOf v+1).toNat)
  case atStart=>exact ⟨8,by omega,rfl,rfl,rfl⟩
  case round =>
    obtain ⟨m,hm,rfl,rfl,rfl⟩:=hrel
    cases m with
    | zero =>
      go_wp2_with fail
      go_quiet (fail)
      go_wp2
      go_ret3
      exact ⟨rfl,_,rfl⟩
    | succ j =>
      have e1:((j+1:Nat):Int) - 1=(j:Int):=by omega
      rw [e1]
      have hd:decide ((j:Int) ≥ 0)=true:=decide_eq_true (by omega)
      have hw:IntKind.i64.wrap (4+(j:Int))=((4+j:Nat):Int):=by rw [IntKind.wrap_i64];omega
      have kj:wr.cell? ⟨g,o+(4+j),none⟩=some (.int .u8 0):=HZ.out (4+j) (by omega)
      have hlt:4+j < 128:=by omega
      have hw2:IntKind.i64.wrap ((j:Int) - 1)=(j:Int) - 1:=by rw [IntKind.wrap_i64];omega
      go_wp2_with fail
      go_roundw
      case rel=>exact ⟨j,by omega,by first | rfl | decide,by first | rfl | rw [hw2],trivial⟩
      all_goals (first | (simp [intOf];omega) | simp [intOf])
set_option maxHeartbeats 400000 in
set_option maxRecDepth 20000 in
theorem refuint_nil (w:World) :
    Calls Tryz.prog 236 #[.slice none 0 0] w fun e w'=>e=.returned (.tuple #[.int .i64 0,.int .i64 0,.int .i64 10])∧w'=w:=by
  go_enter Tryz.func236,Tryz.ntmps236
  go_wp2_with fail
  go_loopw [5,7] (fun f v wr=>f=.int .i64 0∧v=.int .i64 0∧wr=w) (fun _ _ _=>0)
  case atStart=>exact ⟨rfl,rfl,rfl⟩
  case round =>
    obtain ⟨rfl,rfl,rfl⟩:=hrel
    go_wp2_with fail
    go_ret3
    exact ⟨rfl,rfl⟩
set_option maxHeartbeats 400000 in
set_option maxRecDepth 20000 in
theorem records_nil (w:World) :
    Calls Tryz.prog 177 #[.slice none 0 0] w fun e w'=>e=.returned (.tuple #[.slice none 0 0,.int .i64 0])∧w'=w:=by
  go_enter Tryz.func177,Tryz.ntmps177
  go_wp2_with fail
  go_loopw [4,5] (fun f v wr=>f=.slice none 0 0∧v=.int .i64 0∧wr=w) (fun _ _ _=>0)
  case atStart=>exact ⟨rfl,rfl,rfl⟩
  case round =>
    obtain ⟨rfl,rfl,rfl⟩:=hrel
    go_wp2_with fail
    refine (refuint_nil _).mono ?_
    rintro e w1 ⟨rfl,rfl⟩
    go_wp2_with fail
    go_ret2
    exact ⟨rfl,rfl⟩
end Go.Proofs.YtheeomjfpnijbaaGreatDoor
end
section
namespace Go.Proofs.YtheeomjfpnijbaaGreatDoor
open Go.RowKit
theorem rd_zs3 (W:World) (m:Nat):Rd (W.alloc (.cells (Zs m) 5)) (some ⟨W.heap.size,0,none⟩) (zeros m):=fun _=>⟨_,0,rfl,fun i v hv=>by
  rw [Nat.zero_add]
  refine cellNew ?_
  rw [Zs_arr,List.getElem?_toArray]
  exact hv⟩
set_option maxHeartbeats 800000 in
set_option maxRecDepth 20000 in
theorem refclean_zero (B bl x n fro sectors:Nat) (f0 l0 g0:Int) (w:World) (h:w.heap[bl]?=some (.cells #[.pointer (some ⟨x,0,none⟩),.int .i64 fro,.int .i64 sectors,.int .i64 f0,.int .i64 l0,.int .i64 g0,.slice none 0 0,.int .i64 0] 292 (0,0)))
    (hx:RefZ w B x n) (hn:fro+sectors≤n) :
    Calls Tryz.prog 178 #[.pointer (some ⟨bl,0,none⟩),.int .i64 0,.int .i64 0] w fun e w'=>e=.returned (.tuple #[])∧Below w.heap.size w w':=by
  have h4:n≤4096:=by obtain ⟨_,_,_,_,_,_,_,_,h4⟩:=hx;exact h4
  have H:=Lib.hid h
  have HX:=Lib.hid hx
  have HN:=Lib.hid hn
  have H4:=Lib.hid h4
  have k0:w.cell? ⟨bl,0,none⟩=some (.pointer (some ⟨x,0,none⟩)):=by simp [World.cell?,h]
  have k1:w.cell? ⟨bl,1,none⟩=some (.int .i64 fro):=by simp [World.cell?,h]
  have k2:w.cell? ⟨bl,2,none⟩=some (.int .i64 sectors):=by simp [World.cell?,h]
  have k3:w.cell? ⟨bl,3,none⟩=some (.int .i64 f0):=by simp [World.cell?,h]
  have k6:w.cell? ⟨bl,6,none⟩=some (.slice none 0 0):=by simp [World.cell?,h]
  have k7:w.cell? ⟨bl,7,none⟩=some (.int .i64 0):=by simp [World.cell?,h]
  have HK:=Lib.hid (And.intro k0 (And.intro k1 k2))
  have hmk:∀ W:World,(Instr.makeSlice 76 (.int .i64 128) (.int .i64 128)).run Tryz.prog W=.ok (.slice (some ⟨W.heap.size,0,none⟩) 128 128) (W.alloc (.cells (Zs 128) 5)):=fun W=>make8 128 (by omega) W
  clear h hx hn h4
  go_enter Tryz.func178,Tryz.ntmps178
  go_wp2_with fail
  go_loopw [6,9] (fun f v wr=>∃ k:Nat,k≤sectors∧f=.bool false∧v=.int .i64 k∧Hid (Below w.heap.size w wr)) (fun _ v _=>sectors - (intOf v).toNat)
  case atStart=>exact ⟨0,Nat.zero_le _,rfl,rfl,Lib.hid (Below.refl _ _)⟩
  case round =>
    obtain ⟨k,hk,rfl,rfl,HB⟩:=hrel
    have j0:=keepC HB.out HK.out.1
    have j1:=keepC HB.out HK.out.2.1
    have j2:=keepC HB.out HK.out.2.2
    by_cases hlt:k < sectors
    · have hw:IntKind.i64.wrap ((fro:Int)+(k:Int))=((fro+k:Nat):Int):=by have:=HN.out;have:=H4.out;rw [IntKind.wrap_i64];omega
      have hw2:IntKind.i64.wrap ((k:Int)+1)=((k+1:Nat):Int):=by have:=HN.out;have:=H4.out;rw [IntKind.wrap_i64];omega
      have HW2:Hid (wrap64 ((k:Int)+1)=((k+1:Nat):Int)):=Lib.hid (wrapK hlt (by have:=HN.out;have:=H4.out;omega))
      have hlt':(k:Int) < (sectors:Int):=by omega
      clear hw2
      go_wp2_with fail
      have j0':wr.drew.cell? ⟨bl,0,none⟩=some (.pointer (some ⟨x,0,none⟩)):=j0
      have j1':wr.drew.cell? ⟨bl,1,none⟩=some (.int .i64 fro):=j1
      have HXD:Hid (RefZ wr.drew B x n):=Lib.hid (HX.out.below (HB.out.drew))
      have HI:Hid (fro+k < n):=Lib.hid (by have:=HN.out;omega)
      go_region_law (first
        | (go_simp;go_at_call 175;refine (refread_zero B x n (fro+k) _ HXD.out HI.out).mono ?_;rintro e W2 ⟨v2,rfl,ho2,hb2⟩;obtain ⟨q2,d2,rfl,hd2⟩:=own_slice ho2;have HO2:=Lib.hid ho2;have HB2:=Lib.hid hb2;clear ho2 hb2 hd2))
      all_goals
        clear j0' j1'
        have HB3:Hid (Below w.heap.size w W2):=Lib.hid ((HB.out.drew).trans (HB2.out.mono HB.out.size))
        obtain ⟨q',c',e',hr,-⟩:=own_rd HO2.out
        cases e'
        have hA:(convert 76 9 (.slice q2 128 d2)).run Tryz.prog W2.drew=.ok (.string ⟨(zeros 128).toArray⟩) W2.drew:=(hr.below ((Below.refl _ W2).drew)).convert (by simp [zeros]) d2 76 5 9 Tryz.underlying76 Tryz.underlying5 Tryz.underlying9
        have hB:(convert 76 9 (.slice q2 128 d2)).run Tryz.prog (W2.alloc (.cells (Zs 128) 5)).drew=.ok (.string ⟨(zeros 128).toArray⟩) (W2.alloc (.cells (Zs 128) 5)).drew:=(hr.below (((Below.refl _ W2).alloc (Nat.le_refl _) _).drew)).convert (by simp [zeros]) d2 76 5 9 Tryz.underlying76 Tryz.underlying5 Tryz.underlying9
        have hC:(convert 76 9 (.slice (some ⟨W2.heap.size,0,none⟩) 128 128)).run Tryz.prog (W2.alloc (.cells (Zs 128) 5)).drew=.ok (.string ⟨(zeros 128).toArray⟩) (W2.alloc (.cells (Zs 128) 5)).drew:=((rd_zs3 W2 128).below (Below.refl _ _).drew).convert (by simp [zeros]) 128 76 5 9 Tryz.underlying76 Tryz.underlying5 Tryz.underlying9
        have HB4:Hid (Below w.heap.size w (W2.alloc (.cells (Zs 128) 5)).drew):=Lib.hid ((HB3.out.alloc HB3.out.size _).drew)
        clear hr
        go_wp2_with fail
        go_region_law (fail)
        all_goals go_wp2
        all_goals go_roundw
        all_goals first
          | exact ⟨k+1,by omega,rfl,(by first | rfl | rw [HW2.out]),HB4⟩
          | (rw [HW2.out];simp only [intOf];omega)
    · obtain rfl:k=sectors:=by omega
      go_wp2
      refine bodyPost_end (results_none rfl _ _ _) rfl ?_
      exact ⟨rfl,HB.out⟩
end Go.Proofs.YtheeomjfpnijbaaGreatDoor
end
section
namespace Go.Proofs.YtheeomjfpnijbaaGreatDoor
open Go.RowKit
def RefL (w:World) (bl x fro sectors:Nat):Prop:=w.heap[bl]?=some (.cells #[.pointer (some ⟨x,0,none⟩),.int .i64 fro,.int .i64 sectors,.int .i64 1,.int .i64 0,.int .i64 0,.slice none 0 0,.int .i64 0] 292 (0,0))
set_option maxHeartbeats 1000000 in
set_option maxRecDepth 20000 in
theorem refopen3_zero (B x n sectors:Nat) (w:World) (hx:RefZ w B x n) (h1:1≤sectors) (hn:sectors≤n) :
    Calls Tryz.prog 120 #[.pointer (some ⟨x,0,none⟩),.int .i64 0,.int .i64 sectors] w fun e w'=>∃ bl,e=.returned (.tuple #[.pointer (some ⟨bl,0,none⟩),.slice none 0 0,.int .i64 0])∧RefL w' bl x 0 sectors∧w.heap.size≤bl∧Below w.heap.size w w':=by
  have HX:=Lib.hid hx
  obtain ⟨bs,c,xs,g1,-,-,-,-,h4⟩:=hx
  have k0:w.cell? ⟨x,0,none⟩=some (.slice (some ⟨bs,0,none⟩) n c):=by simp [World.cell?,g1]
  have hd1:decide ((sectors:Int) < 1)=false:=decide_eq_false (by omega)
  have hd2:decide ((0:Int) > (n:Int))=false:=decide_eq_false (by omega)
  have hw:wrap64 (n:Int)=(n:Int):=by unfold wrap64;omega
  have hd3:decide ((n:Int) < (sectors:Int))=false:=decide_eq_false (by omega)
  have HN:=Lib.hid hn
  have H1:=Lib.hid h1
  have H4:=Lib.hid h4
  clear g1 hn h1 h4
  go_enter Tryz.func120,Tryz.ntmps120
  go_wp2_with fail
  · rename_i hh
    exfalso
    have:=HN.out
    first | omega | (rw [hw] at hh;omega)
  have hs1:(0:Int) < (sectors:Int):=by have:=H1.out;omega
  have HXA:=Lib.hid (HX.out.below ((Below.refl w.heap.size w).alloc (Nat.le_refl _) (.cells #[.pointer (some ⟨x,0,none⟩),.int .i64 0,.int .i64 sectors,.int .i64 1,.int .i64 0,.int .i64 0,.slice none 0 0,.int .i64 0] 292)))
  go_loopw [10,11,54] (fun a b v wr=>a=.slice none 0 0∧b=.int .i64 0∧v=.int .i64 0∧wr=w.alloc (.cells #[.pointer (some ⟨x,0,none⟩),.int .i64 0,.int .i64 sectors,.int .i64 1,.int .i64 0,.int .i64 0,.slice none 0 0,.int .i64 0] 292)) (fun _ _ _ _=>0)
  case atStart=>exact ⟨rfl,rfl,rfl,rfl⟩
  case round =>
    obtain ⟨rfl,rfl,rfl,rfl⟩:=hrel
    go_wp2_with fail
    refine (refread_zero B x n 0 _ HXA.out (by have:=HN.out;have:=H1.out;omega)).mono ?_
    rintro e w1 ⟨v,rfl,ho,hb⟩
    obtain ⟨q2,d2,rfl,hd2⟩:=own_slice ho
    have HO:=Lib.hid ho
    have HB1:=Lib.hid hb
    clear ho hb hd2
    go_wp2_with fail
    obtain ⟨q',c',e',hr,-⟩:=own_rd HO.out
    cases e'
    refine (read3_zero q2 d2 0 _ hr).mono ?_
    rintro e w2 ⟨rfl,j,rfl⟩
    go_wp2_with fail
    refine (records_nil _).mono ?_
    rintro e w3 ⟨rfl,rfl⟩
    have HL:Hid ((w1.drewN j).heap[w.heap.size]?=some (.cells #[.pointer (some ⟨x,0,none⟩),.int .i64 0,.int .i64 sectors,.int .i64 1,.int .i64 0,.int .i64 0,.slice none 0 0,.int .i64 0] 292 (0,0))):=Lib.hid ((HB1.out.block w.heap.size (by simp)).trans (heap_alloc_new w _))
    have HBW:Hid (Below w.heap.size w (w1.drewN j)):=Lib.hid (drewN_below (((Below.refl _ w).alloc (Nat.le_refl _) _).trans (HB1.out.mono (by simp))) j)
    clear hr
    generalize w1.drewN j=W at *
    have c6:W.cell? ⟨w.heap.size,6,none⟩=some (.slice none 0 0):=by simp [World.cell?,HL.out]
    have c7:W.cell? ⟨w.heap.size,7,none⟩=some (.int .i64 0):=by simp [World.cell?,HL.out]
    have f6:W.frozen? ⟨w.heap.size,6,none⟩=false:=frozenC HL.out
    have f7:W.frozen? ⟨w.heap.size,7,none⟩=false:=frozenC HL.out
    go_wp2_with fail
    have HL2:Hid (((W.setCell ⟨w.heap.size,6,none⟩ (.slice none 0 0)).setCell ⟨w.heap.size,7,none⟩ (.int .i64 0)).heap[w.heap.size]?=some (.cells #[.pointer (some ⟨x,0,none⟩),.int .i64 0,.int .i64 sectors,.int .i64 1,.int .i64 0,.int .i64 0,.slice none 0 0,.int .i64 0] 292 (0,0))):=Lib.hid (by
      have a1:=heap_setCell_same W w.heap.size 6 _ _ (.slice none 0 0) HL.out
      have a2:=heap_setCell_same (W.setCell ⟨w.heap.size,6,none⟩ (.slice none 0 0)) w.heap.size 7 _ _ (.int .i64 0) a1
      simpa using a2)
    have HB2:Hid (Below w.heap.size w ((W.setCell ⟨w.heap.size,6,none⟩ (.slice none 0 0)).setCell ⟨w.heap.size,7,none⟩ (.int .i64 0))):=Lib.hid ((HBW.out.setCell (p:=⟨w.heap.size,6,none⟩) (Nat.le_refl _) _).setCell (p:=⟨w.heap.size,7,none⟩) (Nat.le_refl _) _)
    clear c6 c7 f6 f7
    generalize (W.setCell ⟨w.heap.size,6,none⟩ (.slice none 0 0)).setCell ⟨w.heap.size,7,none⟩ (.int .i64 0)=W2 at *
    refine (refclean_zero B w.heap.size x n 0 sectors 1 0 0 W2 HL2.out (HX.out.below HB2.out) (by have:=HN.out;omega)).mono ?_
    rintro e W3 ⟨rfl,hb3⟩
    have HL3:Hid (W3.heap[w.heap.size]?=some (.cells #[.pointer (some ⟨x,0,none⟩),.int .i64 0,.int .i64 sectors,.int .i64 1,.int .i64 0,.int .i64 0,.slice none 0 0,.int .i64 0] 292 (0,0))):=Lib.hid ((hb3.block w.heap.size (Array.getElem?_eq_some_iff.1 HL2.out).1).trans HL2.out)
    have HB3:Hid (Below w.heap.size w W3):=Lib.hid (HB2.out.trans (hb3.mono HB2.out.size))
    clear hb3
    have c3:W3.cell? ⟨w.heap.size,3,none⟩=some (.int .i64 1):=by simp [World.cell?,HL3.out]
    have c4:W3.cell? ⟨w.heap.size,4,none⟩=some (.int .i64 0):=by simp [World.cell?,HL3.out]
    have c5:W3.cell? ⟨w.heap.size,5,none⟩=some (.int .i64 0):=by simp [World.cell?,HL3.out]
    have f4:W3.frozen? ⟨w.heap.size,4,none⟩=false:=frozenC HL3.out
    have f5:W3.frozen? ⟨w.heap.size,5,none⟩=false:=frozenC HL3.out
    go_wp2_with fail
    go_ret3
    refine ⟨w.heap.size,rfl,?_,Nat.le_refl _,(HB3.out.setCell (p:=⟨w.heap.size,4,none⟩) (Nat.le_refl _) _).setCell (p:=⟨w.heap.size,5,none⟩) (Nat.le_refl _) _⟩
    have a1:=heap_setCell_same W3 w.heap.size 4 _ _ (.int .i64 0) HL3.out
    have a2:=heap_setCell_same (W3.setCell ⟨w.heap.size,4,none⟩ (.int .i64 0)) w.heap.size 5 _ _ (.int .i64 0) a1
    unfold RefL
    simpa using a2
end Go.Proofs.YtheeomjfpnijbaaGreatDoor
end
section
namespace Go.Proofs.YtheeomjfpnijbaaGreatDoor
open Go.RowKit
def RefP (w:World) (bp x bl fro pages buffers:Nat):Prop:=w.heap[bp]?=some (.cells #[.pointer (some ⟨x,0,none⟩),.pointer (some ⟨bl,0,none⟩),.int .i64 fro,.int .i64 pages,.int .i64 buffers,.slice none 0 0] 254 (0,0))
set_option maxHeartbeats 1000000 in
set_option maxRecDepth 20000 in
theorem refpoolnew_zero (B x n bl fro pages buffers:Nat) (w:World) (hx:RefZ w B x n) (h1:1≤pages) (hn:fro+pages≤n) (h2:1≤buffers) (h3:buffers≤64) :
    Calls Tryz.prog 121 #[.pointer (some ⟨x,0,none⟩),.pointer (some ⟨bl,0,none⟩),.int .i64 fro,.int .i64 pages,.int .i64 buffers] w fun e w'=>∃ bp,e=.returned (.tuple #[.pointer (some ⟨bp,0,none⟩),.int .i64 0])∧RefP w' bp x bl fro pages buffers∧w.heap.size≤bp∧Below w.heap.size w w':=by
  obtain ⟨bs,c,xs,g1,-,-,-,-,h4⟩:=hx
  have k0:w.cell? ⟨x,0,none⟩=some (.slice (some ⟨bs,0,none⟩) n c):=by simp [World.cell?,g1]
  have hd0:decide ((fro:Int) < 0)=false:=decide_eq_false (by omega)
  have hd1:decide ((pages:Int) < 1)=false:=decide_eq_false (by omega)
  have hd2:decide ((fro:Int) > (n:Int))=false:=decide_eq_false (by omega)
  have hw:wrap64 ((n:Int) - (fro:Int))=((n - fro:Nat):Int):=by unfold wrap64;omega
  have hd3:decide ((pages:Int) > ((n - fro:Nat):Int))=false:=decide_eq_false (by omega)
  have hd4:decide ((buffers:Int) < 1)=false:=decide_eq_false (by omega)
  have hd5:decide ((buffers:Int) > 64)=false:=decide_eq_false (by omega)
  have HH:Hid (fro+pages≤n∧1≤pages∧1≤buffers∧buffers≤64∧n≤4096):=Lib.hid ⟨hn,h1,h2,h3,h4⟩
  clear g1 hn h1 h2 h3 h4
  go_enter Tryz.func121,Tryz.ntmps121
  go_wp2_with fail
  all_goals first
    | (go_ret2;exact ⟨w.heap.size,rfl,heap_alloc_new w _,Nat.le_refl _,(Below.refl _ w).alloc (Nat.le_refl _) _⟩)
    | (exfalso;have:=HH.out;rename_i hh;first | omega | (rw [hw] at hh;omega))
end Go.Proofs.YtheeomjfpnijbaaGreatDoor
end
