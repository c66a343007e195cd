/- Lemmas: RefDisk. -/
import Derived.Test.YtheeomjfpnijbaaGreatDoorBackP
import Derived.Deep.AppendLies
import Derived.Deep.RegionLaw
import Derived.Laws.OwnMore
import Derived.Deep.OwnRows
set_option linter.unusedVariables false
namespace Go.Proofs.YtheeomjfpnijbaaGreatDoor
open Go.RowKit
def SecZ (w:World) (B:Nat) (u:Value):Prop:=∃ g,u=.slice (some ⟨g,0,none⟩) 128 128∧B≤g∧w.heap[g]?=some (.cells (Zs 128) 5 (0,0))
def RefZ (w:World) (B x n:Nat):Prop:=∃ bs c xs,w.heap[x]?=some (.cells #[.slice (some ⟨bs,0,none⟩) n c,.slice none 0 0] 225 (0,0)) ∧
  w.ownsRow (B+1) 76 1 (.slice (some ⟨bs,0,none⟩) n c) n xs∧(∀ u∈xs,SecZ w (B+1) u)∧B≤x∧0 < n∧n≤4096
theorem heap_setCell_other' (w:World) (b j:Nat) (v:Value) (h:j ≠ b):(w.setCell ⟨b,0,none⟩ v).heap[j]?=w.heap[j]?:=heap_setCell_other w ⟨b,0,none⟩ j v h
theorem secs_grow {wr w3 w4:World} {n b:Nat} {v:Value} {xs ys:List Value}
    (hz:∀ u∈xs,SecZ wr (b+1) u) (ho:wr.ownsRow (b+1) 76 1 v n ys)
    (hg:(((wr.alloc (.cells (Zs 128) 5)).alloc (.cells #[.slice (some ⟨wr.heap.size,0,none⟩) 128 128] 76)).drew).grownBy w3 v.ownBlock)
    (hb:b < wr.heap.size) (hs:∀ j,j ≠ b→w4.heap[j]?=w3.heap[j]?):∀ u∈xs++[Value.slice (some ⟨wr.heap.size,0,none⟩) 128 128],SecZ w4 (b+1) u:=by
  have hsz:∀ j,j < wr.heap.size+1→(((wr.alloc (.cells (Zs 128) 5)).alloc (.cells #[.slice (some ⟨wr.heap.size,0,none⟩) 128 128] 76)).drew).heap[j]?=(wr.alloc (.cells (Zs 128) 5)).heap[j]?:=fun j hj=>Below.heap_alloc (wr.alloc (.cells (Zs 128) 5)) _ j (by simp;omega)
  have hlt:∀ j,j < wr.heap.size+1→j < (((wr.alloc (.cells (Zs 128) 5)).alloc (.cells #[.slice (some ⟨wr.heap.size,0,none⟩) 128 128] 76)).drew).heap.size:=fun j hj=>by
    show j < ((wr.alloc (.cells (Zs 128) 5)).alloc (.cells #[.slice (some ⟨wr.heap.size,0,none⟩) 128 128] 76)).heap.size
    simp
    omega
  intro u hu
  rcases List.mem_append.1 hu with hu | hu
  · obtain ⟨g,rfl,hbg,hh⟩:=hz u hu
    have hl:g < wr.heap.size:=(Array.getElem?_eq_some_iff.1 hh).1
    refine ⟨g,rfl,hbg,?_⟩
    rw [hs g (by omega),hg.block g (hlt g (by omega)) (fun e'=>by
      have hT:=own_typed ho e'
      exact absurd (hT.one ⟨_,hh⟩) (by decide)),hsz g (by omega)]
    exact (Below.heap_alloc wr _ g hl).trans hh
  · obtain rfl:=List.mem_singleton.1 hu
    refine ⟨_,rfl,by omega,?_⟩
    rw [hs _ (by omega),hg.block _ (hlt _ (by omega)) (fun e'=>by
      obtain ⟨cs,hc⟩:=own_typed ho e'
      have:=(Array.getElem?_eq_some_iff.1 hc).1
      omega),hsz _ (by omega)]
    exact heap_alloc_new wr _
set_option maxHeartbeats 2000000 in
set_option maxRecDepth 20000 in
theorem ref02new_any (n:Nat) (w:World) (h1:1≤n) (h2:n≤4096) :
    Calls Tryz.prog 79 #[.int .i64 n] w fun e w'=>∃ bd,e=.returned (.tuple #[.pointer (some ⟨bd,0,none⟩),.int .i64 0])∧RefZ w' w.heap.size bd n∧Below w.heap.size w w':=by
  have HN1:=Lib.hid h1
  have HN2:=Lib.hid h2
  have hd1:decide ((n:Int) < 1)=false:=decide_eq_false (by omega)
  have hd2:decide ((n:Int) > 4096)=false:=decide_eq_false (by omega)
  clear h1 h2
  obtain ⟨i0,hi,hz0,hz1,hz2⟩:=info_parts infoSlD
  go_enter Tryz.func79,Tryz.ntmps79
  go_wp2_with fail
  have hmk:∀ W:World,(Instr.makeSlice 76 (.int .i64 128) (.int .i64 128)).run Tryz.prog W=.ok (.slice (some ⟨W.heap.size,0,none⟩) 128 128) (W.alloc (.cells (Zs 128) 5)):=fun W=>make8 128 (by omega) W
  go_loopw [14] (fun i wr=>∃ (k:Nat) (v:Value) (xs:List Value),k≤n∧i=.int .i64 k∧Hid (wr.heap[w.heap.size]?=some (.cells #[v,.slice none 0 0] 225 (0,0))) ∧
    Hid (wr.ownsRow (w.heap.size+1) 76 1 v k xs)∧Hid (∀ u∈xs,SecZ wr (w.heap.size+1) u)∧Hid (Below w.heap.size w wr)∧w.heap.size+1≤wr.heap.size) (fun i _=>n - (intOf i).toNat)
  case atStart=>exact ⟨0,.slice none 0 0,[],Nat.zero_le _,rfl,Lib.hid (heap_alloc_new _ _),Lib.hid (World.ownsRow_nil _ _ _ _),Lib.hid (fun u hu=>by cases hu),Lib.hid ((Below.refl _ w).alloc (Nat.le_refl _) _),by simp⟩
  case round =>
    obtain ⟨k,v,xs,hk,rfl,HD,HR,HZ,HB,hsz⟩:=hrel
    by_cases hlt:k < n
    · obtain ⟨q,cq,rfl,hqc⟩:∃ q c,v=.slice q k c∧k≤c:=by
        rcases HR.out.2 with ⟨rfl,h0⟩ | ⟨g,cap,cur,rfl,_,_,h1,_⟩
        · exact ⟨none,0,by rw [h0],by omega⟩
        · exact ⟨_,cap,rfl,h1⟩
      have k0:wr.cell? ⟨w.heap.size,0,none⟩=some (.slice q k cq):=by simp [World.cell?,HD.out]
      have f0:wr.frozen? ⟨w.heap.size,0,none⟩=false:=frozenC HD.out
      have hlt1:w.heap.size < wr.heap.size:=hsz
      have hkn:k+1≤n:=hlt
      have hw2:IntKind.i64.wrap ((k:Int)+1)=((k+1:Nat):Int):=by have:=HN2.out;rw [IntKind.wrap_i64];omega
      have HOA:Hid (((wr.alloc (.cells (Zs 128) 5)).alloc (.cells #[.slice (some ⟨wr.heap.size,0,none⟩) 128 128] 76)).drew.ownsRow (w.heap.size+1) 76 1 (.slice q k cq) k xs):=Lib.hid ((HR.out.alloc _).alloc _).drew
      have kB1:Below wr.heap.size wr (wr.alloc (.cells (Zs 128) 5)):=(Below.refl _ wr).alloc (Nat.le_refl _) _
      have kc1:(wr.alloc (.cells (Zs 128) 5)).cell? ⟨w.heap.size,0,none⟩=some (.slice q k cq):=keepC kB1 k0
      have kc2:((wr.alloc (.cells (Zs 128) 5)).alloc (.cells #[.slice (some ⟨wr.heap.size,0,none⟩) 128 128] 76)).cell? ⟨w.heap.size,0,none⟩=some (.slice q k cq):=keepC (kB1.alloc (by simp) _) k0
      clear kB1
      have HNW:Hid (∀ (j:Nat) (u:Value),[Value.slice (some ⟨wr.heap.size,0,none⟩) 128 128][j]?=some u→((wr.alloc (.cells (Zs 128) 5)).alloc (.cells #[.slice (some ⟨wr.heap.size,0,none⟩) 128 128] 76)).drew.cell? ((⟨wr.heap.size+1,0,none⟩:Addr).add j)=some u):=Lib.hid (by
        have h:=cell_one_new (wr.alloc (.cells (Zs 128) 5)) (.slice (some ⟨wr.heap.size,0,none⟩) 128 128) 76
        rw [World.size_alloc] at h
        exact h)
      go_wp2
      go_region_law (first
        | (refine step_append_lies _ rfl (.tmp 20) (.tmp 22) 85 rfl (w.heap.size+1) 76 i0 (.slice none 0 0) 1 24 Tryz.underlying85 hi hz0 hz1 hz2 rfl (by decide) (.slice q k cq) k xs rfl HOA.out ⟨wr.heap.size+1,0,none⟩ 1 1 [.slice (some ⟨wr.heap.size,0,none⟩) 128 128] (by rfl) rfl HNW.out (by simp [Value.oneCell']) (by omega) (by simp only [maxLen];have:=HN2.out;omega) (by have:=HN2.out;omega) (by simp;omega) (wr.heap.size+1+1) (by simp) ?_;intro gg cap w3 hown1 hgrow hat hltg;have HD1:=Lib.hid (((hgrow.block w.heap.size (by simp;omega) (fun e'=>by have:=(HR.out.lt _ e'.symm).1;omega)).trans ((Below.heap_alloc _ _ _ (by simp;omega)).trans (Below.heap_alloc _ _ _ (by omega)))).trans HD.out);have k01:w3.cell? ⟨w.heap.size,0,none⟩=some (.slice q k cq):=(by simp [World.cell?,HD1.out]);have f01:=frozenC (i:=0) HD1.out;have HR1:=Lib.hid hown1;have HG1:=Lib.hid hgrow;clear hown1 hgrow hat))
      all_goals go_wp2
      all_goals go_roundw
      all_goals first
        | (have:=hw2;simp [intOf];omega)
        | exact ⟨k+1,_,xs++[.slice (some ⟨wr.heap.size,0,none⟩) 128 128],hkn,(by first | rfl | simp | rw [hw2]),
            Lib.hid (heap_setCell_same w3 w.heap.size 0 _ _ _ HD1.out),
            Lib.hid (ownsRow_setCell_below HR1.out (a:=⟨w.heap.size,0,none⟩) (by show w.heap.size < w.heap.size+1;omega) (.slice (some ⟨gg,0,none⟩) (k+1) cap)),
            Lib.hid (secs_grow HZ.out HR.out HG1.out (by omega) (fun j=>heap_setCell_other' w3 w.heap.size j _)),
            Lib.hid ((((((HB.out.alloc (by omega) _).alloc (by simp;omega) _).drew).grown HG1.out (by simp;omega) (fun j hj=>by have:=(HR.out.lt j hj).1;omega))).setCell (p:=⟨w.heap.size,0,none⟩) (Nat.le_refl _) _),
            by have:=HG1.out.size;simp at this ⊢;omega⟩
    · obtain rfl:k=n:=by omega
      have hpos:0 < k:=HN1.out
      go_wp2
      go_ret2
      rcases HR.out.2 with ⟨rfl,h0⟩ | ⟨g,cap,cur,rfl,hb,hh,hr⟩
      · omega
      · exact ⟨w.heap.size,rfl,⟨g,cap,xs,HD.out,⟨HR.out.1,.inr ⟨g,cap,cur,rfl,hb,hh,hr⟩⟩,HZ.out,Nat.le_refl _,hpos,HN2.out⟩,HB.out⟩
theorem RefZ.below {w w':World} {B x n:Nat} (h:RefZ w B x n) (hb:Below w.heap.size w w'):RefZ w' B x n:=by
  obtain ⟨bs,c,xs,h1,h2,h3,h4⟩:=h
  exact ⟨bs,c,xs,(hb.block x (Array.getElem?_eq_some_iff.1 h1).1).trans h1,own_upd h2 (Upd.of_below' hb (fun _=>False)) (fun _ hk=>hk.elim),fun u hu=>by
    obtain ⟨g,e,hg,hc⟩:=h3 u hu
    exact ⟨g,e,hg,(hb.block g (Array.getElem?_eq_some_iff.1 hc).1).trans hc⟩,h4⟩
set_option maxHeartbeats 400000 in
set_option maxRecDepth 20000 in
theorem copied_any (p:Option Addr) (n c:Nat) (xs:List UInt8) (w:World) (hx:xs.length=n) (hbig:n≤140737488355328) (hr:Rd w p xs) :
    Calls Tryz.prog 234 #[.slice p n c] w fun e w'=>∃ v,e=.returned v∧w'.ownsRow w.heap.size 5 1 v n (B8s xs)∧Below w.heap.size w w':=by
  have HX:=Lib.hid hx
  have hra:Hid (Rd (w.alloc (.cells #[] 5)) p xs):=Lib.hid (hr.below ((Below.refl _ w).alloc (Nat.le_refl _) _))
  clear hx
  go_enter Tryz.func234,Tryz.ntmps234
  go_wp2_with (at_builtin;refine wp_appx (w0:=w) (base:=w.heap.size) (n:=0) rfl _ _ rfl _ [] xs _ rfl rfl HX.out hra.out (World.ownsRow_made w #[] 0 (Nat.le_refl _) (Nat.zero_le _) rfl) ((Below.refl _ w).alloc (Nat.le_refl _) _) (by simp) (by omega) ?_)
  intro v1 w1 hown hb
  have HO0:=Lib.hid hown
  clear hown
  go_wp2
  go_ret
  exact ⟨_,rfl,by simpa using HO0.out,hb⟩
set_option maxHeartbeats 400000 in
set_option maxRecDepth 20000 in
theorem refread_zero (B x n i:Nat) (w:World) (h:RefZ w B x n) (hi:i < n) :
    Calls Tryz.prog 175 #[.pointer (some ⟨x,0,none⟩),.int .i64 i] w fun e w'=>∃ v,e=.returned (.tuple #[v,.int .i64 0])∧w'.ownsRow w.heap.size 5 1 v 128 (B8s (zeros 128))∧Below w.heap.size w w':=by
  obtain ⟨bs,c,xs,h1,h2,h3,-,-,h4⟩:=h
  have hxl:xs.length=n:=by have:=h2.1;omega
  obtain ⟨u,hu⟩:∃ u,xs[i]?=some u:=⟨_,List.getElem?_eq_getElem (by omega)⟩
  obtain ⟨g,rfl,-,hc⟩:=h3 u (List.mem_of_getElem? hu)
  have k0:w.cell? ⟨x,0,none⟩=some (.slice (some ⟨bs,0,none⟩) n c):=by simp [World.cell?,h1]
  have k1:w.cell? ⟨x,1,none⟩=some (.slice none 0 0):=by simp [World.cell?,h1]
  have kc:w.cell? ⟨bs,i,none⟩=some (.slice (some ⟨g,0,none⟩) 128 128):=sect_at h2 hu
  have HR:Hid (Rd w (some ⟨g,0,none⟩) (zeros 128)):=Lib.hid (by
    intro _
    refine ⟨g,0,rfl,fun j v hv=>?_⟩
    simp only [World.cell?,hc,Nat.zero_add]
    rw [zeros,← Zs_list] at hv
    simpa using hv)
  have hd0:decide ((i:Int) < 0)=false:=decide_eq_false (by omega)
  have hd1:decide ((i:Int) ≥ (n:Int))=false:=decide_eq_false (by omega)
  have hin:(i:Int) < (n:Int):=by omega
  clear h1 h2 h3 hu hc h4 hxl
  go_enter Tryz.func175,Tryz.ntmps175
  go_wp2_with fail
  go_loopw [6] (fun m wr=>m=.int .i64 (-1)∧wr=w) (fun _ _=>0)
  case atStart=>exact ⟨rfl,rfl⟩
  case round =>
    obtain ⟨rfl,rfl⟩:=hrel
    go_wp2_with fail
    refine (copied_any _ 128 128 (zeros 128) _ (by simp [zeros]) (by omega) HR.out).mono ?_
    rintro e w1 ⟨v,rfl,ho,hb⟩
    have HO:=Lib.hid ho
    clear ho
    go_wp2
    go_ret2
    exact ⟨_,rfl,HO.out,hb⟩
end Go.Proofs.YtheeomjfpnijbaaGreatDoor
