/- Lemmas: StQ, Bt15, Bt16, Bt17, Bt18, Bt19. -/
import Derived.Test.YtheeomjfpnijbaaGreatDoorZBa
import Derived.Test.YtheeomjfpnijbaaGreatDoorWriteMP
import Derived.Test.YtheeomjfpnijbaaGreatDoorZBd
import Derived.Test.YtheeomjfpnijbaaGreatDoorZTr
import Derived.Test.YtheeomjfpnijbaaGreatDoorZTs
set_option linter.unusedVariables false
section
namespace Go.Proofs.YtheeomjfpnijbaaGreatDoor
open Go.RowKit Go.Shelf
structure QM (p:Par) (cap:Nat) (w:World) (s:ASt):Prop where
  mr:MR 0 p w s
  none:s.A=[]
  len:∀ n:Nat,n < p.pages→(s.C (n:Int)).2.length=112
  pages:1≤p.pages∧p.pages≤4096
  cap:s.L.sectors * 112=cap
def gp (p:Par) (s:ASt):Par:={ p with G:=fun n=>(s.C n).2 }
section
variable {p:Par} {cap tx:Nat} {w w':World} {s:ASt}
theorem QM.below (h:QM p cap w s) (hb:Below w.heap.size w w'):QM p cap w' s:=⟨h.mr.below hb,h.none,h.len,h.pages,h.cap⟩
theorem UpdOk.ghost {t:Int} {r:Rec} (h:UpdOk p t r) (G:Int→List UInt8):UpdOk { p with G:=G } t r:=by
  cases h
  constructor <;> assumption
theorem MR.ghost {k:Int} (h:MR k p w s) (G:Int→List UInt8):MR k { p with G:=G } w s where
  cells:=h.cells
  run:=h.run
  map:=h.map
  txs:=h.txs
  apart:=h.apart
  rows:=h.rows
  low:=h.low
  pins:=h.pins
  few:=h.few
  keys:=h.keys
  last:=h.last
  cnt:=h.cnt
  ups:=fun x hx r hr=>(h.ups x hx r hr).ghost G
  ulen:=h.ulen
  sect:=h.sect
theorem TopA.none {m:Nat} (h:TopA s m) (hA:s.A=[]):m=s.last:=by
  obtain ⟨-,-,h | h⟩:=h
  · omega
  · rw [hA] at h;cases h
theorem qbegin_any (w:World) (h:QM p cap w s) (hl:s.last < 1000000) (hr:s.L.xs.length+16≤cap) :
    Calls Tryz.prog 81 #[.pointer (some ⟨p.bg,0,none⟩)] w fun e w'=>∃ s',e=.returned (.tuple #[.int .i64 (s.last+1:Nat),.int .i64 0])∧TM (gp p s) (s.last+1) cap w' s'∧pst s'=⟨(pst s).F,(pst s).u+16⟩∧s'.t=s.t∧s'.N=s.N∧Step p s.N w s'.N w':=by
  refine (mbegin_any p s w h.mr).mono ?_
  rintro e w' (⟨-,hb | ⟨m,hm,hm2⟩,-⟩ | ⟨-,m,b,s',hm,-,rfl,hm',hb',hs'⟩)
  · rw [h.none] at hb;simp at hb
  · have:=hm.none h.none;omega
  · have e:=hm.none h.none
    subst e
    have hA:s'.A=[((s.last:Int)+1,⟨b,.slice .none 0 0,[]⟩)]:=by rw [hb'.A,h.none];rfl
    refine ⟨s',rfl,⟨hm'.ghost _,⟨_,by rw [hA];rfl⟩,fun n hn=>by rw [hb'.C];exact h.len n hn,h.pages,by rw [hb'.log.2.1];exact h.cap,?_,fun t ht n=>?_,by rw [hb'.last];omega⟩,?_,hb'.t,hb'.N,hs'⟩
    · rw [hA,hb'.log.2.1,hb'.log.2.2,h.cap]
      simp [needC]
      omega
    · rw [hA] at ht
      simp at ht
      rw [← ht,hb'.C]
      rfl
    · unfold pst
      rw [hA,hb'.C,hb'.log.2.2,h.none]
      simp [needC]
end
end Go.Proofs.YtheeomjfpnijbaaGreatDoor
end
section
namespace Go.Proofs.YtheeomjfpnijbaaGreatDoor
open Go.RowKit Go.Shelf
abbrev StepRow:=Nd × Option Addr × Nat
def rowV (x:StepRow):Value:=.slice x.2.1 x.1.cells.length x.2.2
def stepV (key:Key) (x:StepRow):List Value:=[.int .i64 x.1.page,.bool x.1.leaf,.int .i64 x.1.first,rowV x,.int .i64 (((x.1.at_ key:Nat):Int) - 1),.bool (x.1.hits key && x.1.leaf)]
structure RowsAt (w:World) (base:Nat) (l:List StepRow):Prop where
  own:∀ x∈l,w.ownsRow base 129 3 (rowV x) x.1.cells.length (x.1.cells.flatMap celV)
  apart:l.Pairwise fun x y=>∀ k,(rowV x).ownBlock=some k→(rowV y).ownBlock ≠ some k
theorem stepV_length (key:Key) (x:StepRow):(stepV key x).length=6:=rfl
theorem infoStep:(Tryz.prog.info? 127).map (fun i=>(i.zero,i.size,i.bytes))=some (some (.agg #[.int .i64 0,.bool false,.int .i64 0,.slice none 0 0,.int .i64 0,.bool false]),6,64):=by kernel_rfl
theorem own_step {p:Par} {tx cap:Nat} {s:ASt} {w w':World} {N':Zone} {base:Nat} {t:TypeId} {size n:Nat} {v:Value} {xs:List Value} (h:TM p tx cap w s) (hs:Step p s.N w N' w') (ht:FreeM t) (ho:w.ownsRow base t size v n xs):w'.ownsRow base t size v n xs :=
  own_upd ho hs.upd (fun k hk hty=>h.mr.free ht hty hk)
theorem own_ty {W:World} {base:Nat} {e:TypeId} {size n k:Nat} {v:Value} {xs:List Value} (h:W.ownsRow base e size v n xs) (hk:some k=v.ownBlock):Typed W k e:=by
  obtain ⟨hl,⟨rfl,-⟩ | ⟨g,cap,cur,rfl,hb,hg,-⟩⟩:=h
  · cases hk
  · cases hk
    exact ⟨cur,hg⟩
theorem own_cells {w:World} {base n c:Nat} {q:Option Addr} {l:List Cel} (h:w.ownsRow base 129 3 (.slice q n c) n (l.flatMap celV)):CelsAt w q l:=by
  intro hne
  obtain ⟨hl,h | ⟨g,cap,cur,e,hb,hg,h1,h2,h3,h4⟩⟩:=h
  · rw [h.2] at hl
    exact absurd (List.eq_nil_of_length_eq_zero (by omega)) hne
  · cases e
    refine ⟨g,0,rfl,fun i v hv=>?_⟩
    have hi:i < n * 3:=by have:=(List.getElem?_eq_some_iff.1 hv).1;omega
    rw [← h4,List.getElem?_take_of_lt hi] at hv
    simp only [World.cell?,hg]
    simpa using hv
theorem cells_len {d:Nd} (h:NdOk d) (hl:d.load.length≤112):d.cells.length≤55:=by
  have h1:=cells_few h.cells
  have h2:2+(d.cells.flatMap (celB d.leaf)).length≤d.load.length:=by unfold Nd.load;split <;> simp [le2] <;> omega
  omega
theorem step_news (W:World) (l:List Value) (j:Nat) (u:Value) (h:l[j]?=some u):(W.alloc (.cells l.toArray 127)).cell? ((⟨W.heap.size,0,none⟩:Addr).add j)=some u:=by
  have e:((⟨W.heap.size,0,none⟩:Addr).add j)=⟨W.heap.size,j,none⟩:=by simp [Addr.add];omega
  rw [e]
  exact cellNew (by simpa using h)
set_option maxRecDepth 20000 in
set_option maxHeartbeats 8000000 in
theorem path_any {p:Par} {tx cap:Nat} {s:ASt} (key:Key) (ds:List Nd) (z:Met) (w:World) (h:TM p tx cap w s) (ht:s.t≤600000) (hz:(pst s).F 0=pad z.load) (ho:MetOk p.pages z) (htr:Trail p.pages (pst s).F key z.root ds) (hl:ds.length=z.levels) :
    Calls Tryz.prog 39 #[treeV p tx,.string (bstr key)] w fun e w'=>∃ q c rows s',rows.map (·.1)=ds∧e=.returned (.tuple #[.slice q ds.length c,.int .i64 0]) ∧
      w'.ownsRow w.heap.size 127 6 (.slice q ds.length c) ds.length (rows.flatMap (stepV key))∧RowsAt w' w.heap.size rows∧TM p tx cap w' s'∧pst s'=pst s∧s'.t=s.t+1+ds.length∧s'.N=s.N∧Step p s.N w s'.N w':=by
  have H:=Lib.hid h
  have HT:=Lib.hid ht
  have HZ:=Lib.hid hz
  have HO:=Lib.hid ho
  have HTR:=Lib.hid htr
  have HLV:=Lib.hid hl
  obtain ⟨L,hL⟩:∃ L,L=ds.length:=⟨_,rfl⟩
  rw [← hL] at hl ⊢
  have HLD:=Lib.hid hL
  have HL20:Hid (L≤20):=Lib.hid (by have:=ho.levels;omega)
  unfold treeV
  clear h ht hz ho htr hl hL
  go_enter Tryz.func39,Tryz.ntmps39
  go_upto_region 1 with fail
  obtain ⟨N,hN⟩:∃ N,N=w.heap.size:=⟨_,rfl⟩
  obtain ⟨W1,hW1⟩:∃ W1,W1=w.alloc (.cells #[.pointer (some ⟨p.bg,0,none⟩),.int .i64 tx] 117):=⟨_,rfl⟩
  have n0:W1.heap[N]?=some (.cells #[.pointer (some ⟨p.bg,0,none⟩),.int .i64 tx] 117 (0,0)):=by rw [hW1,hN];exact heap_alloc_new w _
  have HB1:Hid (Below w.heap.size w W1):=Lib.hid (by rw [hW1];exact (Below.refl _ w).alloc (Nat.le_refl _) _)
  rw [← hW1,← hN]
  have HM1:=Lib.hid (H.out.below HB1.out)
  have k0:W1.cell? ⟨N,0,none⟩=some (.pointer (some ⟨p.bg,0,none⟩)):=by simp [World.cell?,n0]
  have k1:W1.cell? ⟨N,1,none⟩=some (.int .i64 tx):=by simp [World.cell?,n0]
  have hNl:=cell_lt k0
  have HNW:=Lib.hid hN
  have N0:=Lib.hid n0
  clear hN hW1 n0
  go_wp2_with fail
  refine (tmeta_any z _ HM1.out (by have:=HT.out;omega) HZ.out HO.out).mono ?_
  rintro e w2 ⟨s2,rfl,hm2,hp2,ht2,hn2,hs2⟩
  unfold metV
  rw [hn2] at hs2
  have t2:=HM1.out.keep hs2 N0.out (by decide)
  have HM2:=Lib.hid hm2
  have HP2:=Lib.hid hp2
  have HT2:=Lib.hid ht2
  have HN2:=Lib.hid hn2
  have HS2:=Lib.hid ((Step.of_below HB1.out).trans hs2)
  have T2:=Lib.hid t2
  clear hm2 hp2 ht2 hn2 hs2 t2 k0 k1 hNl
  go_upto_region 4 with fail
  obtain ⟨X,hX⟩:∃ X,X=w2.heap.size:=⟨_,rfl⟩
  obtain ⟨W3,hW3⟩:∃ W3,W3=w2.alloc (.cells #[.int .i64 z.root,.int .i64 z.unused,.int .i64 z.free,.int .i64 z.levels] 133):=⟨_,rfl⟩
  have x3:W3.heap[X]?=some (.cells #[.int .i64 z.root,.int .i64 z.unused,.int .i64 z.free,.int .i64 z.levels] 133 (0,0)):=by rw [hW3,hX];exact heap_alloc_new w2 _
  have HB3:Hid (Below w2.heap.size w2 W3):=Lib.hid (by rw [hW3];exact (Below.refl _ w2).alloc (Nat.le_refl _) _)
  rw [← hW3,← hX]
  have HM3:=Lib.hid (HM2.out.below HB3.out)
  have T3:=Lib.hid (met_old T2.out HB3.out)
  have HS3:=Lib.hid (HS2.out.trans (Step.of_below HB3.out))
  obtain ⟨⟨a0,a1,a2,a3⟩,⟨f0,f1,f2,f3⟩,hXl⟩:=four_cells x3
  clear hW3 hX x3 f0 f1 f2 f3
  have hlv:(z.levels:Int)=(L:Int):=by have:=HLV.out;have:=HLD.out;omega
  rw [hlv] at a3
  clear hlv
  go_wp2
  clear a0 a1 a2 a3 hXl
  go_loopw [8,9,10] (fun r v k wr=>∃ (i m n:Nat) (q:Option Addr) (c:Nat),i+m=L∧r=.slice q i c∧v=.int .i64 n∧k=.int .i64 m ∧
      Hid (i < L→Trail p.pages (pst s).F key n (ds.drop i)) ∧
      Hid (∃ rows s1,rows.map (·.1)=ds.take i∧wr.ownsRow w.heap.size 127 6 (.slice q i c) i (rows.flatMap (stepV key))∧RowsAt wr w.heap.size rows∧TM p tx cap wr s1∧pst s1=pst s∧s1.t=s.t+1+i∧s1.N=s.N) ∧
      Hid (Step p s.N w s.N wr)∧Hid (wr.heap[N]?=some (.cells #[.pointer (some ⟨p.bg,0,none⟩),.int .i64 tx] 117 (0,0)))) (fun _ _ k _=>(intOf k).toNat)
  case atStart =>
    refine ⟨0,L,z.root,none,0,Nat.zero_add _,rfl,rfl,rfl,Lib.hid (fun _=>HTR.out),Lib.hid ⟨[],s2,rfl,⟨rfl,.inl ⟨rfl,rfl⟩⟩,⟨nofun,List.Pairwise.nil⟩,HM3.out,HP2.out,HT2.out,HN2.out⟩,HS3,T3⟩
  case round =>
    obtain ⟨i,m,n,q,c,him,rfl,rfl,rfl,HW,HR,HS,HB⟩:=hrel
    by_cases hm:m=0
    · subst hm
      obtain ⟨rows,s1,r1,r2,r3,r4,r5,r6,r7⟩:=HR.out
      obtain rfl:i=L:=by omega
      rw [List.take_of_length_le (by have:=HLD.out;omega)] at r1
      have hs:Step p s.N w s1.N wr:=by rw [r7];exact HS.out
      go_wp2
      go_ret2
      refine ⟨q,c,rows,s1,r1,rfl,r2,r3,r4,r5,by omega,r7,hs⟩
    · obtain ⟨d,rs,hdr,hpn,hhold,hleaf,hnext⟩:=(HW.out (by omega)).cases'
      subst hpn
      obtain ⟨rows,s1,r1,r2,r3,r4,r5,r6,r7⟩:=HR.out
      have HR1:=Lib.hid r1
      have HR2:=Lib.hid r2
      have HR3:=Lib.hid r3
      have HR4:=Lib.hid r4
      have HR5:=Lib.hid r5
      have HR6:=Lib.hid r6
      have HR7:=Lib.hid r7
      have HHO:=Lib.hid hhold
      have HLEAF:=Lib.hid hleaf
      have HNEXT:=Lib.hid hnext
      have HDR:=Lib.hid hdr
      have hrl:rs.length+1=m:=by
        have h1:=congrArg List.length hdr
        rw [List.length_drop,← HLD.out,List.length_cons] at h1
        omega
      have HRL:=Lib.hid hrl
      have hd:decide ((m:Int) > 0)=true:=decide_eq_true (by omega)
      have hd':decide (0 < m)=true:=decide_eq_true (by omega)
      have hbx:=HB.out
      have k0:wr.cell? ⟨N,0,none⟩=some (.pointer (some ⟨p.bg,0,none⟩)):=by simp [World.cell?,hbx]
      have k1:wr.cell? ⟨N,1,none⟩=some (.int .i64 tx):=by simp [World.cell?,hbx]
      have hNl:=cell_lt k0
      clear r1 r2 r3 r4 r5 r6 r7 hhold hleaf hnext hdr hbx hrl HW HR
      go_wp2_with fail
      refine (tnode_any d wr HR4.out (by have:=HR6.out;have:=HT.out;have:=HL20.out;omega) HHO.out.page HHO.out.ok HHO.out.load (by rw [HR5.out];exact HHO.out.at_)).mono ?_
      rintro e w4 ⟨q4,c4,s4,rfl,ho4,hm4,hp4,ht4,hn4,hs4⟩
      rw [hn4] at hs4
      obtain ⟨Ld,hLd⟩:∃ L,L=d.cells.length:=⟨_,rfl⟩
      have hndv:ndV d q4 c4=.agg #[.int .i64 d.page,.bool d.leaf,.int .i64 d.first,.slice q4 Ld c4]:=by rw [hLd];rfl
      rw [hndv]
      rw [← hLd] at ho4
      have HND:=Lib.hid hndv
      have HLN:=Lib.hid hLd
      have HO4:=Lib.hid ho4
      have HM4:=Lib.hid hm4
      have HP4:=Lib.hid (hp4.trans HR5.out)
      have HT4:=Lib.hid ht4
      have HN4:=Lib.hid (hn4.trans HR7.out)
      have HS4:=Lib.hid (HS.out.trans (by have:=hs4;rw [HR7.out] at this;exact this))
      have HB4:=Lib.hid (HR4.out.keep hs4 HB.out (by decide))
      have HQ4:=Lib.hid (own_step HR4.out hs4 (by decide) HR2.out)
      have HRW4:Hid (RowsAt w4 w.heap.size rows):=Lib.hid ⟨fun x hx=>own_step HR4.out hs4 (by decide) (HR3.out.own x hx),HR3.out.apart⟩
      have HSZ:=Lib.hid hs4.upd.size
      clear ho4 hm4 hp4 ht4 hn4 hs4 hndv hLd k0 k1 hNl
      obtain ⟨lf,hlf⟩:∃ b,b=d.leaf:=⟨_,rfl⟩
      rw [← hlf]
      have HLF:=Lib.hid hlf
      clear hlf
      go_upto_region 12 with fail
      obtain ⟨G,hG⟩:∃ G,G=w4.heap.size:=⟨_,rfl⟩
      obtain ⟨W5,hW5⟩:∃ W,W=w4.alloc (.cells #[.int .i64 d.page,.bool lf,.int .i64 d.first,.slice q4 Ld c4] 125):=⟨_,rfl⟩
      have g5:W5.heap[G]?=some (.cells #[.int .i64 d.page,.bool lf,.int .i64 d.first,.slice q4 Ld c4] 125 (0,0)):=by rw [hW5,hG];exact heap_alloc_new w4 _
      have HB5:Hid (Below w4.heap.size w4 W5):=Lib.hid (by rw [hW5];exact (Below.refl _ w4).alloc (Nat.le_refl _) _)
      rw [← hW5,← hG]
      have HG:=Lib.hid hG
      have G5:=Lib.hid g5
      obtain ⟨⟨a0,a1,a2,a3⟩,-,hGl⟩:=four_cells g5
      clear hW5 hG g5
      have hbl:((m:Int) == 1)=lf:=by
        have h1:=HRL.out
        rw [HLF.out,HLEAF.out]
        by_cases h0:rs.length=0
        · have:m=1:=by omega
          subst this
          rw [h0]
          rfl
        · rw [decide_eq_false h0,beq_eq_false_iff_ne]
          omega
      have hbn:(lf != lf)=false:=by simp
      go_wp2_with fail
      rw [show Value.agg #[.int .i64 d.page,.bool lf,.int .i64 d.first,.slice q4 Ld c4]=ndV d q4 c4 from by rw [HND.out,HLF.out]]
      have HCA:Hid (CelsAt w4 q4 d.cells):=Lib.hid (own_cells HO4.out)
      have HDL:Hid (d.cells.length≤1000):=Lib.hid (by have:=cells_len HHO.out.ok HHO.out.load;omega)
      refine (down_any d q4 c4 key W5 HDL.out HHO.out.ok.sorted (HCA.out.below HB5.out)).mono ?_
      rintro e w6 ⟨rfl,hb6⟩
      rw [show ndV d q4 c4=Value.agg #[.int .i64 d.page,.bool lf,.int .i64 d.first,.slice q4 Ld c4] from by rw [HND.out,HLF.out]]
      obtain ⟨A,hA⟩:∃ A:Int,A=((d.at_ key:Nat):Int) - 1:=⟨_,rfl⟩
      obtain ⟨ht,hht⟩:∃ b,b=d.hits key:=⟨_,rfl⟩
      rw [← hA,← hht]
      have HA:=Lib.hid hA
      have HH:=Lib.hid hht
      have HB6:=Lib.hid (chainC HB5.out hb6)
      have G6:=Lib.hid (met_old G5.out hb6)
      obtain ⟨⟨b0,b1,b2,b3⟩,-,hGl6⟩:=four_cells G6.out
      clear hA hht hb6 a0 a1 a2 a3 hGl hbl hbn
      go_upto_region 15 with fail
      clear b0 b1 b2 b3 hGl6
      have HH0:=HH
      cases ht
      · obtain ⟨⟨b0,b1,b2,b3⟩,-,hGl6⟩:=four_cells G6.out
        clear HH0
        have HOA:Hid ((w6.alloc (.cells #[.int .i64 d.page,.bool lf,.int .i64 d.first,.slice q4 Ld c4,.int .i64 A,.bool false] 127)).ownsRow w.heap.size 127 6 (.slice q i c) i (rows.flatMap (stepV key))):=Lib.hid ((own_later HQ4.out HB6.out).alloc _)
        have HNW6:Hid (∀ (j:Nat) (u:Value),[Value.int .i64 d.page,.bool lf,.int .i64 d.first,.slice q4 Ld c4,.int .i64 A,.bool false][j]?=some u→(w6.alloc (.cells #[.int .i64 d.page,.bool lf,.int .i64 d.first,.slice q4 Ld c4,.int .i64 A,.bool false] 127)).cell? ((⟨w6.heap.size,0,none⟩:Addr).add j)=some u):=Lib.hid (step_news w6 _)
        have HW6:Hid (w.heap.size≤w6.heap.size):=Lib.hid (by have h1:=HS4.out.upd.size;have h2:=HB6.out.size;omega)
        obtain ⟨i0,hi0,hz0,hz1,hz2⟩:=info_parts infoStep
        go_wp2_with (at_builtin;go_loud (refine wpList_append_lies _ rfl (.tmp 51) (.tmp 60) 120 rfl w.heap.size 127 i0 (.agg #[.int .i64 0,.bool false,.int .i64 0,.slice none 0 0,.int .i64 0,.bool false]) 6 64 Tryz.underlying120 hi0 hz0 hz1 hz2 rfl (by decide) (.slice q i c) i _ rfl HOA.out ⟨w6.heap.size,0,none⟩ 1 1 [.int .i64 d.page,.bool lf,.int .i64 d.first,.slice q4 Ld c4,.int .i64 A,.bool false] (by rfl) rfl HNW6.out (by simp [Value.oneCell']) (by omega) (by simp only [maxLen];have:=HL20.out;omega) (by have:=HL20.out;omega) (by have:=HW6.out;simp;omega) (w6.heap.size+1) (by simp) ?_))
        intro gg cap w7 hown7 hgrow7 hat7 hlt7
        obtain ⟨x7,hx7⟩:∃ x:StepRow,x=(d,q4,c4):=⟨_,rfl⟩
        have hsv:stepV key x7=[.int .i64 d.page,.bool lf,.int .i64 d.first,.slice q4 Ld c4,.int .i64 A,.bool false]:=by rw [hx7,HLF.out,HLN.out,HA.out];show [_,_,_,_,_,Value.bool (d.hits key && d.leaf)]=_;rw [← HH.out];first | rfl | simp
        have HB6a:Hid (Below w6.heap.size w6 (w6.alloc (.cells #[.int .i64 d.page,.bool lf,.int .i64 d.first,.slice q4 Ld c4,.int .i64 A,.bool false] 127))):=Lib.hid ((Below.refl _ w6).alloc (Nat.le_refl _) _)
        have HBA:=Lib.hid (chainC HB6.out HB6a.out)
        have hu7:=Upd.of_grown hgrow7
        have hm7:=(HM4.out.below HBA.out).turn hu7 (B:=w.heap.size) (by rw [HN4.out];exact H.out.base) (fun j hj=>⟨own_ge HOA.out hj,127,by decide,own_ty HOA.out hj⟩)
        have hs7:=(HS4.out.trans (Step.of_below HBA.out)).more hu7 (fun j hj=>own_ge HOA.out hj)
        have g7:=grown_at (met_old G6.out HB6a.out) HOA.out hgrow7 (by decide)
        have t7:=grown_at (met_old HB4.out HBA.out) HOA.out hgrow7 (by decide)
        have hrows7:RowsAt w7 w.heap.size (rows++[x7]):=by
          have hnew:∀ k,k∈[x7]→True:=fun _ _=>trivial
          refine ⟨fun x hx=>own_upd (own_later (w:=w4) ?_ HBA.out) hu7 (fun k hk ht=>absurd (ht.one (own_ty HOA.out hk)) (by decide)),?_⟩
          · rcases List.mem_append.1 hx with hx | hx
            · exact HRW4.out.own x hx
            · rw [List.mem_singleton.1 hx,hx7]
              have h1:=HO4.out
              rw [HLN.out] at h1
              exact own_mono h1 HS.out.upd.size
          · rw [List.pairwise_append]
            refine ⟨HRW4.out.apart,List.pairwise_singleton _ _,fun x hx y hy k hk hk'=>?_⟩
            rw [List.mem_singleton.1 hy,hx7] at hk'
            have h1:=((HR3.out.own x hx).lt k hk).2
            have h2:=own_ge (k:=k) HO4.out (by rw [← hk',HLN.out];rfl)
            omega
        have hown8:w7.ownsRow w.heap.size 127 6 (.slice (some ⟨gg,0,none⟩) (i+1) cap) (i+1) ((rows++[x7]).flatMap (stepV key)):=by
          rw [List.flatMap_append]
          simp only [List.flatMap_cons,List.flatMap_nil,List.append_nil,hsv]
          exact hown7
        have hfst:(rows++[x7]).map (·.1)=ds.take (i+1):=by
          rw [List.map_append,HR1.out,List.take_add_one]
          have:ds[i]?=some d:=by
            have:=congrArg (fun l=>l[0]?) HDR.out
            simpa using this
          rw [this,hx7]
          rfl
        have HM7:=Lib.hid hm7
        have HS7:=Lib.hid hs7
        have G7:=Lib.hid g7
        have T7:=Lib.hid t7
        have HW7:=Lib.hid hrows7
        have HO7:=Lib.hid hown8
        have HF7:=Lib.hid hfst
        obtain ⟨⟨c0,c1,c2,c3⟩,-,hGl7⟩:=four_cells g7
        have hm1:wrap64 ((m:Int) - 1)=((m - 1:Nat):Int):=by have:=HL20.out;unfold wrap64;omega
        have HM1':=Lib.hid hm1
        clear hm7 hs7 g7 t7 hrows7 hown8 hfst hu7 hown7 hgrow7 hat7 hlt7 b0 b1 b2 b3 hGl6 hm1
        cases lf
        · go_wp2_with fail
          rw [show Value.agg #[.int .i64 d.page,.bool false,.int .i64 d.first,.slice q4 Ld c4]=ndV d q4 c4 from by rw [HND.out,← HLF.out],HA.out]
          have HCA7:Hid (CelsAt w7 q4 d.cells):=Lib.hid (by have:=HW7.out.own x7 (by simp);rw [hx7] at this;exact own_cells this)
          refine (child_any d q4 c4 (d.at_ key) w7 (by have:=nle_le key (d.cells.map (·.key));rw [List.length_map] at this;exact this) HDL.out HCA7.out).mono ?_
          rintro e w8 ⟨rfl,hb8⟩
          have HB8:=Lib.hid hb8
          clear hb8 c0 c1 c2 c3 hGl7
          go_wp2
          try rw [HM1'.out]
          go_roundw
          case rel =>
            have hrs:rs ≠ []:=fun e=>by
              have h1:=HLEAF.out
              rw [← HLF.out,e] at h1
              cases h1
            refine ⟨i+1,m - 1,d.kid (d.at_ key),_,_,by omega,rfl,rfl,rfl,Lib.hid (fun _=>?_),Lib.hid ⟨rows++[x7],s4,HF7.out,own_later HO7.out HB8.out,⟨fun x hx=>own_later (HW7.out.own x hx) HB8.out,HW7.out.apart⟩,HM7.out.below HB8.out,HP4.out,by have:=HT4.out;have:=HR6.out;omega,HN4.out⟩,Lib.hid (HS7.out.trans (Step.of_below HB8.out)),Lib.hid (met_old T7.out HB8.out)⟩
            have:ds.drop (i+1)=rs:=by
              have:=congrArg (List.drop 1) HDR.out
              rw [List.drop_drop] at this
              exact this
            rw [this]
            exact HNEXT.out hrs
          case measure=>simp only [intOf,Int.toNat_natCast];omega
        · go_wp2
          try rw [HM1'.out]
          go_roundw
          case rel =>
            have hrs:rs.length=0:=by
              have h1:=HLEAF.out
              rw [← HLF.out] at h1
              exact of_decide_eq_true h1.symm
            refine ⟨i+1,m - 1,d.page,_,_,by omega,rfl,rfl,rfl,Lib.hid (fun h=>absurd h ?_),Lib.hid ⟨rows++[x7],s4,HF7.out,HO7.out,HW7.out,HM7.out,HP4.out,by have:=HT4.out;have:=HR6.out;omega,HN4.out⟩,HS7,T7⟩
            have:=HRL.out
            omega
          case measure=>simp only [intOf,Int.toNat_natCast];omega
      · obtain ⟨⟨b0,b1,b2,b3⟩,-,hGl6⟩:=four_cells G6.out
        clear HH0
        have HOA:Hid ((w6.alloc (.cells #[.int .i64 d.page,.bool lf,.int .i64 d.first,.slice q4 Ld c4,.int .i64 A,.bool lf] 127)).ownsRow w.heap.size 127 6 (.slice q i c) i (rows.flatMap (stepV key))):=Lib.hid ((own_later HQ4.out HB6.out).alloc _)
        have HNW6:Hid (∀ (j:Nat) (u:Value),[Value.int .i64 d.page,.bool lf,.int .i64 d.first,.slice q4 Ld c4,.int .i64 A,.bool lf][j]?=some u→(w6.alloc (.cells #[.int .i64 d.page,.bool lf,.int .i64 d.first,.slice q4 Ld c4,.int .i64 A,.bool lf] 127)).cell? ((⟨w6.heap.size,0,none⟩:Addr).add j)=some u):=Lib.hid (step_news w6 _)
        have HW6:Hid (w.heap.size≤w6.heap.size):=Lib.hid (by have h1:=HS4.out.upd.size;have h2:=HB6.out.size;omega)
        obtain ⟨i0,hi0,hz0,hz1,hz2⟩:=info_parts infoStep
        go_wp2_with (at_builtin;go_loud (refine wpList_append_lies _ rfl (.tmp 51) (.tmp 60) 120 rfl w.heap.size 127 i0 (.agg #[.int .i64 0,.bool false,.int .i64 0,.slice none 0 0,.int .i64 0,.bool false]) 6 64 Tryz.underlying120 hi0 hz0 hz1 hz2 rfl (by decide) (.slice q i c) i _ rfl HOA.out ⟨w6.heap.size,0,none⟩ 1 1 [.int .i64 d.page,.bool lf,.int .i64 d.first,.slice q4 Ld c4,.int .i64 A,.bool lf] (by rfl) rfl HNW6.out (by simp [Value.oneCell']) (by omega) (by simp only [maxLen];have:=HL20.out;omega) (by have:=HL20.out;omega) (by have:=HW6.out;simp;omega) (w6.heap.size+1) (by simp) ?_))
        intro gg cap w7 hown7 hgrow7 hat7 hlt7
        obtain ⟨x7,hx7⟩:∃ x:StepRow,x=(d,q4,c4):=⟨_,rfl⟩
        have hsv:stepV key x7=[.int .i64 d.page,.bool lf,.int .i64 d.first,.slice q4 Ld c4,.int .i64 A,.bool lf]:=by rw [hx7,HLF.out,HLN.out,HA.out];show [_,_,_,_,_,Value.bool (d.hits key && d.leaf)]=_;rw [← HH.out];first | rfl | simp
        have HB6a:Hid (Below w6.heap.size w6 (w6.alloc (.cells #[.int .i64 d.page,.bool lf,.int .i64 d.first,.slice q4 Ld c4,.int .i64 A,.bool lf] 127))):=Lib.hid ((Below.refl _ w6).alloc (Nat.le_refl _) _)
        have HBA:=Lib.hid (chainC HB6.out HB6a.out)
        have hu7:=Upd.of_grown hgrow7
        have hm7:=(HM4.out.below HBA.out).turn hu7 (B:=w.heap.size) (by rw [HN4.out];exact H.out.base) (fun j hj=>⟨own_ge HOA.out hj,127,by decide,own_ty HOA.out hj⟩)
        have hs7:=(HS4.out.trans (Step.of_below HBA.out)).more hu7 (fun j hj=>own_ge HOA.out hj)
        have g7:=grown_at (met_old G6.out HB6a.out) HOA.out hgrow7 (by decide)
        have t7:=grown_at (met_old HB4.out HBA.out) HOA.out hgrow7 (by decide)
        have hrows7:RowsAt w7 w.heap.size (rows++[x7]):=by
          have hnew:∀ k,k∈[x7]→True:=fun _ _=>trivial
          refine ⟨fun x hx=>own_upd (own_later (w:=w4) ?_ HBA.out) hu7 (fun k hk ht=>absurd (ht.one (own_ty HOA.out hk)) (by decide)),?_⟩
          · rcases List.mem_append.1 hx with hx | hx
            · exact HRW4.out.own x hx
            · rw [List.mem_singleton.1 hx,hx7]
              have h1:=HO4.out
              rw [HLN.out] at h1
              exact own_mono h1 HS.out.upd.size
          · rw [List.pairwise_append]
            refine ⟨HRW4.out.apart,List.pairwise_singleton _ _,fun x hx y hy k hk hk'=>?_⟩
            rw [List.mem_singleton.1 hy,hx7] at hk'
            have h1:=((HR3.out.own x hx).lt k hk).2
            have h2:=own_ge (k:=k) HO4.out (by rw [← hk',HLN.out];rfl)
            omega
        have hown8:w7.ownsRow w.heap.size 127 6 (.slice (some ⟨gg,0,none⟩) (i+1) cap) (i+1) ((rows++[x7]).flatMap (stepV key)):=by
          rw [List.flatMap_append]
          simp only [List.flatMap_cons,List.flatMap_nil,List.append_nil,hsv]
          exact hown7
        have hfst:(rows++[x7]).map (·.1)=ds.take (i+1):=by
          rw [List.map_append,HR1.out,List.take_add_one]
          have:ds[i]?=some d:=by
            have:=congrArg (fun l=>l[0]?) HDR.out
            simpa using this
          rw [this,hx7]
          rfl
        have HM7:=Lib.hid hm7
        have HS7:=Lib.hid hs7
        have G7:=Lib.hid g7
        have T7:=Lib.hid t7
        have HW7:=Lib.hid hrows7
        have HO7:=Lib.hid hown8
        have HF7:=Lib.hid hfst
        obtain ⟨⟨c0,c1,c2,c3⟩,-,hGl7⟩:=four_cells g7
        have hm1:wrap64 ((m:Int) - 1)=((m - 1:Nat):Int):=by have:=HL20.out;unfold wrap64;omega
        have HM1':=Lib.hid hm1
        clear hm7 hs7 g7 t7 hrows7 hown8 hfst hu7 hown7 hgrow7 hat7 hlt7 b0 b1 b2 b3 hGl6 hm1
        cases lf
        · go_wp2_with fail
          rw [show Value.agg #[.int .i64 d.page,.bool false,.int .i64 d.first,.slice q4 Ld c4]=ndV d q4 c4 from by rw [HND.out,← HLF.out],HA.out]
          have HCA7:Hid (CelsAt w7 q4 d.cells):=Lib.hid (by have:=HW7.out.own x7 (by simp);rw [hx7] at this;exact own_cells this)
          refine (child_any d q4 c4 (d.at_ key) w7 (by have:=nle_le key (d.cells.map (·.key));rw [List.length_map] at this;exact this) HDL.out HCA7.out).mono ?_
          rintro e w8 ⟨rfl,hb8⟩
          have HB8:=Lib.hid hb8
          clear hb8 c0 c1 c2 c3 hGl7
          go_wp2
          try rw [HM1'.out]
          go_roundw
          case rel =>
            have hrs:rs ≠ []:=fun e=>by
              have h1:=HLEAF.out
              rw [← HLF.out,e] at h1
              cases h1
            refine ⟨i+1,m - 1,d.kid (d.at_ key),_,_,by omega,rfl,rfl,rfl,Lib.hid (fun _=>?_),Lib.hid ⟨rows++[x7],s4,HF7.out,own_later HO7.out HB8.out,⟨fun x hx=>own_later (HW7.out.own x hx) HB8.out,HW7.out.apart⟩,HM7.out.below HB8.out,HP4.out,by have:=HT4.out;have:=HR6.out;omega,HN4.out⟩,Lib.hid (HS7.out.trans (Step.of_below HB8.out)),Lib.hid (met_old T7.out HB8.out)⟩
            have:ds.drop (i+1)=rs:=by
              have:=congrArg (List.drop 1) HDR.out
              rw [List.drop_drop] at this
              exact this
            rw [this]
            exact HNEXT.out hrs
          case measure=>simp only [intOf,Int.toNat_natCast];omega
        · go_wp2
          try rw [HM1'.out]
          go_roundw
          case rel =>
            have hrs:rs.length=0:=by
              have h1:=HLEAF.out
              rw [← HLF.out] at h1
              exact of_decide_eq_true h1.symm
            refine ⟨i+1,m - 1,d.page,_,_,by omega,rfl,rfl,rfl,Lib.hid (fun h=>absurd h ?_),Lib.hid ⟨rows++[x7],s4,HF7.out,HO7.out,HW7.out,HM7.out,HP4.out,by have:=HT4.out;have:=HR6.out;omega,HN4.out⟩,HS7,T7⟩
            have:=HRL.out
            omega
          case measure=>simp only [intOf,Int.toNat_natCast];omega
end Go.Proofs.YtheeomjfpnijbaaGreatDoor
end
section
namespace Go.Proofs.YtheeomjfpnijbaaGreatDoor
open Go.RowKit Go.Shelf
theorem flat_len {α:Type} (f:α→List Value) (m:Nat) (h:∀ x,(f x).length=m):∀ l:List α,(l.flatMap f).length=l.length * m:=by
  intro l
  induction l with
  | nil=>simp
  | cons x l ih=>rw [List.flatMap_cons,List.length_append,ih,h,List.length_cons,Nat.succ_mul,Nat.add_comm]
theorem last_step {w:World} {base n c i:Nat} {q:Option Addr} {key:Key} {rows:List StepRow} {x:StepRow} (h:w.ownsRow base 127 6 (.slice q n c) n ((rows++[x]).flatMap (stepV key))) (hi:rows.length=i) (hn:n=i+1) :
    ∃ g,q=some ⟨g,0,none⟩∧n≤c∧c≤maxLen∧base≤g∧Typed w g 127∧∀ j v,(stepV key x)[j]?=some v→w.cell? ⟨g,i * 6+j,none⟩=some v:=by
  obtain ⟨hl,⟨-,h0⟩ | ⟨g,cap,cur,e,hb,hg,h1,h2,h3,h4⟩⟩:=h
  · omega
  · cases e
    refine ⟨g,rfl,h1,h2,hb,⟨cur,hg⟩,fun j v hv=>?_⟩
    have hj:j < 6:=(List.getElem?_eq_some_iff.1 hv).1
    have:((rows++[x]).flatMap (stepV key))[i * 6+j]?=some v:=by
      rw [List.flatMap_append,List.getElem?_append_right (by rw [flat_len _ 6 (stepV_length key),hi];omega),flat_len _ 6 (stepV_length key),hi]
      simpa using hv
    rw [← h4,List.getElem?_take_of_lt (by omega)] at this
    simp only [World.cell?,hg]
    simpa using this
theorem nle_hit (key:Key):∀ (ks:List Key),ks.Pairwise (· < ·)→key∈ks→1≤nle key ks∧ks[nle key ks - 1]?=some key:=by
  intro ks
  induction ks with
  | nil=>intro _ h;cases h
  | cons k ks ih =>
    intro hs hm
    obtain ⟨h1,h2⟩:=List.pairwise_cons.1 hs
    rcases List.mem_cons.1 hm with rfl | hm
    · have h0:nle key ks=0:=by
        cases ks with
        | nil=>rfl
        | cons u ks=>exact if_pos (h1 u (by simp))
      have:nle key (key :: ks)=nle key ks+1:=if_neg (k_irrefl _)
      rw [this,h0]
      exact ⟨Nat.le_refl _,rfl⟩
    · obtain ⟨a,b⟩:=ih h2 hm
      have:nle key (k :: ks)=nle key ks+1:=if_neg (k_nlt (k_of_lt (h1 _ hm)))
      rw [this]
      refine ⟨by omega,?_⟩
      have e:nle key ks+1 - 1=(nle key ks - 1)+1:=by omega
      rw [e,List.getElem?_cons_succ]
      exact b
theorem hit_at {d:Nd} {key:Key} (hd:NdOk d) (h:d.hits key=true):∃ c,d.cells[d.at_ key - 1]?=some c∧c.key=key∧1≤d.at_ key∧d.at_ key≤d.cells.length:=by
  obtain ⟨h1,h2⟩:=nle_hit key _ hd.sorted (of_decide_eq_true h)
  rw [List.getElem?_map] at h2
  obtain ⟨c,hc,hk⟩:=Option.map_eq_some_iff.1 h2
  have:=nle_le key (d.cells.map (·.key))
  rw [List.length_map] at this
  exact ⟨c,hc,hk,h1,this⟩
end Go.Proofs.YtheeomjfpnijbaaGreatDoor
end
section
namespace Go.Proofs.YtheeomjfpnijbaaGreatDoor
open Go.RowKit Go.Shelf
def pairV (x:Key × Key):List Value:=[.string (bstr x.1),.string (bstr x.2)]
theorem infoPair:(Tryz.prog.info? 42).map (fun i=>(i.zero,i.size,i.bytes))=some (some (.agg #[.string ⟨#[]⟩,.string ⟨#[]⟩]),2,32):=by kernel_rfl
structure GatherS (p:Par) (tx cap:Nat) (s:ASt) (W0:World) (B0:Nat) (w w':World) (k:Nat) (q:Option Addr) (n c:Nat) (l:List (Key × Key)) (s':ASt):Prop where
  row:w'.ownsRow B0 42 2 (.slice q n c) n (l.flatMap pairV)
  tm:TM p tx cap w' s'
  pst:pst s'=pst s
  t:s'.t≤s.t+k
  N:s'.N=s.N
  step:Step p s.N W0 s.N w'
  size:w.heap.size≤w'.heap.size
  keep:∀ (j:Nat) (t:TypeId) (cs:Array Value),w.heap[j]?=some (.cells cs t (0,0))→FreeM t→t ≠ 42→w'.heap[j]?=some (.cells cs t (0,0))
def GatherQ (p:Par) (tx cap:Nat) (s:ASt) (W0:World) (B0:Nat) (w:World) (k:Nat) (l:List (Key × Key)) (e:Ending) (w':World):Prop :=
  ∃ q c s',e=.returned (.tuple #[.slice q l.length c,.int .i64 0])∧GatherS p tx cap s W0 B0 w w' k q l.length c l s'
def upTo (most:Int) (l m:List (Key × Key)):List (Key × Key):=l++m.take (most.toNat - l.length)
theorem upto_all {most:Int} {l kv:List (Key × Key)} {j:Nat} (h:kv.length≤j) (hj:j=0 ∨ ((l.length+j:Nat):Int)≤most):l++kv.take j=upTo most l kv:=by
  unfold upTo
  rw [List.take_of_length_le h]
  rcases hj with rfl | hj
  · rw [List.eq_nil_of_length_eq_zero (Nat.le_zero.1 h)];simp
  · rw [List.take_of_length_le (by omega)]
theorem upto_full {most:Int} {l kv:List (Key × Key)} {j:Nat} (h:¬ ((l.length+j:Nat):Int) < most) (hj:j=0 ∨ ((l.length+j:Nat):Int)≤most):l++kv.take j=upTo most l kv:=by
  unfold upTo
  have:most.toNat - l.length=j:=by omega
  rw [this]
theorem pair_news (W:World) (a b:Value) (j:Nat) (u:Value) (h:[a,b][j]?=some u):(W.alloc (.cells #[a,b] 42)).cell? ((⟨W.heap.size,0,none⟩:Addr).add j)=some u:=by
  have e:((⟨W.heap.size,0,none⟩:Addr).add j)=⟨W.heap.size,j,none⟩:=by simp [Addr.add];omega
  rw [e]
  exact cellNew (by simpa using h)
set_option maxRecDepth 20000 in
set_option maxHeartbeats 8000000 in
theorem gather_leaf {p:Par} {tx cap:Nat} {s:ASt} (t:Tr 0) (from_:Key) (most:Int) (l:List (Key × Key)) (q:Option Addr) (n c:Nat) (W0:World) (B0:Nat) (w:World) (h:TM p tx cap w s) (ht:s.t≤700000) (hh:Holds p.pages (pst s).F t.nd) (hr:Rise t.2)
    (hn:n=l.length) (hsz:l.length+t.2.length≤100000) (hl:w.ownsRow B0 42 2 (.slice q n c) n (l.flatMap pairV)) (hs:Step p s.N W0 s.N w) (hB:W0.heap.size≤B0) (hB2:B0≤w.heap.size) (hN:s.N.B≤B0) :
    Calls Tryz.prog 43 #[treeV p tx,.int .i64 t.pg,.int .i64 1,.string (bstr from_),.slice q n c,.int .i64 most] w (GatherQ p tx cap s W0 B0 w 1 (upTo most l (fromK from_ t.2))):=by
  have H:=Lib.hid h
  have HT:=Lib.hid ht
  have HH:=Lib.hid hh
  have HR:=Lib.hid hr
  have HN:=Lib.hid hn
  have HSZ:=Lib.hid hsz
  have HL:=Lib.hid hl
  have HS:=Lib.hid hs
  have HBB:=Lib.hid (And.intro hB (And.intro hB2 hN))
  obtain ⟨d,hd⟩:∃ d,d=t.nd:=⟨_,rfl⟩
  have hpg:t.pg=d.page:=by rw [hd,t.nd_page]
  rw [hpg]
  have HD:=Lib.hid hd
  have HHD:Hid (Holds p.pages (pst s).F d):=Lib.hid (by rw [hd];exact hh)
  unfold treeV
  clear h ht hh hr hn hsz hl hs hB hB2 hN hd hpg
  go_enter Tryz.func43,Tryz.ntmps43
  go_upto_region 1 with fail
  obtain ⟨N,hN⟩:∃ N,N=w.heap.size:=⟨_,rfl⟩
  obtain ⟨W1,hW1⟩:∃ W1,W1=w.alloc (.cells #[.pointer (some ⟨p.bg,0,none⟩),.int .i64 tx] 117):=⟨_,rfl⟩
  have n0:W1.heap[N]?=some (.cells #[.pointer (some ⟨p.bg,0,none⟩),.int .i64 tx] 117 (0,0)):=by rw [hW1,hN];exact heap_alloc_new w _
  have HB1:Hid (Below w.heap.size w W1):=Lib.hid (by rw [hW1];exact (Below.refl _ w).alloc (Nat.le_refl _) _)
  rw [← hW1,← hN]
  have HM1:=Lib.hid (H.out.below HB1.out)
  have k0:W1.cell? ⟨N,0,none⟩=some (.pointer (some ⟨p.bg,0,none⟩)):=by simp [World.cell?,n0]
  have k1:W1.cell? ⟨N,1,none⟩=some (.int .i64 tx):=by simp [World.cell?,n0]
  have hNl:=cell_lt k0
  have HNW:=Lib.hid hN
  clear hN hW1 n0
  go_wp2_with fail
  refine (tnode_any d _ HM1.out (by have:=HT.out;omega) HHD.out.page HHD.out.ok HHD.out.load HHD.out.at_).mono ?_
  rintro e w4 ⟨q4,c4,s4,rfl,ho4,hm4,hp4,ht4,hn4,hs4⟩
  rw [hn4] at hs4
  have hlf:d.leaf=true:=by rw [HD.out];rfl
  obtain ⟨Ld,hLd⟩:∃ L,L=d.cells.length:=⟨_,rfl⟩
  have hndv:ndV d q4 c4=.agg #[.int .i64 d.page,.bool true,.int .i64 d.first,.slice q4 Ld c4]:=by rw [hLd,← hlf];rfl
  rw [hndv]
  have HND:=Lib.hid hndv
  have HLN:=Lib.hid hLd
  have HO4:=Lib.hid ho4
  have HM4:=Lib.hid hm4
  have HP4:=Lib.hid hp4
  have HT4:=Lib.hid ht4
  have HN4:=Lib.hid hn4
  have HST4:=Lib.hid ((Step.of_below HB1.out).trans hs4)
  have HL4:=Lib.hid (own_step HM1.out hs4 (by decide) (own_later HL.out HB1.out))
  have HK4:Hid (∀ (j:Nat) (t:TypeId) (cs:Array Value),w.heap[j]?=some (.cells cs t (0,0))→FreeM t→t ≠ 42→w4.heap[j]?=some (.cells cs t (0,0))):=Lib.hid (fun j t cs hj hf _=>HM1.out.keep hs4 (met_old hj HB1.out) hf)
  clear ho4 hm4 hp4 ht4 hn4 hs4 hndv hLd hlf k0 k1 hNl
  go_upto_region 4 with fail
  obtain ⟨G,hG⟩:∃ G,G=w4.heap.size:=⟨_,rfl⟩
  obtain ⟨W5,hW5⟩:∃ W,W=w4.alloc (.cells #[.int .i64 d.page,.bool true,.int .i64 d.first,.slice q4 Ld c4] 125):=⟨_,rfl⟩
  have g5:W5.heap[G]?=some (.cells #[.int .i64 d.page,.bool true,.int .i64 d.first,.slice q4 Ld c4] 125 (0,0)):=by rw [hW5,hG];exact heap_alloc_new w4 _
  have HB5:Hid (Below w4.heap.size w4 W5):=Lib.hid (by rw [hW5];exact (Below.refl _ w4).alloc (Nat.le_refl _) _)
  rw [← hW5,← hG]
  have HG:=Lib.hid hG
  have G5:=Lib.hid g5
  obtain ⟨⟨a0,a1,a2,a3⟩,-,hGl⟩:=four_cells g5
  clear hW5 hG g5
  go_wp2_with fail
  rw [← HND.out]
  have HCA:Hid (CelsAt w4 q4 d.cells):=Lib.hid (own_cells HO4.out)
  have HDL:Hid (d.cells.length≤55):=Lib.hid (cells_len HHD.out.ok HHD.out.load)
  refine (down_any d q4 c4 from_ W5 (by have:=HDL.out;omega) HHD.out.ok.sorted (HCA.out.below HB5.out)).mono ?_
  rintro e w6 ⟨rfl,hb6⟩
  rw [HND.out]
  obtain ⟨A,hA⟩:∃ A:Int,A=((d.at_ from_:Nat):Int) - 1:=⟨_,rfl⟩
  obtain ⟨ht,hht⟩:∃ b,b=d.hits from_:=⟨_,rfl⟩
  obtain ⟨st,hst⟩:∃ st,st=d.at_ from_ - if d.hits from_ then 1 else 0:=⟨_,rfl⟩
  have hstA:(ht=true→A=(st:Int))∧(ht=false→wrap64 (A+1)=(st:Int)):=by
    have hle:=nle_le from_ (d.cells.map (·.key))
    rw [List.length_map] at hle
    have hle2:d.at_ from_≤55:=Nat.le_trans hle HDL.out
    refine ⟨fun e=>?_,fun e=>?_⟩
    · have hy:d.hits from_=true:=by rw [← hht,e]
      obtain ⟨cl,-,-,hc3,-⟩:=hit_at HHD.out.ok hy
      rw [hA,hst,hy]
      simp
      omega
    · have hy:d.hits from_=false:=by rw [← hht,e]
      rw [hA,hst,hy]
      simp only [Bool.false_eq_true,if_false]
      unfold wrap64
      omega
  rw [← hA,← hht]
  have HST:=Lib.hid hst
  have HSTA:=Lib.hid hstA
  have HB6:=Lib.hid (chainC HB5.out hb6)
  have G6:=Lib.hid (met_old G5.out hb6)
  obtain ⟨⟨b0,b1,b2,b3⟩,-,hGl6⟩:=four_cells G6.out
  clear hA hht hst hstA hb6 a0 a1 a2 a3 hGl
  go_upto_if 41 with fail
  go_cut [16] (fun v wx=>v=.int .i64 st∧wx=w6)
  case first =>
    have HSTA0:=HSTA
    cases ht
    · have hw:=HSTA0.out.2 rfl
      clear HSTA HSTA0
      go_wp2
      rw [hw]
      go_meet
      exact ⟨rfl,rfl⟩
    · have hw:=HSTA0.out.1 rfl
      subst hw
      go_wp2
      go_meet
      exact ⟨rfl,rfl⟩
  case rest =>
    obtain ⟨rfl,hwc⟩:=hcut
    rw [hwc]
    clear hwc
    obtain ⟨kv,hkv⟩:∃ kv,kv=t.2.drop st:=⟨_,rfl⟩
    have hfk:fromK from_ t.2=kv:=by
      rw [fromK_drop HR.out,hkv,HST.out,HD.out]
      congr 1
      have e:t.nd.cells.map (·.key)=t.2.map (·.1):=by show ((t.2.map fun x=>(⟨x.1,x.2,0⟩:Cel)).map (·.key))=_;rw [List.map_map];rfl
      unfold Nd.at_ Nd.hits
      rw [e]
      by_cases hm:from_∈t.2.map (·.1)
      · rw [if_pos hm,decide_eq_true hm];simp
      · rw [if_neg hm,decide_eq_false hm];simp
    have hcel:∀ (k:Nat) (x:Key × Key),t.2[k]?=some x→d.cells[k]?=some ⟨x.1,x.2,0⟩:=fun k x hx=>by
      rw [HD.out]
      show (t.2.map fun x=>(⟨x.1,x.2,0⟩:Cel))[k]?=_
      rw [List.getElem?_map,hx]
      rfl
    have hLt:Ld=t.2.length:=by rw [HLN.out,HD.out];show (t.2.map fun x=>(⟨x.1,x.2,0⟩:Cel)).length=_;rw [List.length_map]
    have HKV:=Lib.hid hkv
    have HFK:=Lib.hid hfk
    have HCEL:=Lib.hid hcel
    have HLT:=Lib.hid hLt
    have HL55:Hid (Ld≤55):=Lib.hid (by rw [HLN.out];exact HDL.out)
    have HSt:Hid (st≤Ld):=Lib.hid (by
      have hle:=nle_le from_ (d.cells.map (·.key))
      rw [List.length_map] at hle
      have:d.at_ from_≤Ld:=by rw [HLN.out];exact hle
      rw [HST.out]
      omega)
    have HGS:Hid (GatherS p tx cap s W0 B0 w w6 1 q n c l s4):=Lib.hid ⟨own_later HL4.out HB6.out,HM4.out.below HB6.out,HP4.out,by rw [HT4.out];exact Nat.le_refl _,HN4.out,(HS.out.trans HST4.out).trans (Step.of_below HB6.out),by have h1:=HST4.out.upd.size;have h2:=HB6.out.size;omega,fun j t cs hj hf hne=>met_old (HK4.out j t cs hj hf hne) HB6.out⟩
    have HCR:Hid (w6.ownsRow w.heap.size 129 3 (.slice q4 Ld c4) Ld (d.cells.flatMap celV)):=Lib.hid (by have h1:=HO4.out;rw [← HLN.out] at h1;exact own_mono (own_later h1 HB6.out) HB1.out.size)
    clear hkv hfk hcel hLt b0 b1 b2 b3 hGl6
    go_wp2
    go_loopw [4,16] (fun v i wr=>∃ (j m:Nat) (qq:Option Addr) (cc:Nat),v=.slice qq m cc∧i=.int .i64 (st+j:Nat)∧Hid (m=l.length+j∧st+j≤Ld∧(j=0 ∨ ((l.length+j:Nat):Int)≤most)) ∧
        Hid (GatherS p tx cap s W0 B0 w wr 1 qq m cc (l++kv.take j) s4)∧Hid (wr.heap[G]?=some (.cells #[.int .i64 d.page,.bool true,.int .i64 d.first,.slice q4 Ld c4] 125 (0,0))) ∧
        Hid (wr.ownsRow w.heap.size 129 3 (.slice q4 Ld c4) Ld (d.cells.flatMap celV))) (fun _ i _=>Ld - (intOf i).toNat)
    case atStart =>
      refine ⟨0,n,q,c,rfl,rfl,Lib.hid ⟨HN.out,HSt.out,.inl rfl⟩,Lib.hid ?_,G6,HCR⟩
      rw [List.take_zero,List.append_nil]
      exact HGS.out
    case round =>
      obtain ⟨j,m,qq,cc,rfl,rfl,HI,HG1,HGG,HCC⟩:=hrel
      obtain ⟨k,hk⟩:∃ k,k=st+j:=⟨_,rfl⟩
      rw [← hk]
      have HK:=Lib.hid hk
      clear hk
      obtain ⟨⟨b0,b1,b2,b3⟩,-,hGl⟩:=four_cells HGG.out
      by_cases hd:k < Ld
      · have hd1:decide ((k:Int) < (Ld:Int))=true:=decide_eq_true (by omega)
        have hd2:decide (k < Ld)=true:=decide_eq_true hd
        by_cases hm:(m:Int) < most
        · have hm1:decide ((m:Int) < most)=true:=decide_eq_true hm
          have hkt:k < t.2.length:=by rw [← HLT.out];exact hd
          obtain ⟨x,hx⟩:∃ x,x=t.2[k]:=⟨_,rfl⟩
          have hx':t.2[k]?=some x:=by rw [hx];exact List.getElem?_eq_getElem hkt
          have hcx:=HCEL.out k x hx'
          have hkl:k < d.cells.length:=by rw [← HLN.out];exact hd
          have hce:d.cells[k]=⟨x.1,x.2,0⟩:=by rw [List.getElem?_eq_getElem hkl] at hcx;exact Option.some.inj hcx
          obtain ⟨b,o,rfl,e0,e1,-⟩:=(own_cells (by have:=HCC.out;exact this)).cell hkl
          rw [hce] at e0 e1
          have hkvj:kv[j]?=some x:=by rw [HKV.out,List.getElem?_drop,← HK.out];exact hx'
          obtain ⟨xa,hxa⟩:∃ a,a=bstr x.1:=⟨_,rfl⟩
          obtain ⟨xb,hxb⟩:∃ a,a=bstr x.2:=⟨_,rfl⟩
          simp only [← hxa] at e0
          simp only [← hxb] at e1
          have HKVJ:=Lib.hid hkvj
          have HPV:Hid (pairV x=[.string xa,.string xb]):=Lib.hid (by rw [hxa,hxb];rfl)
          have hdi:(k:Int) < (Ld:Int):=by omega
          have hltb:=cell_lt e0
          have hmI:=Lib.hid hm
          have HB1:Hid (Below wr.heap.size wr (wr.alloc (.cells #[.string xa,.string xb] 42)).drew):=Lib.hid ((Below.refl _ wr).alloc (Nat.le_refl _) _).drew
          have HOA:Hid ((wr.alloc (.cells #[.string xa,.string xb] 42)).drew.ownsRow B0 42 2 (.slice qq m cc) m ((l++kv.take j).flatMap pairV)):=Lib.hid (HG1.out.row.alloc _).drew
          have HNW:Hid (∀ (i:Nat) (u:Value),[Value.string xa,.string xb][i]?=some u→(wr.alloc (.cells #[.string xa,.string xb] 42)).drew.cell? ((⟨wr.heap.size,0,none⟩:Addr).add i)=some u):=Lib.hid (fun i u hu=>pair_news wr _ _ i u hu)
          have HBW:Hid (B0≤wr.heap.size):=Lib.hid (by have h1:=HG1.out.size;have h2:=HBB.out.2.1;omega)
          have HMB:Hid (m≤100000):=Lib.hid (by have h1:=HI.out.1;have h2:=HSZ.out;have h3:=HLT.out;have h4:=HI.out.2.1;omega)
          have HGD:Hid ((wr.alloc (.cells #[.string xa,.string xb] 42)).drew.heap[G]?=some (.cells #[.int .i64 d.page,.bool true,.int .i64 d.first,.slice (some ⟨b,o,none⟩) Ld c4] 125 (0,0))):=Lib.hid (met_old HGG.out HB1.out)
          have HKP:Hid (IntKind.i64.wrap ((k:Int)+1)=((k+1:Nat):Int)):=Lib.hid (by rw [IntKind.wrap_i64];have:=HL55.out;omega)
          have HKP2:Hid (wrap64 ((k:Int)+1)=((k+1:Nat):Int)):=Lib.hid (by have:=HL55.out;unfold wrap64;omega)
          obtain ⟨i0,hi,hz0,hz1,hz2⟩:=info_parts infoPair
          have fin:∀ (gg cp:Nat) (w7:World),Hid (w7.ownsRow B0 42 2 (.slice (some ⟨gg,0,none⟩) (m+1) cp) (m+1) ((l++kv.take j).flatMap pairV++[Value.string xa,.string xb]))→Hid ((wr.alloc (.cells #[.string xa,.string xb] 42)).drew.grownBy w7 (Value.slice qq m cc).ownBlock) →
              ∃ (j' m':Nat) (qq':Option Addr) (cc':Nat),Value.slice (some ⟨gg,0,none⟩) (m+1) cp=.slice qq' m' cc'∧Value.int .i64 ((k+1:Nat):Int)=.int .i64 (st+j':Nat)∧Hid (m'=l.length+j'∧st+j'≤Ld∧(j'=0 ∨ ((l.length+j':Nat):Int)≤most)) ∧
                Hid (GatherS p tx cap s W0 B0 w w7 1 qq' m' cc' (l++kv.take j') s4)∧Hid (w7.heap[G]?=some (.cells #[.int .i64 d.page,.bool true,.int .i64 d.first,.slice (some ⟨b,o,none⟩) Ld c4] 125 (0,0))) ∧
                Hid (w7.ownsRow w.heap.size 129 3 (.slice (some ⟨b,o,none⟩) Ld c4) Ld (d.cells.flatMap celV)):=by
            intro gg cp w7 HO7 HG7
            have hu7:=Upd.of_grown HG7.out
            have hsz7:=hu7.size
            have hB1:=HB1.out.size
            have hty:∀ i,some i=(Value.slice qq m cc).ownBlock→Typed (wr.alloc (.cells #[.string xa,.string xb] 42)).drew i 42∧B0≤i:=fun i hi'=>⟨own_ty HOA.out hi',own_ge HOA.out hi'⟩
            refine ⟨j+1,m+1,_,_,rfl,by rw [HK.out];rfl,Lib.hid ⟨by have:=HI.out.1;omega,by have:=HK.out;omega,.inr (by have:=HI.out.1;have:=hmI.out;omega)⟩,Lib.hid ⟨?_,?_,HG1.out.pst,HG1.out.t,HG1.out.N,?_,?_,?_⟩,Lib.hid ?_,Lib.hid ?_⟩
            · rw [List.take_add_one,HKVJ.out,Option.toList_some,← List.append_assoc,List.flatMap_append]
              simp only [List.flatMap_cons,List.flatMap_nil,List.append_nil,HPV.out]
              exact HO7.out
            · exact (HG1.out.tm.below HB1.out).turn hu7 (B:=B0) (by rw [HG1.out.N];exact HBB.out.2.2) (fun i hi'=>⟨(hty i hi').2,42,by decide,(hty i hi').1⟩)
            · exact (HG1.out.step.trans (Step.of_below HB1.out)).more hu7 (fun i hi'=>Nat.le_trans HBB.out.1 (hty i hi').2)
            · have:=HG1.out.size;omega
            · intro i t' cs hi' hf hne
              exact grown_at (met_old (HG1.out.keep i t' cs hi' hf hne) HB1.out) HOA.out HG7.out hne
            · exact grown_at HGD.out HOA.out HG7.out (by decide)
            · exact own_upd (own_later HCC.out HB1.out) hu7 (fun i hi' ht'=>absurd (ht'.one (hty i hi').1) (by decide))
          clear hkt hx hx' hcx hkl hce hkvj hxa hxb hm
          go_wp2
          go_region_law (first
            | (refine step_append_lies _ rfl (.tmp 57) (.tmp 71) 38 rfl B0 42 i0 (.agg #[.string ⟨#[]⟩,.string ⟨#[]⟩]) 2 32 Tryz.underlying38 hi hz0 hz1 hz2 rfl (by decide) (.slice qq m cc) m ((l++kv.take j).flatMap pairV) rfl HOA.out ⟨wr.heap.size,0,none⟩ 1 1 [.string xa,.string xb] (by rfl) rfl HNW.out (by simp [Value.oneCell']) (by omega) (by simp only [maxLen];have:=HMB.out;omega) (by have:=HMB.out;omega) (by have:=HBW.out;simp;omega) (wr.heap.size+1) (by simp) ?_;intro gg cp w7 hown7 hgrow7 hat7 hlt7;have HO7:=Lib.hid hown7;have HG7:=Lib.hid hgrow7;clear hown7 hgrow7 hat7 hlt7))
          all_goals go_wp2
          all_goals (first | rw [HKP.out] | rw [HKP2.out] | skip)
          all_goals go_roundw
          all_goals (first | exact fin _ _ _ HO7 HG7 | (simp only [intOf,Int.toNat_natCast];omega))
        · have hm1:decide ((m:Int) < most)=false:=decide_eq_false hm
          have hmI:=Lib.hid hm
          clear hm
          go_wp2
          go_ret2
          have he:l++kv.take j=upTo most l (fromK from_ t.2):=by
            rw [HFK.out]
            exact upto_full (by have:=hmI.out;have:=HI.out.1;omega) HI.out.2.2
          have hlen:m=(upTo most l (fromK from_ t.2)).length:=by
            rw [← he,List.length_append,List.length_take,HI.out.1]
            have h1:kv.length=t.2.length - st:=by rw [HKV.out,List.length_drop]
            have h2:=HLT.out
            have h3:=HI.out.2.1
            omega
          rw [he] at HG1
          subst hlen
          exact ⟨qq,cc,s4,rfl,HG1.out⟩
      · have hd1:decide ((k:Int) < (Ld:Int))=false:=decide_eq_false (by omega)
        have hd2:decide (k < Ld)=false:=decide_eq_false hd
        go_wp2
        go_ret2
        have h1:kv.length=t.2.length - st:=by rw [HKV.out,List.length_drop]
        have h2:=HLT.out
        have h3:=HI.out.2.1
        have h4:=HK.out
        have he:l++kv.take j=upTo most l (fromK from_ t.2):=by
          rw [HFK.out]
          exact upto_all (by omega) HI.out.2.2
        have hlen:m=(upTo most l (fromK from_ t.2)).length:=by
          rw [← he,List.length_append,List.length_take,HI.out.1]
          omega
        rw [he] at HG1
        subst hlen
        exact ⟨qq,cc,s4,rfl,HG1.out⟩
end Go.Proofs.YtheeomjfpnijbaaGreatDoor
end
section
namespace Go.Proofs.YtheeomjfpnijbaaGreatDoor
open Go.RowKit Go.Shelf
theorem upTo_upTo (most:Int) (l A B:List (Key × Key)):upTo most (upTo most l A) B=upTo most l (A++B):=by
  unfold upTo
  rw [List.append_assoc,List.take_append,List.length_append,List.length_take]
  congr 2
  congr 1
  omega
theorem upTo_nil (most:Int) (l:List (Key × Key)):upTo most l []=l:=by unfold upTo;simp
theorem upTo_stop {most:Int} {l A:List (Key × Key)} (h:most≤((upTo most l A).length:Int)) (B:List (Key × Key)):upTo most l (A++B)=upTo most l A:=by
  unfold upTo at *
  rw [List.length_append,List.length_take] at h
  rw [List.take_append_of_le_length (by omega)]
theorem OrdL.each {α:Type} {R:α→Key→Option Key→Prop}:∀ (cs:List (Key × α)) (c:α) (lo:Key) (hi:Option Key),OrdL R c cs lo hi→∀ y∈kids c cs,∃ lo' hi',R y lo' hi':=by
  intro cs
  induction cs with
  | nil =>
    intro c lo hi h y hy
    have e:y=c:=by simpa [kids] using hy
    rw [e]
    exact ⟨lo,hi,h⟩
  | cons x cs ih =>
    intro c lo hi h y hy
    obtain ⟨a,b,d,e⟩:=h
    have hk:kids c (x :: cs)=c :: kids x.2 cs:=rfl
    rw [hk] at hy
    rcases List.mem_cons.1 hy with rfl | hy
    · exact ⟨_,_,d⟩
    · exact ih _ _ _ e y hy
theorem Tr.kid_get {n:Nat} (t:Tr (n+1)) {i:Nat} {y:Tr n} (h:t.kids[i]?=some y):t.nd.kid i=y.pg:=by
  unfold Tr.kids Proofs.YtheeomjfpnijbaaGreatDoor.kids at h
  unfold Nd.kid
  cases i with
  | zero=>simp at h;rw [← h];rfl
  | succ m =>
    rw [List.getElem?_cons_succ,List.getElem?_map] at h
    show (((t.2.2.map fun x=>(⟨x.1,[],x.2.pg⟩:Cel))[m]?.map (·.child)).getD 0)=_
    rw [List.getElem?_map]
    cases hx:t.2.2[m]? with
    | none=>rw [hx] at h;cases h
    | some x=>rw [hx] at h;have h4:x.2=y:=Option.some.inj h;rw [← h4];rfl
theorem Tr.kids_len {n:Nat} (t:Tr (n+1)):t.kids.length=t.nd.cells.length+1:=by
  show (t.2.1 :: t.2.2.map (·.2)).length=(t.2.2.map _).length+1
  simp
theorem Tr.nds_len {n:Nat} (t:Tr (n+1)):t.nds.length=1+(t.kids.map fun y=>y.nds.length).sum:=by
  rw [t.nds_eq,List.length_cons,List.length_flatMap,Nat.add_comm]
theorem sum_split (l:List Nat) (a j:Nat):((l.drop a).take j).sum≤l.sum:=by
  have h1:l.sum=(l.take a).sum+(l.drop a).sum:=by rw [← List.sum_append,List.take_append_drop]
  have h2:(l.drop a).sum=((l.drop a).take j).sum+((l.drop a).drop j).sum:=by rw [← List.sum_append,List.take_append_drop]
  omega
theorem fromK_len (from_:Key) {n:Nat}:∀ l:List (Tr n),((l.map fun y=>fromK from_ y.flat).flatten).length≤(l.map fun y=>y.flat.length).sum:=by
  intro l
  induction l with
  | nil=>simp
  | cons y l ih =>
    have h:(fromK from_ y.flat).length≤y.flat.length:=List.length_filter_le ..
    simp only [List.map_cons,List.flatten_cons,List.length_append,List.sum_cons]
    omega
def GatherAt (n:Nat):Prop:=∀ (p:Par) (tx cap:Nat) (s:ASt) (t:Tr n) (lo:Key) (hi:Option Key) (from_:Key) (most:Int) (l:List (Key × Key)) (q:Option Addr) (m c:Nat) (W0:World) (B0:Nat) (w:World),TM p tx cap w s→s.t+t.nds.length≤700000→(∀ d∈t.nds,Holds p.pages (pst s).F d)→t.Ord lo hi →
    m=l.length→l.length+t.flat.length≤100000→w.ownsRow B0 42 2 (.slice q m c) m (l.flatMap pairV)→Step p s.N W0 s.N w→W0.heap.size≤B0→B0≤w.heap.size→s.N.B≤B0 →
    Calls Tryz.prog 43 #[treeV p tx,.int .i64 t.pg,.int .i64 ((n+1:Nat):Int),.string (bstr from_),.slice q m c,.int .i64 most] w (GatherQ p tx cap s W0 B0 w t.nds.length (upTo most l (fromK from_ t.flat)))
theorem gather_zero:GatherAt 0:=fun p tx cap s t lo hi from_ most l q m c W0 B0 w h ht hh ho hm hsz hl hs hB hB2 hN =>
  gather_leaf t from_ most l q m c W0 B0 w h (by omega) (hh _ t.nd_mem) ho.1 hm hsz hl hs hB hB2 hN
set_option maxRecDepth 20000 in
set_option maxHeartbeats 8000000 in
theorem gather_inner {n:Nat} (ih:GatherAt n) (hn20:n≤19):GatherAt (n+1):=by
  intro p tx cap s t lo hi from_ most l q m c W0 B0 w h ht hh ho hn hsz hl hs hB hB2 hN
  have HIH:Hid (GatherAt n):=Lib.hid ih
  have H:=Lib.hid h
  have HT:=Lib.hid ht
  have HTN:Hid (1≤t.nds.length):=Lib.hid (by rw [t.nds_len];omega)
  have HH:=Lib.hid hh
  have HR:=Lib.hid ho
  have HN:=Lib.hid hn
  have HSZ:=Lib.hid hsz
  have HL:=Lib.hid hl
  have HS:=Lib.hid hs
  have HBB:=Lib.hid (And.intro hB (And.intro hB2 hN))
  obtain ⟨d,hd⟩:∃ d,d=t.nd:=⟨_,rfl⟩
  have hpg:t.pg=d.page:=by rw [hd,t.nd_page]
  rw [hpg]
  have HD:=Lib.hid hd
  have HHD:Hid (Holds p.pages (pst s).F d):=Lib.hid (by rw [hd];exact hh _ t.nd_mem)
  obtain ⟨LV,hLV⟩:∃ L,L=n+1+1:=⟨_,rfl⟩
  rw [← hLV]
  have hl1:((LV:Int) == 1)=false:=by rw [beq_eq_false_iff_ne];omega
  have HLV:Hid (wrap64 ((LV:Int) - 1)=((n+1:Nat):Int)):=Lib.hid (by unfold wrap64;omega)
  have HLV2:Hid (IntKind.i64.wrap ((LV:Int) - 1)=((n+1:Nat):Int)):=Lib.hid (by rw [IntKind.wrap_i64];omega)
  clear hLV ih
  unfold treeV
  clear h ht hh ho hn hsz hl hs hB hB2 hN hd hpg hn20
  go_enter Tryz.func43,Tryz.ntmps43
  go_upto_region 1 with fail
  obtain ⟨N,hN⟩:∃ N,N=w.heap.size:=⟨_,rfl⟩
  obtain ⟨W1,hW1⟩:∃ W1,W1=w.alloc (.cells #[.pointer (some ⟨p.bg,0,none⟩),.int .i64 tx] 117):=⟨_,rfl⟩
  have n0:W1.heap[N]?=some (.cells #[.pointer (some ⟨p.bg,0,none⟩),.int .i64 tx] 117 (0,0)):=by rw [hW1,hN];exact heap_alloc_new w _
  have HB1:Hid (Below w.heap.size w W1):=Lib.hid (by rw [hW1];exact (Below.refl _ w).alloc (Nat.le_refl _) _)
  rw [← hW1,← hN]
  have HM1:=Lib.hid (H.out.below HB1.out)
  have k0:W1.cell? ⟨N,0,none⟩=some (.pointer (some ⟨p.bg,0,none⟩)):=by simp [World.cell?,n0]
  have k1:W1.cell? ⟨N,1,none⟩=some (.int .i64 tx):=by simp [World.cell?,n0]
  have hNl:=cell_lt k0
  have HNW:=Lib.hid hN
  have N0:=Lib.hid n0
  clear hN hW1 n0
  go_wp2_with fail
  refine (tnode_any d _ HM1.out (by have:=HT.out;have:=HTN.out;omega) HHD.out.page HHD.out.ok HHD.out.load HHD.out.at_).mono ?_
  rintro e w4 ⟨q4,c4,s4,rfl,ho4,hm4,hp4,ht4,hn4,hs4⟩
  rw [hn4] at hs4
  have hlf:d.leaf=false:=by rw [HD.out];rfl
  obtain ⟨Ld,hLd⟩:∃ L,L=d.cells.length:=⟨_,rfl⟩
  have hndv:ndV d q4 c4=.agg #[.int .i64 d.page,.bool false,.int .i64 d.first,.slice q4 Ld c4]:=by rw [hLd,← hlf];rfl
  rw [hndv]
  have HND:=Lib.hid hndv
  have HLN:=Lib.hid hLd
  have HO4:=Lib.hid ho4
  have HM4:=Lib.hid hm4
  have HP4:=Lib.hid hp4
  have HT4:=Lib.hid ht4
  have HN4:=Lib.hid hn4
  have HST4:=Lib.hid ((Step.of_below HB1.out).trans hs4)
  have HBX4:=Lib.hid (HM1.out.keep hs4 N0.out (by decide))
  have HL4:=Lib.hid (own_step HM1.out hs4 (by decide) (own_later HL.out HB1.out))
  have HK4:Hid (∀ (j:Nat) (t:TypeId) (cs:Array Value),w.heap[j]?=some (.cells cs t (0,0))→FreeM t→t ≠ 42→w4.heap[j]?=some (.cells cs t (0,0))):=Lib.hid (fun j t cs hj hf _=>HM1.out.keep hs4 (met_old hj HB1.out) hf)
  clear ho4 hm4 hp4 ht4 hn4 hs4 hndv hLd hlf k0 k1 hNl
  go_upto_region 4 with fail
  obtain ⟨G,hG⟩:∃ G,G=w4.heap.size:=⟨_,rfl⟩
  obtain ⟨W5,hW5⟩:∃ W,W=w4.alloc (.cells #[.int .i64 d.page,.bool false,.int .i64 d.first,.slice q4 Ld c4] 125):=⟨_,rfl⟩
  have g5:W5.heap[G]?=some (.cells #[.int .i64 d.page,.bool false,.int .i64 d.first,.slice q4 Ld c4] 125 (0,0)):=by rw [hW5,hG];exact heap_alloc_new w4 _
  have HB5:Hid (Below w4.heap.size w4 W5):=Lib.hid (by rw [hW5];exact (Below.refl _ w4).alloc (Nat.le_refl _) _)
  rw [← hW5,← hG]
  have HG:=Lib.hid hG
  have G5:=Lib.hid g5
  obtain ⟨⟨a0,a1,a2,a3⟩,-,hGl⟩:=four_cells g5
  clear hW5 hG g5
  go_wp2_with fail
  rw [← HND.out]
  have HCA:Hid (CelsAt w4 q4 d.cells):=Lib.hid (own_cells HO4.out)
  have HDL:Hid (d.cells.length≤55):=Lib.hid (cells_len HHD.out.ok HHD.out.load)
  refine (down_any d q4 c4 from_ W5 (by have:=HDL.out;omega) HHD.out.ok.sorted (HCA.out.below HB5.out)).mono ?_
  rintro e w6 ⟨rfl,hb6⟩
  rw [HND.out]
  obtain ⟨A,hA⟩:∃ A:Int,A=((d.at_ from_:Nat):Int) - 1:=⟨_,rfl⟩
  rw [← hA]
  have HA:=Lib.hid hA
  have HB6:=Lib.hid (chainC HB5.out hb6)
  have G6:=Lib.hid (met_old G5.out hb6)
  obtain ⟨⟨b0,b1,b2,b3⟩,-,hGl6⟩:=four_cells G6.out
  obtain ⟨ats,hats⟩:∃ a,a=d.at_ from_:=⟨_,rfl⟩
  have HATS:=Lib.hid hats
  have HAT:Hid (ats≤Ld):=Lib.hid (by
    have hle:=nle_le from_ (d.cells.map (·.key))
    rw [List.length_map] at hle
    rw [hats,HLN.out]
    exact hle)
  have HL55:Hid (Ld≤55):=Lib.hid (by rw [HLN.out];exact HDL.out)
  have HGS:Hid (GatherS p tx cap s W0 B0 w w6 1 q m c l s4):=Lib.hid ⟨own_later HL4.out HB6.out,HM4.out.below HB6.out,HP4.out,by rw [HT4.out];exact Nat.le_refl _,HN4.out,(HS.out.trans HST4.out).trans (Step.of_below HB6.out),by have h1:=HST4.out.upd.size;have h2:=HB6.out.size;omega,fun j t cs hj hf hne=>met_old (HK4.out j t cs hj hf hne) HB6.out⟩
  have HCR:Hid (w6.ownsRow w.heap.size 129 3 (.slice q4 Ld c4) Ld (d.cells.flatMap celV)):=Lib.hid (by have h1:=HO4.out;rw [← HLN.out] at h1;exact own_mono (own_later h1 HB6.out) HB1.out.size)
  have HBX:Hid (w6.heap[N]?=some (.cells #[.pointer (some ⟨p.bg,0,none⟩),.int .i64 tx] 117 (0,0))):=Lib.hid (met_old HBX4.out HB6.out)
  clear hA hats hb6 a0 a1 a2 a3 hGl
  -- what has been found behind some children
  obtain ⟨F,hF⟩:∃ F:Nat→List (Key × Key),F=fun j=>(((t.kids.drop ats).take j).map fun y=>fromK from_ y.flat).flatten:=⟨_,rfl⟩
  obtain ⟨C,hC⟩:∃ C:Nat→Nat,C=fun j=>1+(((t.kids.drop ats).take j).map fun y=>y.nds.length).sum:=⟨_,rfl⟩
  have hkl:t.kids.length=Ld+1:=by rw [t.kids_len,HLN.out,HD.out]
  have hF0:F 0=[]:=by rw [hF];simp
  have hC0:C 0=1:=by rw [hC];simp
  have hCle:∀ j,C j≤t.nds.length:=fun j=>by
    rw [hC,t.nds_len]
    have:=sum_split (t.kids.map fun y=>y.nds.length) ats j
    rw [← List.map_drop,← List.map_take] at this
    exact Nat.add_le_add_left this 1
  have hFend:∀ j,ats+j=Ld+1→F j=fromK from_ t.flat:=fun j hj=>by
    rw [Tr.from_kids from_ HR.out,← HD.out,← HATS.out,hF]
    show ((((t.kids.drop ats).take j).map fun y=>fromK from_ y.flat).flatten)=_
    rw [List.take_of_length_le (by rw [List.length_drop];omega)]
  have hFpre:∀ j,∃ B,fromK from_ t.flat=F j++B:=fun j=>by
    rw [Tr.from_kids from_ HR.out,← HD.out,← HATS.out,hF]
    refine ⟨(((t.kids.drop ats).drop j).map fun y=>fromK from_ y.flat).flatten,?_⟩
    rw [← List.flatten_append,← List.map_append,List.take_append_drop]
  have hstep:∀ j,ats+j < Ld+1→∃ y,t.kids[ats+j]?=some y∧F (j+1)=F j++fromK from_ y.flat∧C (j+1)=C j+y.nds.length∧(F j).length+y.flat.length≤t.flat.length:=fun j hj=>by
    obtain ⟨y,hy⟩:∃ y,t.kids[ats+j]?=some y:=⟨_,List.getElem?_eq_getElem (by omega)⟩
    have hdj:(t.kids.drop ats)[j]?=some y:=by rw [List.getElem?_drop];exact hy
    refine ⟨y,hy,?_,?_,?_⟩
    rotate_left 2
    · rw [hF]
      have h1:=sum_split (t.kids.map fun y=>y.flat.length) ats (j+1)
      rw [← List.map_drop,← List.map_take,List.take_add_one,hdj,List.map_append,List.sum_append] at h1
      have h2:t.flat.length=(t.kids.map fun y=>y.flat.length).sum:=by rw [t.flat_eq,List.length_flatMap]
      have h3:=fromK_len from_ ((t.kids.drop ats).take j)
      simp at h1
      show ((((t.kids.drop ats).take j).map fun y=>fromK from_ y.flat).flatten).length+_≤_
      simp at h3
      simp at h2 ⊢
      omega
    · rw [hF]
      show ((((t.kids.drop ats).take (j+1)).map fun y=>fromK from_ y.flat).flatten)=(((t.kids.drop ats).take j).map fun y=>fromK from_ y.flat).flatten++_
      rw [List.take_add_one,hdj]
      simp
    · rw [hC]
      show 1+(((t.kids.drop ats).take (j+1)).map fun y=>y.nds.length).sum=1+(((t.kids.drop ats).take j).map fun y=>y.nds.length).sum+_
      rw [List.take_add_one,hdj]
      simp
      omega
  have HF0:=Lib.hid hF0
  have HC0:=Lib.hid hC0
  have HCL:=Lib.hid hCle
  have HFE:=Lib.hid hFend
  have HFP:=Lib.hid hFpre
  have HST:=Lib.hid hstep
  have HFS:Hid (∀ j,(l++F j).length≤100000):=Lib.hid (fun j=>by
    obtain ⟨B,hB⟩:=hFpre j
    have h1:=congrArg List.length hB
    have h2:(fromK from_ t.flat).length≤t.flat.length:=List.length_filter_le ..
    have h3:=HSZ.out
    rw [List.length_append] at h1 ⊢
    omega)
  clear hF hC hkl hF0 hC0 hCle hFend hFpre hstep
  have hA0:A=((ats+0:Nat):Int) - 1:=by rw [HA.out,HATS.out];rfl
  have HA0:=Lib.hid hA0
  clear hA0
  go_wp2
  clear b0 b1 b2 b3 hGl6
  go_loopw [4,15,16] (fun v ee i wr=>∃ (j m1:Nat) (qq:Option Addr) (cc:Nat) (I:Int) (s5:ASt),v=.slice qq m1 cc∧ee=.int .i64 0∧i=.int .i64 I∧Hid (I=((ats+j:Nat):Int) - 1∧m1=(upTo most l (F j)).length∧ats+j≤Ld+1) ∧
      Hid (GatherS p tx cap s W0 B0 w wr (C j) qq m1 cc (upTo most l (F j)) s5)∧Hid (wr.heap[G]?=some (.cells #[.int .i64 d.page,.bool false,.int .i64 d.first,.slice q4 Ld c4] 125 (0,0))) ∧
      Hid (wr.ownsRow w.heap.size 129 3 (.slice q4 Ld c4) Ld (d.cells.flatMap celV))∧Hid (wr.heap[N]?=some (.cells #[.pointer (some ⟨p.bg,0,none⟩),.int .i64 tx] 117 (0,0)))) (fun _ _ i _=>((Ld:Int) - intOf i).toNat)
  case atStart =>
    refine ⟨0,m,q,c,A,s4,rfl,rfl,rfl,Lib.hid ⟨HA0.out,by rw [HF0.out,upTo_nil];exact HN.out,by have:=HAT.out;omega⟩,Lib.hid ?_,G6,HCR,HBX⟩
    rw [HF0.out,HC0.out,upTo_nil]
    exact HGS.out
  case round =>
    obtain ⟨j,m1,qq,cc,I,s5,rfl,rfl,rfl,HI,HG1,HGG,HCC,HNN⟩:=hrel
    obtain ⟨⟨b0,b1,b2,b3⟩,-,hGl⟩:=four_cells HGG.out
    have k0:wr.cell? ⟨N,0,none⟩=some (.pointer (some ⟨p.bg,0,none⟩)):=by simp [World.cell?,HNN.out]
    have k1:wr.cell? ⟨N,1,none⟩=some (.int .i64 tx):=by simp [World.cell?,HNN.out]
    have hNl:=cell_lt k0
    by_cases hd:I < (Ld:Int)
    · have hd1:decide (I < (Ld:Int))=true:=decide_eq_true hd
      by_cases hm:(m1:Int) < most
      · have hm1:decide ((m1:Int) < most)=true:=decide_eq_true hm
        have HDI:=Lib.hid hd
        have HMI:=Lib.hid hm
        clear hd hm
        obtain ⟨y,hy1,hy2,hy3,hy4⟩:=HST.out j (by have:=HDI.out;have:=HI.out.1;omega)
        have hym:y∈t.kids:=List.mem_of_getElem? hy1
        obtain ⟨lo',hi',hyo⟩:=OrdL.each (R:=Tr.Ord (n:=n)) t.2.2 t.2.1 lo hi HR.out y hym
        have hkid:d.kid (ats+j)=y.pg:=by rw [HD.out];exact t.kid_get hy1
        have hyn:∀ x∈y.nds,Holds p.pages (pst s).F x:=fun x hx=>HH.out x (by rw [t.nds_eq];exact List.mem_cons_of_mem _ (List.mem_flatMap.2 ⟨y,hym,hx⟩))
        have HI0:=HI
        obtain ⟨hI,hm1l,hjl⟩:=HI.out
        have hlen:(upTo most l (F j)).length≤l.length+(F j).length:=by unfold upTo;rw [List.length_append,List.length_take];omega
        have CH:Hid (∀ W,Below wr.heap.size wr W→Calls Tryz.prog 87 #[.agg #[.int .i64 d.page,.bool false,.int .i64 d.first,.slice q4 Ld c4],.int .i64 I] W fun e w'=>e=.returned (.int .i64 (y.pg:Nat))∧Below W.heap.size W w'):=Lib.hid (fun W hW=>by
          rw [← HND.out,hI,← hkid]
          exact child_any d q4 c4 (ats+j) W (by rw [← HLN.out];have:=HDI.out;omega) (by have:=HDL.out;omega) ((own_cells (by have:=HCC.out;exact this)).below hW))
        have GA:Hid (∀ W,Below wr.heap.size wr W→Calls Tryz.prog 43 #[.agg #[.pointer (some ⟨p.bg,0,none⟩),.int .i64 tx],.int .i64 (y.pg:Nat),.int .i64 ((n+1:Nat):Int),.string (bstr from_),.slice qq m1 cc,.int .i64 most] W (GatherQ p tx cap s5 W0 B0 W y.nds.length (upTo most (upTo most l (F j)) (fromK from_ y.flat)))):=Lib.hid (fun W hW=>by
          have hg:=HG1.out
          refine HIH.out p tx cap s5 y lo' hi' from_ most (upTo most l (F j)) qq m1 cc W0 B0 W (hg.tm.below hW) ?_ (by rw [hg.pst];exact hyn) hyo hm1l ?_ (own_later hg.row hW) (by rw [hg.N];exact hg.step.trans (Step.of_below hW)) HBB.out.1 ?_ (by rw [hg.N];exact HBB.out.2.2)
          · have h1:=hg.t;have h2:=HCL.out (j+1);have h3:=HT.out;omega
          · have h1:=HSZ.out;omega
          · have h1:=hg.size;have h2:=hW.size;have h3:=HBB.out.2.1;omega)
        have S0:=Lib.hid (boxes8 HNN.out HGG.out)
        have HT0:Hid (Below wr.heap.size wr wr.drew):=Lib.hid (below_drewN' wr 1)
        have HY:=Lib.hid (And.intro hy2 hy3)
        clear hy1 hy2 hy3 hy4 hym hyo hkid hyn hI hm1l hjl hlen
        go_wp2_with fail
        go_region_held3 (fun w'=>w'.cell? ⟨N,0,none⟩=some (.pointer (some ⟨p.bg,0,none⟩))∧w'.cell? ⟨N,1,none⟩=some (.int .i64 tx)∧w'.cell? ⟨G,0,none⟩=some (.int .i64 d.page)∧w'.cell? ⟨G,1,none⟩=some (.bool false)∧w'.cell? ⟨G,2,none⟩=some (.int .i64 d.first)∧w'.cell? ⟨G,3,none⟩=some (.slice q4 Ld c4))
          (first | exact S0.out | exact S1.out | exact S2.out)
          (first
            | (go_at_call 87;(with_reducible refine (CH.out _ ?_).mono ?_);(first | exact HT0.out);rintro e w5 ⟨rfl,hb5⟩;have HB5:=Lib.hid (chainC HT0.out hb5);have S1:=Lib.hid (boxes8 (met_old HNN.out HB5.out) (met_old HGG.out HB5.out));clear hb5)
            | (go_at_call 43;(first | rw [HLV2.out] | rw [HLV.out] | skip);(with_reducible refine (GA.out _ ?_).mono ?_);(first | exact HB5.out);rintro e w6 ⟨q6,c6,s6,rfl,hg6⟩;have HG6:=Lib.hid hg6;have S2:=Lib.hid (boxes8 (hg6.keep _ _ _ (met_old HNN.out HB5.out) (by decide) (by decide)) (hg6.keep _ _ _ (met_old HGG.out HB5.out) (by decide) (by decide)));clear hg6))
        have hw:wrap64 (I+1)=I+1:=by have h1:=HI0.out.1;have h2:=HI0.out.2.2;have h3:=HL55.out;unfold wrap64;omega
        have HW:=Lib.hid hw
        clear hw b0 b1 b2 b3 hGl k0 k1 hNl
        go_wp2
        (first | rw [HW.out] | skip)
        go_roundw
        case rel =>
          have hg:=HG6.out
          have hg1:=HG1.out
          have heq:upTo most (upTo most l (F j)) (fromK from_ y.flat)=upTo most l (F (j+1)):=by rw [upTo_upTo,HY.out.1]
          refine ⟨j+1,_,q6,c6,I+1,s6,rfl,rfl,rfl,Lib.hid ⟨by have:=HI0.out.1;omega,by rw [heq],by have h1:=HI0.out.1;have h2:=HDI.out;omega⟩,Lib.hid ⟨?_,hg.tm,hg.pst.trans hg1.pst,?_,hg.N.trans hg1.N,?_,?_,?_⟩,Lib.hid ?_,Lib.hid ?_,Lib.hid ?_⟩
          · rw [← heq];exact hg.row
          · have h1:=hg.t;have h2:=hg1.t;have h3:=HY.out.2;omega
          · have:=hg.step;rw [hg1.N] at this;exact this
          · have h1:=hg.size;have h2:=HB5.out.size;have h3:=hg1.size;omega
          · exact fun i t' cs hi hf hne=>hg.keep i t' cs (met_old (hg1.keep i t' cs hi hf hne) HB5.out) hf hne
          · exact hg.keep _ _ _ (met_old HGG.out HB5.out) (by decide) (by decide)
          · have h1:=own_later HCC.out HB5.out
            refine ⟨h1.1,?_⟩
            rcases h1.2 with hn | ⟨g,cp,cur,e,hb,hcur,rest⟩
            · exact .inl hn
            · exact .inr ⟨g,cp,cur,e,hb,hg.keep _ _ _ hcur (by decide) (by decide),rest⟩
          · exact hg.keep _ _ _ (met_old HNN.out HB5.out) (by decide) (by decide)
        case measure=>simp only [intOf];have:=HDI.out;omega
      · have hm1:decide ((m1:Int) < most)=false:=decide_eq_false hm
        have hmI:=Lib.hid hm
        clear hm
        go_wp2
        go_ret2
        obtain ⟨B,hB⟩:=HFP.out j
        have he:upTo most l (F j)=upTo most l (fromK from_ t.flat):=by
          rw [hB]
          exact (upTo_stop (by have:=hmI.out;have:=HI.out.2.1;omega) B).symm
        have hlen:=HI.out.2.1
        rw [he] at HG1 hlen
        subst hlen
        have hg:=HG1.out
        exact ⟨qq,cc,s5,rfl,⟨hg.row,hg.tm,hg.pst,by have:=hg.t;have:=HCL.out j;omega,hg.N,hg.step,hg.size,hg.keep⟩⟩
    · have hd1:decide (I < (Ld:Int))=false:=decide_eq_false hd
      have hdI:=Lib.hid hd
      clear hd
      go_wp2
      go_ret2
      have he:upTo most l (F j)=upTo most l (fromK from_ t.flat):=by
        rw [HFE.out j (by have:=hdI.out;have:=HI.out.1;have:=HI.out.2.2;omega)]
      have hlen:=HI.out.2.1
      rw [he] at HG1 hlen
      subst hlen
      have hg:=HG1.out
      exact ⟨qq,cc,s5,rfl,⟨hg.row,hg.tm,hg.pst,by have:=hg.t;have:=HCL.out j;omega,hg.N,hg.step,hg.size,hg.keep⟩⟩
end Go.Proofs.YtheeomjfpnijbaaGreatDoor
end
section
namespace Go.Proofs.YtheeomjfpnijbaaGreatDoor
open Go.RowKit Go.Shelf
theorem gather_all:∀ n:Nat,n≤20→GatherAt n
  | 0,_=>gather_zero
  | n+1,h=>gather_inner (gather_all n (by omega)) (by omega)
def RangeQ (p:Par) (tx cap:Nat) (s:ASt) (w:World) (k:Nat) (l:List (Key × Key)) (e:Ending) (w':World):Prop :=
  ∃ q c s',e=.returned (.tuple #[.slice q l.length c,.int .i64 0])∧w'.ownsRow w.heap.size 42 2 (.slice q l.length c) l.length (l.flatMap pairV)∧TM p tx cap w' s'∧pst s'=pst s∧s'.t≤s.t+1+k∧s'.N=s.N∧Step p s.N w s'.N w'
set_option maxRecDepth 20000 in
set_option maxHeartbeats 8000000 in
theorem trange_any {p:Par} {tx cap:Nat} {s:ASt} {n:Nat} (t:Tr n) (from_:Key) (most:Int) (z:Met) (w:World) (h:TM p tx cap w s) (ht:s.t+1+t.nds.length≤700000) (hz:(pst s).F 0=pad z.load) (ho:MetOk p.pages z) (hr:z.root=t.pg) (hl:z.levels=n+1) (hh:∀ d∈t.nds,Holds p.pages (pst s).F d) (hord:t.Ord [] none) (hsz:t.flat.length≤100000) :
    Calls Tryz.prog 11 #[.pointer (some ⟨p.bg,0,none⟩),.int .i64 tx,.string (bstr from_),.int .i64 most] w (RangeQ p tx cap s w t.nds.length (upTo most [] (fromK from_ t.flat))):=by
  have H:=Lib.hid h
  have HT:=Lib.hid ht
  have HZ:=Lib.hid hz
  have HO:=Lib.hid ho
  have HR:=Lib.hid hr
  have HL:=Lib.hid hl
  have HH:=Lib.hid hh
  have HOR:=Lib.hid hord
  have HSZ:=Lib.hid hsz
  clear h ht hz ho hr hl hh hord hsz
  go_enter Tryz.func11,Tryz.ntmps11
  go_wp2_with fail
  refine (made_any w H.out).mono ?_
  rintro e w1 ⟨rfl,hb1⟩
  unfold treeV
  have HB1:=Lib.hid hb1
  clear hb1
  go_upto_region 4 with fail
  obtain ⟨W2,hW2⟩:∃ W,W=w1.alloc (.cells #[.pointer (some ⟨p.bg,0,none⟩),.int .i64 tx] 117):=⟨_,rfl⟩
  obtain ⟨N,hN⟩:∃ N,N=w1.heap.size:=⟨_,rfl⟩
  have n2:W2.heap[N]?=some (.cells #[.pointer (some ⟨p.bg,0,none⟩),.int .i64 tx] 117 (0,0)):=by rw [hW2,hN];exact heap_alloc_new w1 _
  have HB2:Hid (Below w.heap.size w W2):=Lib.hid (by rw [hW2];exact HB1.out.alloc HB1.out.size _)
  rw [← hW2,← hN]
  have N2:=Lib.hid n2
  have k0:W2.cell? ⟨N,0,none⟩=some (.pointer (some ⟨p.bg,0,none⟩)):=by simp [World.cell?,n2]
  have k1:W2.cell? ⟨N,1,none⟩=some (.int .i64 tx):=by simp [World.cell?,n2]
  have hlt:=cell_lt k0
  have HM2:=Lib.hid (H.out.below HB2.out)
  clear hW2 hN n2
  go_wp2_with fail
  refine (tmeta_any z W2 HM2.out (by have:=HT.out;omega) HZ.out HO.out).mono ?_
  rintro e w3 ⟨s3,rfl,hm3,hp3,ht3,hn3,hs3⟩
  unfold metV
  rw [hn3] at hs3
  have HN3':=Lib.hid (HM2.out.keep hs3 N2.out (by decide))
  have HM3:=Lib.hid hm3
  have HP3:=Lib.hid hp3
  have HT3:=Lib.hid ht3
  have HN3:=Lib.hid hn3
  have HS3:=Lib.hid ((Step.of_below HB2.out).trans hs3)
  clear hm3 hp3 ht3 hn3 hs3 k0 k1 hlt
  go_upto_region 5 with fail
  obtain ⟨X,hX⟩:∃ X,X=w3.heap.size:=⟨_,rfl⟩
  obtain ⟨W4,hW4⟩:∃ W3,W3=w3.alloc (.cells #[.int .i64 z.root,.int .i64 z.unused,.int .i64 z.free,.int .i64 z.levels] 133):=⟨_,rfl⟩
  have x4:W4.heap[X]?=some (.cells #[.int .i64 z.root,.int .i64 z.unused,.int .i64 z.free,.int .i64 z.levels] 133 (0,0)):=by rw [hW4,hX];exact heap_alloc_new w3 _
  have HB4:Hid (Below w3.heap.size w3 W4):=Lib.hid (by rw [hW4];exact (Below.refl _ w3).alloc (Nat.le_refl _) _)
  rw [← hW4,← hX]
  obtain ⟨⟨a0,a1,a2,a3⟩,-,hXl⟩:=four_cells x4
  have n4:=met_old HN3'.out HB4.out
  have k0:W4.cell? ⟨N,0,none⟩=some (.pointer (some ⟨p.bg,0,none⟩)):=by simp [World.cell?,n4]
  have k1:W4.cell? ⟨N,1,none⟩=some (.int .i64 tx):=by simp [World.cell?,n4]
  have hNl:=cell_lt k0
  have HM4:=Lib.hid (HM3.out.below HB4.out)
  have HS4:=Lib.hid (HS3.out.trans (Step.of_below HB4.out))
  clear hW4 hX x4 n4
  by_cases hm:most≤0
  · have hmd:decide (most≤0)=true:=decide_eq_true hm
    have he:upTo most [] (fromK from_ t.flat)=[]:=by
      unfold upTo
      have:most.toNat=0:=by omega
      rw [this];simp
    have HE:=Lib.hid he
    clear hm he
    go_wp2
    go_ret2
    rw [HE.out]
    refine ⟨none,0,s3,rfl,⟨rfl,.inl ⟨rfl,rfl⟩⟩,HM4.out,HP3.out,by have:=HT3.out;omega,HN3.out,by rw [HN3.out];exact HS4.out⟩
  · have hmd:decide (most≤0)=false:=decide_eq_false hm
    clear hm
    have hroot:(z.root:Int)=((t.pg:Nat):Int):=by rw [HR.out]
    have hlev:(z.levels:Int)=((n+1:Nat):Int):=by rw [HL.out]
    rw [hroot] at a0
    rw [hlev] at a3
    have GA:Hid (Calls Tryz.prog 43 #[.agg #[.pointer (some ⟨p.bg,0,none⟩),.int .i64 tx],.int .i64 t.pg,.int .i64 ((n+1:Nat):Int),.string (bstr from_),.slice none 0 0,.int .i64 most] W4 (GatherQ p tx cap s3 w W4.heap.size W4 t.nds.length (upTo most [] (fromK from_ t.flat)))):=Lib.hid (by
      refine gather_all n (by have:=HO.out.levels;have:=HL.out;omega) p tx cap s3 t [] none from_ most [] none 0 0 w W4.heap.size W4 HM4.out (by have:=HT3.out;have:=HT.out;omega) (by rw [HP3.out];exact HH.out) HOR.out rfl (by have:=HSZ.out;simp;omega) ⟨rfl,.inl ⟨rfl,rfl⟩⟩ (by rw [HN3.out];exact HS4.out) HS4.out.upd.size (Nat.le_refl _) HM4.out.base)
    obtain ⟨LV,hLV⟩:∃ L,L=((n+1:Nat):Int):=⟨_,rfl⟩
    rw [← hLV] at a3 GA
    clear hroot hlev hLV
    go_wp2_with fail
    refine GA.out.mono ?_
    rintro e w6 ⟨q6,c6,s6,rfl,hg6⟩
    have HG6:=Lib.hid hg6
    clear hg6 GA a0 a1 a2 a3 hXl k0 k1 hNl
    go_wp2
    go_ret2
    have hg:=HG6.out
    refine ⟨q6,c6,s6,rfl,own_mono hg.row ?_,hg.tm,hg.pst.trans HP3.out,by have:=hg.t;have:=HT3.out;omega,hg.N.trans HN3.out,?_⟩
    · have:=HS4.out.upd.size;exact this
    · have h1:=hg.step
      rw [HN3.out] at h1
      rw [hg.N,HN3.out]
      exact h1
end Go.Proofs.YtheeomjfpnijbaaGreatDoor
end
