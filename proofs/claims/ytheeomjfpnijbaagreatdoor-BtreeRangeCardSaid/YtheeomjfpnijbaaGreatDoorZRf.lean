/- Lemmas: RefInit, RefOpen6. -/
import Derived.Test.YtheeomjfpnijbaaGreatDoorRefPzP
import Derived.Test.YtheeomjfpnijbaaGreatDoorZRc
set_option linter.unusedVariables false
section
namespace Go.Proofs.YtheeomjfpnijbaaGreatDoor
open Go.RowKit
set_option maxRecDepth 20000
section
variable {N:Nat→Prop} {q:RPar} {s:RSt}
theorem rpages_any (w:World) (h:RMgr N q w s) :
    Calls Tryz.prog 60 #[.pointer (some ⟨q.bn,0,none⟩)] w fun e w'=>e=.returned (.int .i64 q.pages)∧w'=w:=by
  obtain ⟨ga,ca,pr,cr,a,-,-,-⟩:=h.man.facts
  have k3:=cell_of_block5 a 3 rfl
  clear h a
  go_enter Tryz.func60,Tryz.ntmps60
  go_wp2
  go_ret
  exact ⟨rfl,rfl⟩
def InitQ6 (N:Nat→Prop) (q:RPar) (w:World) (w':World):Prop:=∃ s',RMgr N q w' s'∧(∀ m,cd s'.bs m=if m=1 then pad [1] else if m=0 then pad (Met.load ⟨1,2,0,1⟩) else zeros 112)∧s'.rs.length=2∧s'.bs.length≤10∧Upd (RS q w) w w'
set_option maxHeartbeats 2000000 in
theorem rinit_any (w:World) (h:RMgr N q w ⟨0,0,[],[],[]⟩) (hp:2≤q.pages∧q.pages≤4096) (ht:q.tx=1) (hl:20≤q.logs∧q.logs≤4096) :
    Calls Tryz.prog 36 #[.agg #[.pointer (some ⟨q.bn,0,none⟩),.int .i64 q.tx]] w fun e w'=>e=.returned (.int .i64 0)∧InitQ6 N q w w':=by
  have H:=Lib.hid h
  have HP:=Lib.hid (And.intro hp (And.intro ht hl))
  obtain ⟨T,hT⟩:∃ T,T=w.heap.size:=⟨_,rfl⟩
  obtain ⟨W,hW⟩:∃ W,W=w.alloc (.cells #[.pointer (some ⟨q.bn,0,none⟩),.int .i64 q.tx] 33):=⟨_,rfl⟩
  have hTW:W.heap[T]?=some (.cells #[.pointer (some ⟨q.bn,0,none⟩),.int .i64 q.tx] 33 (0,0)):=by rw [hW,hT];exact heap_alloc_new w _
  have hbW:Below w.heap.size w W:=by rw [hW];exact (Below.refl _ w).alloc (Nat.le_refl _) _
  have t0:=cell_of_block5 hTW 0 rfl
  have t1:=cell_of_block5 hTW 1 rfl
  have HTW:=Lib.hid hTW
  have HBW:=Lib.hid hbW
  have HW:=Lib.hid hW
  have HTT:=Lib.hid hT
  have hp2:decide ((q.pages:Int) < 2)=false:=decide_eq_false (by omega)
  have hp2':decide (q.pages < 2)=false:=decide_eq_false (by omega)
  have HR0:Hid (Room6 q ⟨0,0,[],[],[]⟩):=Lib.hid ⟨by omega,hl.2,by show 0+302+160 * 0+176≤q.logs * 112;omega,by show 0≤10000;omega,by show 0≤100;omega,by show 0≤q.tx;omega,by show 0≤40;omega⟩
  clear h hp ht hl hT hW hTW hbW
  go_enter Tryz.func36,Tryz.ntmps36
  go_wp2_with fail
  rw [← HTT.out,← HW.out]
  (with_reducible refine (rpages_any W (H.out.below HBW.out)).mono ?_)
  rintro e w1 ⟨rfl,rfl⟩
  go_wp2_with fail
  have HPZ:Hid (Calls Tryz.prog 83 #[.agg #[.pointer (some ⟨q.bn,0,none⟩),.int .i64 q.tx],.agg #[.int .i64 1,.int .i64 2,.int .i64 0,.int .i64 1]] w1 fun e w'=>e=.returned (.int .i64 0)∧TwQ N q w1 ⟨0,0,[],[],[]⟩ 0 (pad (Met.load ⟨1,2,0,1⟩)) w'):=Lib.hid (rputzero_any 1 2 0 1 w1 (H.out.below HBW.out) (by omega) (by have:=HP.out;omega) HR0.out (by show 0≤30;omega))
  (with_reducible refine (HPZ.out).mono ?_)
  intro e w2 hq
  obtain ⟨rfl,hq⟩:=hq
  unfold TwQ at hq
  obtain ⟨s2,hM2,hP2,hu2⟩:=hq
  have hT2:=(hu2.block T (Array.getElem?_eq_some_iff.1 HTW.out).1 (fun hk=>by rcases hk with ⟨-,hk | hk⟩ | ⟨-,hk | hk | hk⟩ <;> exact absurd (hk.one ⟨_,HTW.out⟩) (by decide))).trans HTW.out
  have HM2:=Lib.hid hM2
  have HP2:=Lib.hid (And.intro hP2 hu2)
  have u0:=cell_of_block5 hT2 0 rfl
  have u1:=cell_of_block5 hT2 1 rfl
  have BL:Hid (Below w2.heap.size w2 (w2.alloc (.cells #[.int .u8 1] 5))):=Lib.hid ((Below.refl _ w2).alloc (Nat.le_refl _) _)
  have hNN:Hid (∀ k,N k→k < w2.heap.size):=Lib.hid hM2.no
  have HR2:Hid (Room6 q s2):=Lib.hid (by
    have h1:=HP.out
    have a:=hP2.bsl
    have b:=hP2.xsl
    have c:=hP2.rsl
    have d:=hP2.ll
    have e:=hP2.last
    have a':s2.bs.length≤0+5:=a
    have b':s2.xs.length≤0+302:=b
    have c':s2.rs.length≤0+1:=c
    have d':s2.ll≤0+1:=d
    exact ⟨by omega,h1.2.2.2,by omega,by omega,by omega,e,by omega⟩)
  have HWR:Hid (Calls Tryz.prog 84 #[.agg #[.pointer (some ⟨q.bn,0,none⟩),.int .i64 q.tx],.int .i64 1,.slice (some ⟨w2.heap.size,0,none⟩) 1 1] (w2.alloc (.cells #[.int .u8 1] 5)) fun e w'=>e=.returned (.int .i64 0)∧TwQ N q (w2.alloc (.cells #[.int .u8 1] 5)) s2 1 (pad [1]) w'):=Lib.hid (rtwrite_any 1 1 1 (some ⟨w2.heap.size,0,none⟩) [1] (w2.alloc (.cells #[.int .u8 1] 5)) (hM2.below BL.out) (by have:=HP.out;omega) (by have:=HP.out;omega) HR2.out rfl (by omega) (Byt.own (own8_new w2 _ [1] rfl rfl (by decide)) hNN.out) (by have a:=hP2.bsl;have a':s2.bs.length≤0+5:=a;omega))
  clear hM2 hP2 hu2 hT2 t0 t1
  go_wp2_with fail
  (with_reducible refine (HWR.out).mono ?_)
  intro e w3 hq
  obtain ⟨rfl,hq⟩:=hq
  unfold TwQ at hq
  obtain ⟨s3,hM3,hP3,hu3⟩:=hq
  have HM3:=Lib.hid hM3
  have HP3:=Lib.hid (And.intro hP3 hu3)
  clear hM3 hP3 hu3
  go_wp2
  go_ret
  have hpp:=HP2.out.1
  have hqq:=HP3.out.1
  have e2:∀ m,cd s2.bs m=if m=0 then pad (Met.load ⟨1,2,0,1⟩) else zeros 112:=fun m=>by
    rw [hpp.pg m]
    rfl
  have r2:s2.rs.length=1:=by
    have:=hpp.one (by
      show cd ([]:List DBuf) 0 ≠ _
      intro e
      have:(zeros 112)[0]?=(pad (Met.load ⟨1,2,0,1⟩))[0]?:=by rw [← e];rfl
      simp [zeros,pad,Met.load,le2] at this)
    exact this
  refine ⟨rfl,s3,HM3.out,fun m=>?_,?_,?_,RS.trans (RS.of HBW.out) (RS.trans HP2.out.2 (RS.trans (RS.of BL.out) HP3.out.2))⟩
  · rw [hqq.pg m,e2]
  · have:=hqq.one (by
      rw [e2]
      intro e
      have:(zeros 112)[0]?=(pad [1])[0]?:=by rw [← e];rfl
      simp [zeros,pad] at this)
    omega
  · have a:=hpp.bsl
    have a':s2.bs.length≤0+5:=a
    have b:=hqq.bsl
    omega
end
end Go.Proofs.YtheeomjfpnijbaaGreatDoor
end
section
namespace Go.Proofs.YtheeomjfpnijbaaGreatDoor
open Go.RowKit
set_option maxRecDepth 20000
def ManZ (w:World) (bn x bl bq pages:Nat) (av:Value):Prop:=w.heap[bn]?=some (.cells #[.pointer (some ⟨x,0,none⟩),.pointer (some ⟨bl,0,none⟩),.pointer (some ⟨bq,0,none⟩),.int .i64 pages,.int .i64 0,av,.slice none 0 0] 205 (0,0))
set_option maxHeartbeats 400000 in
theorem rlosers_none (bn x bl bq pages:Nat) (av:Value) (w:World) (h:ManZ w bn x bl bq pages av) :
    Calls Tryz.prog 183 #[.pointer (some ⟨bn,0,none⟩)] w fun e w'=>e=.returned (.slice none 0 0)∧w'=w:=by
  have k6:=cell_of_block5 h 6 rfl
  clear h
  go_enter Tryz.func183,Tryz.ntmps183
  go_wp2_with fail
  go_loopw [3,18] (fun o i wr=>o=.slice none 0 0∧i=.int .i64 0∧wr=w) (fun _ _ _=>0)
  case atStart=>exact ⟨rfl,rfl,rfl⟩
  case round =>
    obtain ⟨rfl,rfl,rfl⟩:=hrel
    go_wp2
    go_ret
    exact ⟨rfl,rfl⟩
set_option maxHeartbeats 400000 in
theorem rlastz_any (bl x fro sectors:Nat) (w:World) (h:RefL w bl x fro sectors) :
    Calls Tryz.prog 182 #[.pointer (some ⟨bl,0,none⟩)] w fun e w'=>e=.returned (.int .i64 0)∧w'=w:=by
  have k4:=cell_of_block5 h 4 rfl
  clear h
  go_enter Tryz.func182,Tryz.ntmps182
  go_wp2
  go_ret
  exact ⟨rfl,rfl⟩
set_option maxHeartbeats 1000000 in
theorem rrecover_none (bn x bl bq pages fro sectors:Nat) (av:Value) (w:World) (h:ManZ w bn x bl bq pages av) (hl:RefL w bl x fro sectors) :
    Calls Tryz.prog 124 #[.pointer (some ⟨bn,0,none⟩)] w fun e w'=>e=.returned (.int .i64 0)∧w'=w:=by
  have k1:=cell_of_block5 h 1 rfl
  have k6:=cell_of_block5 h 6 rfl
  have H:=Lib.hid h
  have HL:=Lib.hid hl
  clear h hl
  go_enter Tryz.func124,Tryz.ntmps124
  go_wp2_with fail
  go_loopw [18] (fun i wr=>i=.int .i64 0∧wr=w) (fun _ _=>0)
  case atStart=>exact ⟨rfl,rfl⟩
  case round =>
    obtain ⟨rfl,rfl⟩:=hrel
    go_wp2_with fail
    (with_reducible refine (rlastz_any bl x fro sectors _ HL.out).mono ?_)
    rintro e w1 ⟨rfl,rfl⟩
    go_wp2_with fail
    (with_reducible refine (rlosers_none bn x bl bq pages av _ H.out).mono ?_)
    rintro e w2 ⟨rfl,rfl⟩
    go_wp2_with fail
    go_loopw [65] (fun i wi=>i=.int .i64 0∧wi=w2) (fun _ _=>0)
    case atStart=>exact ⟨rfl,rfl⟩
    case round =>
      obtain ⟨rfl,rfl⟩:=hrel
      go_wp2_with fail
      (with_reducible refine (rlastz_any bl x fro sectors _ HL.out).mono ?_)
      rintro e w3 ⟨rfl,rfl⟩
      go_wp2_with fail
      go_ret
      exact ⟨rfl,rfl⟩
set_option maxHeartbeats 1000000 in
theorem refopen6_any (B x n logs pages:Nat) (w:World) (hx:RefZ w B x n) (h1:1≤logs) (h2:1≤pages) (h3:logs+pages≤n) :
    Calls Tryz.prog 80 #[.pointer (some ⟨x,0,none⟩),.int .i64 logs,.int .i64 pages,.int .i64 64] w fun e w'=>∃ bn bl bq:Nat,e=.returned (.tuple #[.pointer (some ⟨bn,0,none⟩),.int .i64 0])∧ManZ w' bn x bl bq pages (.slice none 0 0)∧RefL w' bl x 0 logs∧RefP w' bq x bl logs pages 64∧w.heap.size≤bn∧w.heap.size≤bl∧w.heap.size≤bq∧Below w.heap.size w w':=by
  have HX:=Lib.hid hx
  have HN:=Lib.hid (And.intro h1 (And.intro h2 h3))
  clear hx h1 h2 h3
  go_enter Tryz.func80,Tryz.ntmps80
  go_wp2_with fail
  (with_reducible refine (refopen3_zero B x n logs _ HX.out HN.out.1 (by have:=HN.out;omega)).mono ?_)
  rintro e w1 ⟨bl,rfl,hl,hbl,hb1⟩
  have HL:=Lib.hid hl
  have HB1:=Lib.hid hb1
  clear hl hb1
  go_wp2_with fail
  have HPN:Hid (Calls Tryz.prog 121 #[.pointer (some ⟨x,0,none⟩),.pointer (some ⟨bl,0,none⟩),.int .i64 logs,.int .i64 pages,.int .i64 64] w1 fun e w'=>∃ bp,e=.returned (.tuple #[.pointer (some ⟨bp,0,none⟩),.int .i64 0])∧RefP w' bp x bl logs pages 64∧w1.heap.size≤bp∧Below w1.heap.size w1 w'):=Lib.hid (refpoolnew_zero B x n bl logs pages 64 w1 (HX.out.below HB1.out) HN.out.2.1 HN.out.2.2 (by omega) (by omega))
  (with_reducible refine (HPN.out).mono ?_)
  rintro e w2 ⟨bq,rfl,hp,hbq,hb2⟩
  have HP:=Lib.hid hp
  have HB2:=Lib.hid hb2
  clear hp hb2
  obtain ⟨W,hW⟩:∃ W,W=w2.alloc (.cells #[.pointer (some ⟨x,0,none⟩),.pointer (some ⟨bl,0,none⟩),.pointer (some ⟨bq,0,none⟩),.int .i64 pages,.int .i64 0,.slice none 0 0,.slice none 0 0] 205):=⟨_,rfl⟩
  have hbW:Below w2.heap.size w2 W:=by rw [hW];exact (Below.refl _ w2).alloc (Nat.le_refl _) _
  have hm:ManZ W w2.heap.size x bl bq pages (.slice none 0 0):=by unfold ManZ;rw [hW];exact heap_alloc_new w2 _
  have HM:=Lib.hid hm
  have HBW:=Lib.hid hbW
  have HW:=Lib.hid hW
  have HLW:Hid (RefL W bl x 0 logs):=Lib.hid ((hbW.block bl (Nat.lt_of_lt_of_le (Array.getElem?_eq_some_iff.1 HL.out).1 HB2.out.size)).trans ((HB2.out.block bl (Array.getElem?_eq_some_iff.1 HL.out).1).trans HL.out))
  have HPW:Hid (RefP W bq x bl logs pages 64):=Lib.hid ((hbW.block bq (Array.getElem?_eq_some_iff.1 HP.out).1).trans HP.out)
  clear hW hbW hm
  go_wp2_with fail
  rw [← HW.out]
  go_loopw [50] (fun i wr=>i=.int .i64 0∧wr=W) (fun _ _=>0)
  case atStart=>exact ⟨rfl,rfl⟩
  case round =>
    obtain ⟨rfl,rfl⟩:=hrel
    go_wp2_with fail
    (with_reducible refine (rrecover_none w2.heap.size x bl bq pages 0 logs (.slice none 0 0) _ HM.out HLW.out).mono ?_)
    rintro e w3 ⟨rfl,rfl⟩
    go_wp2_with fail
    go_ret2
    exact ⟨w2.heap.size,bl,bq,rfl,HM.out,HLW.out,HPW.out,Nat.le_trans HB1.out.size HB2.out.size,hbl,Nat.le_trans HB1.out.size hbq,HB1.out.trans ((HB2.out.trans (HBW.out.mono HB2.out.size)).mono HB1.out.size)⟩
theorem infoI3:(Tryz.prog.info? 3).map (fun i=>(i.zero,i.size,i.bytes))=some (some (.int .i64 0),1,8):=by kernel_rfl
set_option maxHeartbeats 1000000 in
theorem rbegin_any (q:RPar) (w:World) (h:ManZ w q.bn q.x q.bl q.bq q.pages (.slice none 0 0)) (ht:q.tx=1) (hB:q.B≤w.heap.size) :
    Calls Tryz.prog 82 #[.pointer (some ⟨q.bn,0,none⟩)] w fun e w'=>e=.returned (.tuple #[.int .i64 1,.int .i64 0])∧RMan q w' 0 []∧Upd (fun k=>k=q.bn) w w':=by
  have k4:=cell_of_block5 h 4 rfl
  have k5:=cell_of_block5 h 5 rfl
  have H:=Lib.hid h
  have HT:=Lib.hid ht
  have HB:=Lib.hid hB
  obtain ⟨i0,hi0,hz0,hz1,hz2⟩:=info_parts infoI3
  have hlt:=cell_lt k4
  have BA:Hid (Below w.heap.size w (w.alloc (.cells #[.int .i64 1] 3))):=Lib.hid ((Below.refl _ w).alloc (Nat.le_refl _) _)
  have CA:Hid (Cells (w.alloc (.cells #[.int .i64 1] 3)) (some ⟨w.heap.size,0,none⟩) [.int .i64 1]):=Lib.hid (fun _=>⟨_,0,rfl,fun j v hv=>by rw [Nat.zero_add];exact cellNew (by simpa using hv)⟩)
  clear h ht hB
  go_enter Tryz.func82,Tryz.ntmps82
  go_wp2_with fail
  go_loopw [4,22] (fun n i wr=>n=.int .i64 0∧i=.int .i64 0∧wr=w) (fun _ _ _=>0)
  case atStart=>exact ⟨rfl,rfl,rfl⟩
  case round =>
    obtain ⟨rfl,rfl,rfl⟩:=hrel
    go_wp2_with (at_builtin;refine wpList_appv rfl (.tmp 36) (.tmp 39) 107 3 rfl i0 _ 1 8 q.B 0 1 1 Tryz.underlying107 hi0 hz0 hz1 hz2 rfl (by decide) (.slice none 0 0) [] [.int .i64 1] (some ⟨wr.heap.size,0,none⟩) rfl rfl (World.ownsRow_nil _ _ _ _) rfl CA.out (fun u hu=>by rw [List.mem_singleton.1 hu];rfl) (by simp [maxLen]) (by omega) (Nat.le_trans HB.out BA.out.size) ?_)
    intro v5 w5 ho5 hg5
    obtain ⟨q5,d5,rfl,-⟩:=rown_sl ho5
    have HO5:=Lib.hid ho5
    have hb5:Below wr.heap.size wr w5:=BA.out.grown hg5 BA.out.size (fun j hj=>by cases hj)
    have a5:=(hb5.block q.bn hlt).trans H.out
    have f5:=frozenC (i:=5) a5
    have m5:=cell_of_block5 a5 5 rfl
    have A5:=Lib.hid a5
    have HB5:=Lib.hid hb5
    clear ho5 hg5 hb5 a5
    go_wp2_with fail
    go_ret2
    refine ⟨rfl,⟨⟨.slice q5 1 d5,.slice none 0 0,?_,?_,World.ownsRow_nil _ _ _ _⟩⟩,(Upd.of_below' HB5.out _).trans' (Upd.setC w5 q.bn 5 _) (fun _ _ h=>h)⟩
    · have:=heap_setCell_same w5 q.bn 5 _ _ (.slice q5 1 d5) A5.out
      simpa using this
    · rw [HT.out]
      refine own_updO (by simpa using HO5.out) (Upd.setC w5 q.bn 5 _) (fun k hk _ ho _=>?_)
      subst hk
      exact absurd ((own_typed HO5.out ho).one ⟨_,A5.out⟩) (by decide)
end Go.Proofs.YtheeomjfpnijbaaGreatDoor
end
