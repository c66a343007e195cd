/- Lemmas: RefWrite6, RefTw. -/
import Derived.Test.YtheeomjfpnijbaaGreatDoorZRd
import Derived.Test.YtheeomjfpnijbaaGreatDoorRefApartP
import Derived.Test.YtheeomjfpnijbaaGreatDoorZBa
set_option linter.unusedVariables false
section
namespace Go.Proofs.YtheeomjfpnijbaaGreatDoor
open Go.RowKit
set_option maxRecDepth 20000
section
variable {N:Nat→Prop} {q:RPar} {s:RSt}
theorem rd_sub {w:World} {g:Nat} {xs:List UInt8} (h:Rd w (some ⟨g,0,none⟩) xs) (a m:Nat):Rd w (some ⟨g,a,none⟩) ((xs.drop a).take m):=fun hne=>by
  have hne':B8s xs ≠ []:=fun e=>hne (by
    have:xs=[]:=List.eq_nil_of_length_eq_zero (by rw [← B8s_length,e];rfl)
    rw [this];simp [B8s])
  obtain ⟨b,o,e,hc⟩:=h hne'
  cases e
  refine ⟨g,a,rfl,fun i v hv=>?_⟩
  have:=hc (a+i) v (by
    have hi:=(List.getElem?_eq_some_iff.1 hv).1
    rw [B8s_length,List.length_take] at hi
    unfold B8s at hv ⊢
    rw [List.getElem?_map,List.getElem?_take_of_lt (by omega),List.getElem?_drop] at hv
    rw [List.getElem?_map]
    exact hv)
  rwa [Nat.zero_add] at this
structure Wrote6 (q:RPar) (s:RSt) (n:Nat) (xs:List UInt8) (s':RSt):Prop where
  cd:∀ m,cd s'.bs m=if m=n then xs else cd s.bs m
  bs:s'.bs.length≤s.bs.length+4
  xs:s'.xs.length≤s.xs.length+302
  rs:s'.rs.length=s.rs.length+1
  ll:s'.ll=s.ll+1
  last:s'.last=q.tx
def WriteQ6 (N:Nat→Prop) (q:RPar) (w:World) (s:RSt) (n:Nat) (xs:List UInt8) (w':World):Prop:=∃ s',RMgr N q w' s'∧Wrote6 q s n xs s'∧Upd (RS q w) w w'
theorem LS.rs {a b:World} (h:Upd (LS q a) a b):Upd (RS q a) a b:=h.mono fun _ _ h=>.inr h
structure Room6 (q:RPar) (s:RSt):Prop where
  tx:1≤q.tx∧q.tx < 1000000
  logs:q.logs≤4096
  room:s.xs.length+302+160 * s.rs.length+176≤q.logs * 112
  ll:s.ll≤10000
  rs:s.rs.length≤100
  last:s.last≤q.tx
  bs:s.bs.length≤40
set_option maxHeartbeats 4000000 in
theorem rwrite6_any (n off m c:Nat) (p:Option Addr) (ys:List UInt8) (w:World) (h:RMgr N q w s) (hn:n < q.pages) (hp:q.pages≤4096) (hR:Room6 q s) (hy:ys.length=m) (hm:0 < m) (ho:off+m≤112) (hv:Byt w N (.slice p m c) ys) (hd:((cd s.bs n).drop off).take m ≠ ys) :
    Calls Tryz.prog 127 #[.pointer (some ⟨q.bn,0,none⟩),.int .i64 q.tx,.int .i64 n,.int .i64 off,.slice p m c] w fun e w'=>e=.returned (.int .i64 0)∧WriteQ6 N q w s n (wth (cd s.bs n) off ys) w':=by
  have H:=Lib.hid h
  have HN:=Lib.hid (And.intro hn (And.intro hp (And.intro hy (And.intro hm ho))))
  have HR:=Lib.hid hR
  have HV:=Lib.hid hv
  have HD:=Lib.hid hd
  have b0:((m:Int) == 0)=false:=by rw [beq_eq_false_iff_ne];omega
  have b0':(m == 0)=false:=by rw [beq_eq_false_iff_ne];omega
  have b1:decide ((m:Int) > 112)=false:=decide_eq_false (by omega)
  have b1':decide (112 < m)=false:=decide_eq_false (by omega)
  have b2:decide ((off:Int) < 0)=false:=decide_eq_false (by omega)
  obtain ⟨r,hr⟩:∃ r,r=112 - m:=⟨_,rfl⟩
  have w1:IntKind.i64.wrap ((112:Int) - (m:Int))=(r:Int):=by rw [IntKind.wrap_i64];omega
  have b3:decide ((off:Int) > (r:Int))=false:=decide_eq_false (by omega)
  have b3':decide (r < off)=false:=decide_eq_false (by omega)
  obtain ⟨z,hz⟩:∃ z,z=off+m:=⟨_,rfl⟩
  have w2:IntKind.i64.wrap ((off:Int)+(m:Int))=(z:Int):=by rw [IntKind.wrap_i64];omega
  have i1:off≤z:=by omega
  have i2:z≤112:=by omega
  have HZ:Hid (z - off=m):=Lib.hid (by omega)
  clear h hn hp hR hy hm ho hv hd hr hz
  go_enter Tryz.func127,Tryz.ntmps127
  go_wp2_with fail
  (with_reducible refine (rread6_any n _ H.out HN.out.1 (by have:=HR.out.bs;omega)).mono ?_)
  intro e w3 hq
  unfold ReadQ6 at hq
  obtain ⟨bs1,q1,c1,rfl,ho1,hM1,hcd1,hlen1,hu1⟩:=hq
  have HO1:=Lib.hid ho1
  have HM1:=Lib.hid hM1
  have HC1:=Lib.hid (And.intro hcd1 (And.intro hlen1 hu1))
  have hc1:112≤c1:=by obtain ⟨_,_,e',h1,_⟩:=rown_sl ho1;cases e';exact h1
  obtain ⟨g,rfl,-,-,-⟩:=rown_at ho1 (by omega)
  obtain ⟨ah,hah⟩:∃ x,x=((cd s.bs n).drop off).take m:=⟨_,rfl⟩
  have hcl:(cd s.bs n).length=112:=by have:=ho1.1;rw [B8s_length] at this;omega
  have hral:ah.length=z - off:=by rw [hah,List.length_take,List.length_drop,hcl,HZ.out];have:=HN.out;omega
  have hra:Rd w3 (some ⟨g,off,none⟩) ah:=by rw [hah];exact rd_sub (rd_of ho1) off m
  have hrb:Rd w3 p ys:=(HV.out.upd hu1 (fun k hk ht=>by rcases hk.2 with hk | hk <;> exact absurd (hk.one ht) (by decide))).rd.1
  have hcv1:(convert 76 9 (.slice (some ⟨g,off,none⟩) (z - off) (c1 - off))).run Tryz.prog w3=.ok (.string ⟨ah.toArray⟩) w3:=hra.convert hral _ 76 5 9 Tryz.underlying76 Tryz.underlying5 Tryz.underlying9
  have hcv2:(convert 76 9 (.slice p m c)).run Tryz.prog w3=.ok (.string ⟨ys.toArray⟩) w3:=hrb.convert HN.out.2.2.1 _ 76 5 9 Tryz.underlying76 Tryz.underlying5 Tryz.underlying9
  have hne:((⟨ah.toArray⟩:ByteArray).toList == (⟨ys.toArray⟩:ByteArray).toList)=false:=by
    rw [ByteArray.toList_eq,ByteArray.toList_eq]
    simp
    rw [hah]
    exact HD.out
  have hne2:(ah == ys)=false:=by rw [beq_eq_false_iff_ne,hah];exact HD.out
  have hoc:¬ c1=off:=by have:=HN.out;omega
  have hoc2:off≤c1:=by have:=HN.out;omega
  have HAH:Hid (ah.length=m):=Lib.hid (by rw [hral,HZ.out])
  clear ho1 hM1 hcd1 hlen1 hu1 hah hra hral hcl
  obtain ⟨X,hX⟩:∃ X,X=w3.heap.size:=⟨_,rfl⟩
  obtain ⟨W,hW⟩:∃ W,W=w3.alloc (.cells #[.int .i64 1,.int .i64 q.tx,.int .i64 n,.int .i64 off,.string ⟨ah.toArray⟩,.string ⟨ys.toArray⟩,.int .i64 0,.int .i64 0] 231):=⟨_,rfl⟩
  have hbW:Below w3.heap.size w3 W:=by rw [hW];exact (Below.refl _ w3).alloc (Nat.le_refl _) _
  have hXW:W.heap[X]?=some (drObj 1 q.tx n off ⟨ah.toArray⟩ ⟨ys.toArray⟩ 0):=by rw [hW,hX];exact heap_alloc_new w3 _
  have hMW:=HM1.out.below hbW
  have HMW:=Lib.hid hMW
  have HBW:=Lib.hid hbW
  have HXW:=Lib.hid hXW
  have HRB:=Lib.hid hrb
  have HCV2:=Lib.hid hcv2
  have hXl:=(Array.getElem?_eq_some_iff.1 hXW).1
  have HF:Hid (∀ W',Below W.heap.size W W'→RMgr N q W' { s with bs:=bs1 }∧W'.heap[X]?=some (drObj 1 q.tx n off ⟨ah.toArray⟩ ⟨ys.toArray⟩ 0)):=Lib.hid (fun W' hb=>⟨hMW.below hb,(hb.block X hXl).trans hXW⟩)
  have has:(⟨ah.toArray⟩:ByteArray).size=m:=by show ah.toArray.size=m;simp [HAH.out]
  have hys:(⟨ys.toArray⟩:ByteArray).size=m:=by show ys.toArray.size=m;simp [HN.out.2.2.1]
  obtain ⟨D,hDD⟩:∃ D:Int,D=((q.logs * 112:Nat):Int) - (s.xs.length:Int):=⟨_,rfl⟩
  obtain ⟨E,hE⟩:∃ E:Nat,E=160 * s.rs.length+16:=⟨_,rfl⟩
  have HDE:Hid (D=((q.logs * 112:Nat):Int) - (s.xs.length:Int)∧E=160 * s.rs.length+16):=Lib.hid ⟨hDD,hE⟩
  have HRoom:Hid (∀ W',Below W.heap.size W W'→Calls Tryz.prog 187 #[.pointer (some ⟨q.bl,0,none⟩)] W' fun e w'=>e=.returned (.int .i64 D)∧Below W.heap.size W w'):=Lib.hid (fun W' hb=>by
    rw [hDD]
    refine (rroom_any W' (HF.out W' hb).1.log HR.out.logs (by have:=HR.out.room;have:=HR.out.logs;show s.xs.length≤1000000;omega)).mono ?_
    rintro e w' ⟨rfl,j,rfl⟩
    exact ⟨rfl,drewN_below hb j⟩)
  have HEnc:Hid (∀ W',Below W.heap.size W W'→Calls Tryz.prog 189 #[.agg #[.int .i64 1,.int .i64 q.tx,.int .i64 n,.int .i64 off,.string ⟨ah.toArray⟩,.string ⟨ys.toArray⟩,.int .i64 0,.int .i64 0]] W' (fun e w'=>LenQ 1 300 W' e w'∧Below W.heap.size W w')):=Lib.hid (fun W' hb=>by
    refine (renc_any q.tx n off 0 ⟨ah.toArray⟩ ⟨ys.toArray⟩ W' (by have:=HR.out.tx;omega) (by have:=HN.out;omega) (by have:=HN.out;omega) (by rw [has];have:=HN.out;omega) (by rw [hys];have:=HN.out;omega)).mono ?_
    intro e w' hq
    refine ⟨hq,?_⟩
    obtain ⟨_,_,_,_,_,_,_,_,_,hb'⟩:=hq
    exact hb.trans (hb'.mono hb.size))
  have HText:Hid (∀ (W':World) (t:ByteArray),t.size≤300→Below W.heap.size W W'→Calls Tryz.prog 188 #[.slice none 0 0,.string t] W' (fun e w'=>LenQ 0 (0+2+t.size) W' e w'∧Below W.heap.size W w')):=Lib.hid (fun W' t ht hb=>by
    refine (rtext_len none 0 0 [] t W' rfl (by omega) (by omega) (Rd.nil _ _)).mono ?_
    intro e w' hq
    refine ⟨hq,?_⟩
    obtain ⟨_,_,_,_,_,_,_,_,_,hb'⟩:=hq
    exact hb.trans (hb'.mono hb.size))
  have HNeed:Hid (∀ W',Below W.heap.size W W'→Calls Tryz.prog 190 #[.pointer (some ⟨q.bn,0,none⟩)] W' fun e w'=>e=.returned (.int .i64 E)∧Below W.heap.size W w'):=Lib.hid (fun W' hb=>by
    rw [hE]
    refine (rneed_any W' (HF.out W' hb).1.man (by have:=HR.out.rs;show s.rs.length≤1000;omega)).mono ?_
    rintro e w' ⟨rfl,hb'⟩
    exact ⟨rfl,hb.trans (hb'.mono hb.size)⟩)
  have BD:Below W.heap.size W W.drew:=(Below.refl _ W).drew
  obtain ⟨ga,ca,pr,cr,a0,-,-,-⟩:=hMW.man.facts
  have k1:=cell_of_block5 a0 1 rfl
  have k1':W.drew.cell? ⟨q.bn,1,none⟩=some (.pointer (some ⟨q.bl,0,none⟩)):=k1
  obtain ⟨x0,x1,x2,x3,x4,x5,x6,x7⟩:=dr_facts hXW
  have HW:=Lib.hid hW
  have HXX:=Lib.hid hX
  clear hMW hbW hXW hrb has hys hDD hE a0 hX
  go_wp2_with fail
  rw [← HXX.out,← HW.out]
  clear hW hcv1 hcv2
  go_cut [78] (fun v wx=>v=.bool false∧Hid (Below W.heap.size W wx))
  case first =>
    obtain ⟨E2,hE2⟩:∃ E2,E2=E+160:=⟨_,rfl⟩
    have w6:IntKind.i64.wrap ((E:Int)+160)=(E2:Int):=by have:=HDE.out.2;have:=HR.out.rs;rw [IntKind.wrap_i64,hE2];omega
    have HE2:Hid (E2=160 * s.rs.length+176):=Lib.hid (by have:=HDE.out.2;omega)
    clear hE2
    go_region_law (first
      | (go_simp;go_at_call 187;(with_reducible refine (HRoom.out _ BD).mono ?_);rintro e v1 ⟨rfl,B1⟩;obtain ⟨y0,y1,y2,y3,y4,y5,y6,y7⟩:=dr_facts (HF.out _ B1).2)
      | (go_simp;go_at_call 189;(with_reducible refine (HEnc.out _ B1).mono ?_);intro e v2 hq;obtain ⟨hq,B2⟩:=hq;unfold LenQ at hq;obtain ⟨q2,m2,c2,ys2,rfl,ho2,hl2,ha2,hz2,-⟩:=hq;have cv2:(convert 76 9 (.slice q2 m2 c2)).run Tryz.prog v2=.ok (.string ⟨ys2.toArray⟩) v2:=(rd_of ho2).convert hl2 _ 76 5 9 Tryz.underlying76 Tryz.underlying5 Tryz.underlying9;have HZ2:Hid ((⟨ys2.toArray⟩:ByteArray).size≤300):=Lib.hid (by show ys2.toArray.size≤300;simp;omega);clear ho2 hl2 ha2 hz2)
      | (go_simp;go_at_call 188;(with_reducible refine (HText.out _ _ HZ2.out B2).mono ?_);intro e v3 hq;obtain ⟨hq,B3⟩:=hq;unfold LenQ at hq;obtain ⟨q3,m3,c3,ys3,rfl,ho3,hl3,ha3,hz3,-⟩:=hq;obtain ⟨D3,hD3⟩:∃ D3:Int,D3=D - (m3:Int):=⟨_,rfl⟩;have w5:IntKind.i64.wrap (D - (m3:Int))=D3:=(by have:=HDE.out.1;have:=HR.out.room;have:=HR.out.logs;have:=HZ2.out;rw [IntKind.wrap_i64,hD3];omega);have b5:decide (D3 < (E2:Int))=false:=decide_eq_false (by have:=HDE.out.1;have:=HR.out.room;have:=HE2.out;have:=HZ2.out;omega);clear ho3 hl3 ha3 hz3 hD3)
      | (go_simp;go_at_call 190;(with_reducible refine (HNeed.out _ B3).mono ?_);rintro e v4 ⟨rfl,B4⟩))
    all_goals go_wp2
    all_goals go_meet
    all_goals exact ⟨rfl,Lib.hid B4⟩
  case rest =>
    obtain ⟨rfl,hB⟩:=hcut
    have hB':=hB.out
    obtain ⟨hMc,hXc⟩:=HF.out wc hB'
    obtain ⟨y0,y1,y2,y3,y4,y5,y6,y7⟩:=dr_facts hXc
    obtain ⟨ls,hls⟩:∃ ls,ls=s.ll+1:=⟨_,rfl⟩
    have HLS:=Lib.hid hls
    have HAD:Hid (Calls Tryz.prog 191 #[.pointer (some ⟨q.bn,0,none⟩),.agg #[.int .i64 1,.int .i64 q.tx,.int .i64 n,.int .i64 off,.string ⟨ah.toArray⟩,.string ⟨ys.toArray⟩,.int .i64 0,.int .i64 0]] wc (AddQ6 N q wc { s with bs:=bs1 })):=Lib.hid (radd_any n off 0 ⟨ah.toArray⟩ ⟨ys.toArray⟩ wc hMc HR.out.tx (by have:=HN.out;omega) (by have:=HN.out;omega) (by show ah.toArray.size≤112;have:=HAH.out;have:=HN.out;simp;omega) (by show ys.toArray.size≤112;have:=HN.out;simp;omega) HR.out.logs (by have:=HR.out.room;show s.xs.length+302≤q.logs * 112;omega) (by have:=HR.out.ll;show s.ll≤100000;omega) (by have:=HR.out.rs;show s.rs.length≤1000;omega) HR.out.last)
    have HVc:Hid (Byt wc N (.slice p m c) ys):=Lib.hid (byt_rs HV.out (RS.trans (PS.rs HC1.out.2.2) (RS.trans (RS.of HBW.out) (RS.of hB'))))
    clear hMc hXc hls k1 k1' x0 x1 x2 x3 x4 x5 x6 x7
    go_wp2_with fail
    (with_reducible refine (HAD.out).mono ?_)
    intro e w5 hq
    unfold AddQ6 at hq
    obtain ⟨zs,rr,rfl,hzs,hM5,hu5⟩:=hq
    have hM5':RMgr N q w5 { last:=q.tx,ll:=s.ll+1,xs:=s.xs++zs,rs:=s.rs++[rr],bs:=bs1 }:=hM5
    have HM5:=Lib.hid hM5'
    have HU5:=Lib.hid (And.intro hzs hu5)
    have hb5:=(byt_rs HVc.out (LS.rs hu5)).rd
    have hcv5:(convert 76 9 (.slice p m c)).run Tryz.prog w5=.ok (.string ⟨ys.toArray⟩) w5:=hb5.1.convert HN.out.2.2.1 _ 76 5 9 Tryz.underlying76 Tryz.underlying5 Tryz.underlying9
    have HAP:Hid (Calls Tryz.prog 181 #[.pointer (some ⟨q.bn,0,none⟩),.int .i64 n,.int .i64 off,.string ⟨ys.toArray⟩,.int .i64 ls] w5 fun e w'=>e=.returned (.int .i64 0)∧ApplyQ6 N q w5 { last:=q.tx,ll:=s.ll+1,xs:=s.xs++zs,rs:=s.rs++[rr],bs:=bs1 } n (wth (cd bs1 n) off ys) 2 w'):=Lib.hid (rapply_any n off ls ys w5 hM5' HN.out.1 (by have:=HC1.out.2.1;have:=HR.out.bs;show bs1.length≤50;omega) (by have:=HN.out;omega) (by have:=HLS.out;have:=HR.out.ll;omega) (by have:=HN.out;omega))
    have HLE:Hid (((s.ll+1:Nat):Int)=(ls:Int)):=Lib.hid (by rw [HLS.out])
    rw [show (({ s with bs:=bs1 }:RSt).ll+1:Nat)=ls from HLS.out.symm]
    clear hM5 hM5' hzs hu5 hb5 y0 y1 y2 y3 y4 y5 y6 y7
    go_wp2_with fail
    (with_reducible refine (HAP.out).mono ?_)
    intro e w6 hq
    obtain ⟨rfl,hq⟩:=hq
    unfold ApplyQ6 at hq
    obtain ⟨bs6,hM6,hcd6,hlen6,hu6⟩:=hq
    have HM6:=Lib.hid hM6
    have HC6:=Lib.hid (And.intro hcd6 (And.intro hlen6 hu6))
    clear hM6 hcd6 hlen6 hu6
    go_wp2
    go_ret
    refine ⟨rfl,_,HM6.out,⟨fun j=>?_,?_,?_,?_,rfl,rfl⟩,?_⟩
    · show cd bs6 j=_
      rw [HC6.out.1 j]
      show (if j=n then wth (cd bs1 n) off ys else cd bs1 j)=_
      rw [HC1.out.1,HC1.out.1]
    · have h1:bs6.length≤bs1.length+2:=HC6.out.2.1
      have h2:=HC1.out.2.1
      show bs6.length≤s.bs.length+4
      omega
    · show (s.xs++zs).length≤_
      have:=HU5.out.1
      rw [List.length_append]
      omega
    · show (s.rs++[rr]).length=_
      simp
    · exact RS.trans (PS.rs HC1.out.2.2) (RS.trans (RS.of HBW.out) (RS.trans (RS.of hB.out) (RS.trans (LS.rs HU5.out.2) (PS.rs HC6.out.2.2))))
end
end Go.Proofs.YtheeomjfpnijbaaGreatDoor
end
section
namespace Go.Proofs.YtheeomjfpnijbaaGreatDoor
open Go.RowKit
set_option maxRecDepth 20000
theorem rtwo_any (n:Nat) (w:World) (hn:n < 65536) :
    Calls Tryz.prog 125 #[.int .i64 n] w fun e w'=>∃ v,e=.returned v∧w'.ownsRow w.heap.size 5 1 v 2 (B8s (le2 n))∧Below w.heap.size w w':=by
  have h1:(n:Int) < 65536:=by omega
  go_enter Tryz.func125,Tryz.ntmps125
  go_wp2
  go_ret
  refine ⟨_,rfl,own8_new w _ (le2 n) ?_ rfl (by decide),(Below.refl _ w).alloc (Nat.le_refl _) _⟩
  simp only [le2,B8s,List.map_cons,List.map_nil,B8,le2_lo,le2_hi hn]
theorem wpList_appz {ops:Array Oper} {rest:List Oper} {o:Oper} {a:Act} {W:World} {Q:Exit→Act→World→Prop} {base n k:Nat} (hgd:o.guard=none) (s x:Operand)
    (ho:o.op=.call { callee:=.builtin .append,args:=#[s,x],argTypes:=#[76,3] })
    (v:Value) (xs:List UInt8) (hs:a.eval s=v) (hx:a.eval x=.int .i64 k) (HO:W.ownsRow base 5 1 v n (B8s xs)) (hn:n≤1000000) (hk:k≤1000000) (hbase:base≤W.heap.size)
    (h:∀ v1 w1,w1.ownsRow base 5 1 v1 (n+k) (B8s (xs++List.replicate k 0))→W.grownBy w1 v.ownBlock→wpList Tryz.prog ops Q rest (a.put o.dst v1) w1) :
    wpList Tryz.prog ops Q (o :: rest) a W :=
  wpList_plain hgd fun K hK=>by
    obtain ⟨v',w',hr,h2,h3⟩:=run_appz W o.type base n k v xs HO hn hk hbase
    exact Lib.wp_append_run W s x 76 3 ho _ _ hs hx v' w' hr (hK _ _ (h v' w' h2 h3))
theorem byt_sub {w:World} {N:Nat→Prop} {base n c:Nat} {g:Nat} {xs:List UInt8} (h:w.ownsRow base 5 1 (.slice (some ⟨g,0,none⟩) n c) n (B8s xs)) (hN:∀ k,N k→k < base) (a m:Nat) (ham:a+m≤n):Byt w N (.slice (some ⟨g,a,none⟩) m (c - a)) ((xs.drop a).take m):=by
  obtain ⟨hl,h0 | ⟨g',cap,cur,e,hb,hh,h1,h2,h3,h4⟩⟩:=h
  · cases h0.1
  · cases e
    rw [B8s_length] at hl
    have hlen:((xs.drop a).take m).length=m:=by rw [List.length_take,List.length_drop];omega
    refine ⟨some ⟨g,a,none⟩,c - a,by rw [hlen],by rw [hlen];omega,by omega,fun _=>⟨g,a,cur,rfl,hh,fun hn=>by have:=hN g hn;omega,fun i x hi=>?_⟩⟩
    have hi':=(List.getElem?_eq_some_iff.1 hi).1
    rw [hlen] at hi'
    rw [List.getElem?_take_of_lt (by omega),List.getElem?_drop] at hi
    have h5:(cur.toList.take (n * 1))[a+i]?=(B8s xs)[a+i]?:=by rw [h4]
    rw [List.getElem?_take_of_lt (by omega)] at h5
    rw [← Array.getElem?_toList,h5]
    unfold B8s
    rw [List.getElem?_map,hi]
    rfl
section
variable {N:Nat→Prop} {q:RPar} {s:RSt}
structure Put6 (q:RPar) (s:RSt) (n:Nat) (xs:List UInt8) (s':RSt):Prop where
  pg:∀ m,cd s'.bs m=if m=n then xs else cd s.bs m
  bsl:s'.bs.length≤s.bs.length+5
  xsl:s'.xs.length≤s.xs.length+302
  rsl:s'.rs.length≤s.rs.length+1
  ll:s'.ll≤s.ll+1
  last:s'.last≤q.tx
  one:cd s.bs n ≠ xs→s'.rs.length=s.rs.length+1
def TwQ (N:Nat→Prop) (q:RPar) (w:World) (s:RSt) (n:Nat) (xs:List UInt8) (w':World):Prop:=∃ s',RMgr N q w' s'∧Put6 q s n xs s'∧Upd (RS q w) w w'
set_option maxHeartbeats 4000000 in
theorem rtwrite_any (n k c:Nat) (p:Option Addr) (ys:List UInt8) (w:World) (h:RMgr N q w s) (hn:n < q.pages) (hp:q.pages≤4096) (hR:Room6 q s) (hy:ys.length=k) (hk:k≤112) (hv:Byt w N (.slice p k c) ys) (hbs:s.bs.length≤30) :
    Calls Tryz.prog 84 #[.agg #[.pointer (some ⟨q.bn,0,none⟩),.int .i64 q.tx],.int .i64 n,.slice p k c] w fun e w'=>e=.returned (.int .i64 0)∧TwQ N q w s n (pad ys) w':=by
  have H:=Lib.hid h
  have HN:=Lib.hid (And.intro hn (And.intro hp (And.intro hy hk)))
  have HR:=Lib.hid hR
  have HV:=Lib.hid hv
  have HBS:=Lib.hid hbs
  obtain ⟨T,hT⟩:∃ T,T=w.heap.size:=⟨_,rfl⟩
  obtain ⟨W,hW⟩:∃ W,W=w.alloc (.cells #[.pointer (some ⟨q.bn,0,none⟩),.int .i64 q.tx] 33):=⟨_,rfl⟩
  have hTW:W.heap[T]?=some (.cells #[.pointer (some ⟨q.bn,0,none⟩),.int .i64 q.tx] 33 (0,0)):=by rw [hW,hT];exact heap_alloc_new w _
  have hbW:Below w.heap.size w W:=by rw [hW];exact (Below.refl _ w).alloc (Nat.le_refl _) _
  have HTW:=Lib.hid hTW
  have HBW:=Lib.hid hbW
  have HW:=Lib.hid hW
  have HTT:=Lib.hid hT
  obtain ⟨r,hr⟩:∃ r,r=112 - k:=⟨_,rfl⟩
  have w1:IntKind.i64.wrap ((112:Int) - (k:Int))=(r:Int):=by rw [IntKind.wrap_i64];omega
  have HRR:Hid (k+r=112):=Lib.hid (by omega)
  have hsW:W.heap.size=w.heap.size+1:=by rw [hW];simp
  have hbA:Below W.heap.size W (W.alloc (.cells #[] 5)):=(Below.refl _ W).alloc (Nat.le_refl _) _
  have hra:Hid (Rd (W.alloc (.cells #[] 5)) p ys):=Lib.hid ((hv.rd.1.below hbW).below hbA)
  have OA:Hid ((W.alloc (.cells #[] 5)).ownsRow (w.heap.size+1) 5 1 (.slice (some ⟨w.heap.size+1,0,none⟩) 0 0) 0 []):=Lib.hid (by rw [← hsW];exact World.ownsRow_made W #[] 0 (Nat.le_refl _) (Nat.zero_le _) rfl)
  have hbA':Below (w.heap.size+1) W (W.alloc (.cells #[] 5)):=by rw [← hsW];exact hbA
  rw [hW] at hra OA hbA'
  have HSW:=Lib.hid hsW
  have hlk:(0:Nat)+k≤140737488355328:=by omega
  have HBA:=Lib.hid hbA'
  have hsz:w.heap.size+1≤(W.alloc (.cells #[] 5)).heap.size:=by have:=hbA.size;omega
  rw [hW] at hsz
  have HSZ:=Lib.hid hsz
  clear h hn hp hR hy hv hr hT hTW hbW hbs hbA hsW hW hbA' hsz
  go_enter Tryz.func84,Tryz.ntmps84
  go_wp2_with (at_builtin;refine wp_appx (base:=w.heap.size+1) (n:=0) rfl (.tmp 11) (.tmp 12) rfl _ [] ys p rfl rfl HN.out.2.2.1 hra.out OA.out HBA.out HSZ.out hlk ?_)
  intro v2 w2 ho2 hb2
  have HO2:Hid (w2.ownsRow (w.heap.size+1) 5 1 v2 k (B8s ys)):=Lib.hid (by simpa using ho2)
  rw [← HW.out] at hb2
  have HB2:=Lib.hid hb2
  clear ho2 hb2
  go_wp2_with (at_builtin;refine wpList_appz (n:=k) (k:=r) rfl (.tmp 13) (.tmp 16) rfl v2 ys rfl rfl HO2.out (by omega) (by have:=HRR.out;omega) (by have:=HB2.out.size;have:=HSW.out;omega) ?_)
  intro v3 w3 ho3 hg3
  have hpad:ys++List.replicate r 0=pad ys:=by unfold pad;rw [HN.out.2.2.1];congr 2;have:=HRR.out;omega
  rw [HRR.out,hpad] at ho3
  have hpl:(pad ys).length=112:=pad_length (by rw [HN.out.2.2.1];exact HN.out.2.2.2)
  obtain ⟨zs,hzs⟩:∃ z,z=pad ys:=⟨_,rfl⟩
  rw [← hzs] at ho3 hpl
  have hb3:Below (w.heap.size+1) W w3:=HB2.out.grown hg3 (by have:=HB2.out.size;have:=HSW.out;omega) (fun j hj=>(HO2.out.lt j hj).1)
  rw [← HSW.out] at hb3
  have hM3:=(H.out.below HBW.out).below hb3
  have hT3:=(hb3.block T (Array.getElem?_eq_some_iff.1 HTW.out).1).trans HTW.out
  have t0:=cell_of_block5 hT3 0 rfl
  have t1:=cell_of_block5 hT3 1 rfl
  obtain ⟨q3,c3,rfl,hc3,-⟩:=rown_sl ho3
  obtain ⟨g3,rfl,-,-,-⟩:=rown_at ho3 (by omega)
  have HO3:=Lib.hid ho3
  have HM3:=Lib.hid hM3
  have HT3:=Lib.hid hT3
  have HB3:=Lib.hid hb3
  have HPL:=Lib.hid hpl
  have HZS:=Lib.hid hzs
  rw [← HTT.out]
  clear ho3 hM3 hT3 hb3 hpl hg3 hpad hzs HO2
  go_wp2_with fail
  (with_reducible refine (rread6_any n w3 HM3.out HN.out.1 (by have:=HBS.out;omega)).mono ?_)
  intro e w4 hq
  unfold ReadQ6 at hq
  obtain ⟨bs4,q4,c4,rfl,ho4,hM4,hcd4,hlen4,hu4⟩:=hq
  have HO4:=Lib.hid ho4
  have HM4:=Lib.hid hM4
  have HC4:=Lib.hid (And.intro hcd4 (And.intro hlen4 hu4))
  have hX4:w4.ownsRow w.heap.size 5 1 (.slice (some ⟨g3,0,none⟩) 112 c3) 112 (B8s zs):=by
    refine own_upd (own_mono HO3.out (Nat.le_succ _)) hu4 (fun k hk ht=>?_)
    rcases hk.2 with hk | hk <;> exact absurd (hk.one ht) (by decide)
  have HX4:=Lib.hid hX4
  have hT4:w4.heap[T]?=some (.cells #[.pointer (some ⟨q.bn,0,none⟩),.int .i64 q.tx] 33 (0,0)):=(hu4.block T (Array.getElem?_eq_some_iff.1 HT3.out).1 (fun hk=>by rcases hk.2 with hk | hk <;> exact absurd (hk.one ⟨_,HT3.out⟩) (by decide))).trans HT3.out
  have HT4:=Lib.hid hT4
  have HL4:Hid ((cd s.bs n).length=112):=Lib.hid (by have:=ho4.1;rw [B8s_length] at this;omega)
  clear ho4 hM4 hcd4 hlen4 hu4 t0 t1 hX4
  go_wp2_with fail
  (with_reducible refine (refapart_any q4 (some ⟨g3,0,none⟩) 112 c4 112 c3 (cd s.bs n) zs w4 HL4.out HPL.out (rd_of HO4.out) (rd_of HX4.out) (by simp [maxLen]) (by simp [maxLen])).mono ?_)
  rintro e w5 ⟨⟨a,b,rfl,hparts⟩,rfl⟩
  have t0:=cell_of_block5 hT4 0 rfl
  have t1:=cell_of_block5 hT4 1 rfl
  have HPT:=Lib.hid hparts
  clear hT4 hparts
  by_cases hb0:b=0
  · subst hb0
    go_wp2_with fail
    go_ret
    have hsame:zs=cd s.bs n:=by
      rcases HPT.out with ⟨-,-,he⟩ | ⟨h0,-⟩
      · exact List.ext_getElem? (fun i=>(he i).symm)
      · omega
    refine ⟨rfl,?_⟩
    rw [← HZS.out]
    refine ⟨{ s with bs:=bs4 },HM4.out,⟨fun j=>?_,?_,by show s.xs.length≤_;omega,by show s.rs.length≤_;omega,by show s.ll≤_;omega,HR.out.last,fun hne=>absurd hsame.symm hne⟩,?_⟩
    · show cd bs4 j=_
      rw [HC4.out.1]
      by_cases hj:j=n
      · rw [if_pos hj,hj,hsame]
      · rw [if_neg hj]
    · show bs4.length≤_
      have:=HC4.out.2.1
      omega
    · exact RS.trans (RS.of HBW.out) (RS.trans (RS.of HB3.out) (PS.rs HC4.out.2.2))
  · have hbp:0 < b:=by omega
    obtain ⟨hab,hwth,-⟩:=parts_cost (tx:=1) (n:=1) HPT.out hbp HL4.out HPL.out (by omega) (by omega)
    have hbb:((b:Int) == 0)=false:=by rw [beq_eq_false_iff_ne];omega
    have hbb':(b == 0)=false:=by rw [beq_eq_false_iff_ne];omega
    obtain ⟨z,hz⟩:∃ z,z=a+b:=⟨_,rfl⟩
    have wz:IntKind.i64.wrap ((a:Int)+(b:Int))=(z:Int):=by rw [IntKind.wrap_i64];omega
    have j1:a≤z:=by omega
    have j2:z≤c3:=by omega
    have j2':z≤112:=by omega
    have j3:¬ c3=a:=by omega
    have j4:a≤c3:=by omega
    obtain ⟨ds,hds⟩:∃ d,d=(zs.drop a).take b:=⟨_,rfl⟩
    have hdl:ds.length=z - a:=by rw [hds,List.length_take,List.length_drop,HPL.out];omega
    have hN4:∀ k,N k→k < w.heap.size:=H.out.no
    have hbyt:Byt w4.drew N (.slice (some ⟨g3,a,none⟩) (z - a) (c3 - a)) ds:=by
      have:=byt_sub HX4.out hN4 a b (by omega)
      rw [hds,show z - a=b by omega]
      exact Byt.upd (S:=fun _=>False) this (Upd.of_below' ((Below.refl _ w4).drew) _) (fun _ h=>h.elim)
    have hne:((cd bs4 n).drop a).take (z - a) ≠ ds:=by
      rw [HC4.out.1,hds,show z - a=b by omega]
      intro e
      rcases HPT.out with ⟨-,h0,-⟩ | ⟨-,p1,-⟩
      · omega
      · have:=congrArg (·[0]?) e
        simp only [List.getElem?_take_of_lt hbp,List.getElem?_drop,Nat.add_zero] at this
        exact p1 this
    have HR4:Room6 q { s with bs:=bs4 }:=by
      have h:=HR.out
      have h2:=HC4.out.2.1
      have h3:=HBS.out
      exact ⟨h.tx,h.logs,h.room,h.ll,h.rs,h.last,by show bs4.length≤40;omega⟩
    have HWR:Hid (Calls Tryz.prog 127 #[.pointer (some ⟨q.bn,0,none⟩),.int .i64 q.tx,.int .i64 n,.int .i64 a,.slice (some ⟨g3,a,none⟩) (z - a) (c3 - a)] w4.drew fun e w'=>e=.returned (.int .i64 0)∧WriteQ6 N q w4.drew { s with bs:=bs4 } n zs w'):=Lib.hid (by
      have hw2:wth (cd bs4 n) a ds=zs:=by rw [HC4.out.1,hds];exact hwth
      rw [← hw2]
      exact rwrite6_any n a (z - a) (c3 - a) (some ⟨g3,a,none⟩) ds w4.drew (HM4.out.below ((Below.refl _ w4).drew)) HN.out.1 HN.out.2.1 HR4 hdl (by omega) (by omega) hbyt hne)
    have t0':w4.drew.cell? ⟨T,0,none⟩=some (.pointer (some ⟨q.bn,0,none⟩)):=t0
    have t1':w4.drew.cell? ⟨T,1,none⟩=some (.int .i64 q.tx):=t1
    have HNE:Hid (cd s.bs n ≠ zs):=Lib.hid (fun e=>by
      rcases HPT.out with ⟨-,h0,-⟩ | ⟨-,p1,-⟩
      · omega
      · rw [e] at p1;exact p1 rfl)
    clear hab hwth hbp hz hds hdl hN4 hbyt hne HR4 hb0
    go_wp2_with fail
    go_region_law (first
      | (go_simp;go_at_call 127;(with_reducible refine (HWR.out).mono ?_);intro e w6 hq;obtain ⟨rfl,hq⟩:=hq;have HQ6:=Lib.hid hq;clear hq))
    all_goals go_wp2
    all_goals go_ret
    all_goals
      obtain ⟨s6,hm6,hw6,hu6⟩:=HQ6.out
      refine ⟨rfl,?_⟩
      rw [← HZS.out]
      have hu6':Upd (RS q w4) w4 w6:=RS.trans (RS.of (Below.refl _ w4).drew) hu6
      refine ⟨s6,hm6,⟨fun j=>?_,?_,hw6.xs,by have:=hw6.rs;show _≤s.rs.length+1;have h3:s6.rs.length=s.rs.length+1:=this;omega,by have:=hw6.ll;have h3:s6.ll=s.ll+1:=this;omega,by have:=hw6.last;omega,fun _=>hw6.rs⟩,RS.trans (RS.of HBW.out) (RS.trans (RS.of HB3.out) (RS.trans (PS.rs HC4.out.2.2) hu6'))⟩
      · rw [hw6.cd j]
        show (if j=n then zs else cd bs4 j)=_
        rw [HC4.out.1]
      · have h1:s6.bs.length≤bs4.length+4:=hw6.bs
        have:=HC4.out.2.1
        omega
end
end Go.Proofs.YtheeomjfpnijbaaGreatDoor
end
