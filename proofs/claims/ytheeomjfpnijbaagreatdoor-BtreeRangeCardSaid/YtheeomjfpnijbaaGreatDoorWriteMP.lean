/- Lemmas: WriteM. -/
import Derived.Test.YtheeomjfpnijbaaGreatDoorBeginMP
set_option linter.unusedVariables false
namespace Go.Proofs.YtheeomjfpnijbaaGreatDoor
open Go.RowKit Go.Shelf
open Go.MuLone
def txt (xs:List UInt8):ByteArray:=⟨xs.toArray⟩
theorem txt_size (xs:List UInt8):(txt xs).size=xs.length:=by simp [txt,ByteArray.size]
theorem strB_txt (xs:List UInt8):strB (txt xs)=xs:=by simp [strB,txt]
def wrec (tx n off:Nat) (old xs:List UInt8) (l:Nat):Rec:=⟨1,tx,n,off,txt old,txt xs,0,l⟩
theorem wrec_ok {tx n off l:Nat} {old xs:List UInt8} (h1:tx≤1099511627776) (h2:n≤4096) (h3:off+xs.length≤112) (h4:old.length=xs.length):RecOk (wrec tx n off old xs l) :=
  ⟨h1,h2,by show off≤112;omega,by show (txt old).size≤112;rw [txt_size];omega,by show (txt xs).size≤112;rw [txt_size];omega,by show 0≤_;omega⟩
def undo1 (r:Rec) (P:Int→List UInt8):Int→List UInt8:=fun n=>if n=r.page then wth (P n) r.off (strB r.ahead) else P n
def undoAll (rs:List Rec) (P:Int→List UInt8):Int→List UInt8:=rs.foldr undo1 P
def wcost (tx n off:Nat) (old xs:List UInt8):Nat:=(textV (encR (wrec tx n off old xs 0))).length
structure Written (s s':ASt) (tx n off:Nat) (old xs:List UInt8) (t t':Tx):Prop where
  C:s'.C=updC s.C n (s.L.last+1) (wth (s.C n).2 off xs)
  A:s'.A=setA s.A tx t'
  us:t'.us=t.us++[wrec tx n off old xs (s.L.last+1)]
  last:s'.last=max s.last tx
  recs:s'.recs=s.recs+1
  log:s'.L.last=s.L.last+1∧s'.L.sectors=s.L.sectors∧s'.L.xs=s.L.xs++textV (encR (wrec tx n off old xs 0))
  t:s'.t≤s.t+5
def WriteQ (p:Par) (s:ASt) (tx n off:Nat) (xs:List UInt8) (w:World) (e:Ending) (w':World):Prop :=
  (∃ c:Nat,c=readE s.A p.pages tx n∧c ≠ 0∧e=.returned (.int .i64 c)∧MR 0 p w' s∧Step p s.N w s.N w') ∨
  (readE s.A p.pages tx n=0∧((s.C n).2.drop off).take xs.length=xs∧∃ s',e=.returned (.int .i64 0)∧MR 0 p w' s'∧Like s s' 1∧Step p s.N w s'.N w') ∨
  (readE s.A p.pages tx n=0∧((s.C n).2.drop off).take xs.length ≠ xs∧s.L.sectors * 112 - s.L.xs.length < needC s.A+160+wcost tx n off (((s.C n).2.drop off).take xs.length) xs∧∃ s',e=.returned (.int .i64 4)∧MR 0 p w' s'∧Like s s' 1∧Step p s.N w s'.N w') ∨
  (readE s.A p.pages tx n=0∧((s.C n).2.drop off).take xs.length ≠ xs∧needC s.A+160+wcost tx n off (((s.C n).2.drop off).take xs.length) xs≤s.L.sectors * 112 - s.L.xs.length∧∃ s' t t',look s.A tx=some t∧e=.returned (.int .i64 0)∧MR 0 p w' s'∧Written s s' tx n off (((s.C n).2.drop off).take xs.length) xs t t'∧Step p s.N w s'.N w')
theorem wtext_small {r:Rec} {ys:List UInt8} (hy:ys=encR r) (h:RecOk r):0+9+(⟨ys.toArray⟩:ByteArray).size≤140737488355328:=by
  have:=encR_length h
  show 0+9+ys.toArray.size≤_
  rw [hy]
  simp
  omega
theorem wtext_len {r:Rec} {ys:List UInt8} (hy:ys=encR r):([]++varN (⟨ys.toArray⟩:ByteArray).size++strB ⟨ys.toArray⟩).length=(textV (encR r)).length:=by
  have e:(⟨ys.toArray⟩:ByteArray).size=ys.length:=by show ys.toArray.size=_;simp
  have e2:strB ⟨ys.toArray⟩=ys:=by simp [strB]
  rw [e,e2,hy]
  simp [textV]
theorem textV_le {xs:List UInt8} (h:xs.length < 16384):(textV xs).length≤xs.length+2:=by
  unfold textV
  have:=varN_length 2 xs.length (by omega) (by omega)
  simp only [List.length_append]
  omega
theorem roomM_any (k:Int) (p:Par) (s:ASt) (w:World) (h:MR k p w s) :
    Calls Tryz.prog 134 #[.pointer (some ⟨p.bl,0,none⟩)] w fun e w'=>e=.returned (.int .i64 (s.L.sectors * 112 - s.L.xs.length:Nat))∧Below w.heap.size w w':=by
  refine (room_any h.run.st.log h.sect h.run.st.lok.long).mono ?_
  rintro e w' ⟨rfl,j,rfl⟩
  exact ⟨rfl,below_drewN' w j⟩
set_option maxRecDepth 20000 in
set_option maxHeartbeats 4000000 in
theorem mwrite_any (p:Par) (s:ASt) (tx n off m cc:Nat) (q:Option Addr) (xs:List UInt8) (w:World) (h:MR 0 p w s) (ht:s.t≤800000) (hx:xs.length=m) (h0:0 < m) (h1:off+m≤112) (hq:Rd w q xs) (hqf:∀ b o z,q=some ⟨b,o,z⟩→¬ MS s.N p w b) (hpg:p.pages≤4096) :
    Calls Tryz.prog 94 #[.pointer (some ⟨p.bg,0,none⟩),.int .i64 tx,.int .i64 n,.int .i64 off,.slice q m cc] w (WriteQ p s tx n off xs w):=by
  have H:=Lib.hid h
  have HT:=Lib.hid ht
  have HX:=Lib.hid hx
  have H0:=Lib.hid h0
  have H1:=Lib.hid h1
  have HQ:=Lib.hid hq
  have HQF:=Lib.hid hqf
  have HPG:=Lib.hid hpg
  have hm0:((m:Int) == 0)=false:=by rw [beq_eq_false_iff_ne];omega
  have hm1:decide ((m:Int) > 112)=false:=decide_eq_false (by omega)
  have hm2:decide ((off:Int) < 0)=false:=decide_eq_false (by omega)
  have hm3:decide ((off:Int) > 112 - (m:Int))=false:=decide_eq_false (by omega)
  have hm4:(off:Int)+(m:Int)≤112:=by omega
  clear h ht hx h0 h1 hq hqf hpg
  go_enter_defers Tryz.func94,Tryz.ntmps94
  go_wp2_with fail
  refine (mheld_mr H.out).mono ?_
  rintro e w1 ⟨rfl,hm1',hs1⟩
  have HM1:=Lib.hid hm1'
  have HS1:=Lib.hid hs1
  have HQ1:=Lib.hid (HQ.out.upd hs1.upd HQF.out)
  clear hm1' hs1
  go_wp2_with fail
  refine (mread_any 1 p s tx n _ HM1.out (by have:=HT.out;omega)).mono ?_
  rintro e w2 (⟨c,hc,hc0,rfl,hm2',hs2⟩ | ⟨hc,q2,d2,s2,rfl,ho2,hm2',hl2,hs2⟩)
  · have HM2:=Lib.hid hm2'
    have HS2:=Lib.hid (HS1.out.trans hs2)
    have hcb:((c:Int) != 0)=true:=by simp;omega
    have HC:=Lib.hid (And.intro hc hc0)
    clear hm2' hs2 hc hc0
    go_wp2_with fail
    refine leaves_cons (f:=98) (args:=#[.pointer (some ⟨p.bg,0,none⟩)]) (by simp) (by simp [go_sem]) ?_
    refine (unlock_mr .returning HM2.out).mono ?_
    rintro e u' w3 ⟨rfl,rfl,hm3,hs3,-⟩
    refine ⟨_,results_tmp rfl _ _ _,?_⟩
    change WriteQ p s tx n off xs w (.returned (.int .i64 c)) _
    exact .inl ⟨c,HC.out.1,HC.out.2,rfl,hm3,HS2.out.trans hs3⟩
  · have HM2:=Lib.hid hm2'
    have HS2:=Lib.hid (HS1.out.trans hs2)
    have HO2:=Lib.hid ho2
    have HC:=Lib.hid hc
    have HL2:=Lib.hid hl2
    have HQ2:=Lib.hid (HQ.out.upd (HS1.out.trans hs2).upd HQF.out)
    obtain ⟨ys,hy⟩:∃ y,y=(s.C n).2:=⟨_,rfl⟩
    rw [← hy] at ho2
    obtain ⟨g2,rfl,-,hg2,hd2⟩:∃ g,q2=some ⟨g,0,none⟩∧w1.heap.size≤g∧Typed w2 g 5∧112≤d2:=by
      obtain ⟨g,e,hb,ht,-⟩:=own_at1 ho2 (by omega)
      obtain ⟨q',c',e',hc'⟩:=own_slice ho2
      cases e'
      exact ⟨g,e,hb,ht,hc'⟩
    have HY:=Lib.hid hy
    have HYL:Hid (ys.length=112):=Lib.hid (by have:=ho2.1;rw [B8s_length] at this;omega)
    obtain ⟨E,hE⟩:∃ E,E=off+m:=⟨_,rfl⟩
    obtain ⟨old,hold⟩:∃ o,o=(ys.drop off).take m:=⟨_,rfl⟩
    have HOL:Hid (old.length=E - off):=Lib.hid (by have:=HYL.out;rw [hold,hE,List.length_take,List.length_drop];omega)
    have HXE:Hid (xs.length=m):=HX
    have HRS:Hid (Rd w2 (some ⟨g2,off,none⟩) old):=Lib.hid (by have:=(own_rdv ho2).sub off m;rw [Nat.zero_add,← hold] at this;exact this)
    have hEi:(off:Int)+(m:Int)=(E:Int):=by omega
    have hE1:(off:Int)≤(E:Int):=by omega
    have hE2:(E:Int)≤(d2:Int):=by omega
    have hEn:off≤E:=by omega
    have hEn2:E≤d2:=by omega
    have HOLD:=Lib.hid hold
    have HEE:=Lib.hid hE
    clear hm2' hs2 hc hl2 ho2 hy hold hE hg2
    go_upto_region 9 with fail
    go_cut [13] from 50 to 63 (fun v wx=>v=.pointer (some ⟨w2.heap.size,0,none⟩)∧Hid (Below w2.heap.size w2 wx∧wx.heap[w2.heap.size]?=some (.cells #[.int .i64 1,.int .i64 tx,.int .i64 n,.int .i64 off,.string (txt old),.string (txt xs),.int .i64 0,.int .i64 0] 218 (0,0))))
    case first =>
      have hcv1:=fun W (hr:Rd W (some ⟨g2,off,none⟩) old)=>hr.convert HOL.out (d2 - off) _ _ _ Tryz.underlying76 Tryz.underlying5 Tryz.underlying9
      have hcv2:=fun W (hr:Rd W q xs)=>hr.convert HX.out cc _ _ _ Tryz.underlying76 Tryz.underlying5 Tryz.underlying9
      have c1:=hcv1 w2.drew HRS.out
      have c2:=hcv2 w2.drew HQ2.out
      have hba:Below w2.heap.size w2 ((w2.alloc (.cells #[.int .i64 0,.int .i64 0,.int .i64 0,.int .i64 0,.string ⟨#[]⟩,.string ⟨#[]⟩,.int .i64 0,.int .i64 0] 218)).drew):=((Below.refl _ w2).alloc (Nat.le_refl _) _).drew
      have c3:=hcv1 _ (HRS.out.below hba)
      have c4:=hcv2 _ (HQ2.out.below hba)
      have hdo:¬ d2=off:=by have:=H0.out;have:=H1.out;omega
      have hEw:IntKind.i64.wrap (E:Int)=(E:Int):=by rw [IntKind.wrap_i64];have:=HEE.out;have:=H1.out;omega
      clear hcv1 hcv2 hba
      refine wp_region_noPanic ?_
      go_region_law (fail)
      all_goals clear hEw c1 c2 c3 c4
      all_goals refine NoPanic.normal ?_
      all_goals go_wp2_with fail
      all_goals go_meet
      all_goals exact ⟨rfl,Lib.hid ⟨((Below.refl _ w2).alloc (Nat.le_refl _) _).drew,heap_alloc_new _ _⟩⟩
    case rest =>
      obtain ⟨rfl,HB3⟩:=hcut
      obtain ⟨g,hg⟩:∃ g,g=w2.heap.size:=⟨_,rfl⟩
      have hh:=HB3.out.2
      rw [← hg] at hh ⊢
      have HG:=Lib.hid hg
      have kc:∀ (j:Nat) (v:Value),(#[Value.int .i64 1,.int .i64 tx,.int .i64 n,.int .i64 off,.string (txt old),.string (txt xs),.int .i64 0,.int .i64 0])[j]?=some v→wc.cell? ⟨g,j,none⟩=some v:=fun j v hv=>by simp only [World.cell?,hh];simpa using hv
      have HKC:=Lib.hid kc
      have HH:=Lib.hid hh
      have hgl:g < wc.heap.size:=(Array.getElem?_eq_some_iff.1 hh).1
      have k4:=kc 4 _ rfl
      have k5:=kc 5 _ rfl
      have HM3:=Lib.hid (HM2.out.below HB3.out.1)
      have HS3:=Lib.hid (HS2.out.trans (Step.of_below HB3.out.1))
      clear kc hg hh hEi hE1 hE2 hEn hEn2 hm0 hm1 hm2 hm3 hm4 hd2
      by_cases he:old=xs
      · have hbe:((txt old).toList == (txt xs).toList)=true:=by rw [he];exact beq_self_eq_true _
        have HEQ:Hid (((s.C n).2.drop off).take xs.length=xs):=Lib.hid (by rw [HX.out,← HY.out,← HOLD.out,he])
        clear he
        go_wp2_with fail
        refine leaves_cons (f:=98) (args:=#[.pointer (some ⟨p.bg,0,none⟩)]) (by simp) (by simp [go_sem]) ?_
        refine (unlock_mr .returning HM3.out).mono ?_
        rintro e u' w4 ⟨rfl,rfl,hm4,hs4,-⟩
        refine ⟨_,results_tmp rfl _ _ _,?_⟩
        change WriteQ p s tx n off xs w (.returned (.int .i64 0)) _
        exact .inr (.inl ⟨HC.out,HEQ.out,s2,rfl,hm4,HL2.out,HS3.out.trans hs4⟩)
      · have hbe:((txt old).toList == (txt xs).toList)=false:=by
          rw [beq_eq_false_iff_ne,ByteArray.toList_eq,ByteArray.toList_eq]
          simpa [txt] using he
        have HNE:Hid (((s.C n).2.drop off).take xs.length=old∧old ≠ xs):=Lib.hid ⟨by rw [HX.out,← HY.out,← HOLD.out],he⟩
        obtain ⟨r0,hr0⟩:∃ r0,r0=wrec tx n off old xs 0:=⟨_,rfl⟩
        have HR0:Hid (RecOk r0∧r0.kind=1):=Lib.hid (by
          obtain ⟨⟨t1,ht1⟩,h2,h3,-⟩:=readE_ok HC.out
          have h4:=H.out.keys _ (look_mem ht1)
          rw [hr0]
          exact ⟨wrec_ok (by omega) (by have:=HPG.out;omega) (by rw [HX.out];exact H1.out) (by rw [HOL.out,HX.out,HEE.out];omega),rfl⟩)
        have HR00:=Lib.hid hr0
        obtain ⟨tw,htw⟩:∃ t,t=(textV (encR r0)).length:=⟨_,rfl⟩
        have HTW:=Lib.hid htw
        obtain ⟨R,hR⟩:∃ R,R=s2.L.sectors * 112 - s2.L.xs.length:=⟨_,rfl⟩
        have HRR:=Lib.hid hR
        obtain ⟨nd,hnd⟩:∃ d,d=needC s2.A:=⟨_,rfl⟩
        have HND:=Lib.hid hnd
        clear he hr0 htw hR hnd
        go_upto_region 12 with fail
        clear k4 k5
        go_cut [83] from 69 to 83 (fun v wx=>∃ b:Bool,v=.bool b∧Hid (b=decide ((R:Int) - (tw:Int) < (nd:Int)+160))∧Hid (Below wc.heap.size wc wx))
        case first =>
          have HT2:Hid (s2.t≤1000000):=Lib.hid (by have:=HL2.out.t;have:=HT.out;omega)
          have HK1:Hid (1≤(wrec tx n off old xs 0).kind∧(wrec tx n off old xs 0).kind≤4):=Lib.hid ⟨Nat.le_refl 1,by show 1≤4;omega⟩
          have HROK:Hid (RecOk (wrec tx n off old xs 0)):=Lib.hid (by rw [← HR00.out];exact HR0.out.1)
          have hnb:(nd:Int)≤10000000000:=by
            have h1:needC s2.A≤16 * 160000016:=by
              have e1:needC s2.A=sumD (fun t=>160 * t.us.length+16) s2.A (fun _=>false):=by rw [sumD_end (fun _=>rfl)];rfl
              rw [e1]
              refine Nat.le_trans (sumD_le (m:=160000016) fun x hx=>?_) (Nat.mul_le_mul_right _ HM3.out.few)
              have:=HM3.out.ulen x hx
              have:=HT2.out
              omega
            rw [HND.out]
            omega
          have hRb:(R:Int)≤458752:=by rw [HRR.out];have:=HM3.out.sect;omega
          have htb:(tw:Int)≤1000:=by
            have h1:=encR_length HR0.out.1
            have h2:=textV_le (xs:=encR r0) (by omega)
            rw [HTW.out]
            omega
          obtain ⟨-,-,kb,-⟩:=HM3.out.load
          have c0:=HKC.out 0 _ rfl
          have c1:=HKC.out 1 _ rfl
          have c2:=HKC.out 2 _ rfl
          have c3:=HKC.out 3 _ rfl
          have c4:=HKC.out 4 _ rfl
          have c5:=HKC.out 5 _ rfl
          have c6:=HKC.out 6 _ rfl
          have c7:=HKC.out 7 _ rfl
          have hbgl:p.bg < wc.heap.size:=cell_lt kb
          have HMD:=Lib.hid (HM3.out.below (Below.refl _ wc).drew)
          have hgl0:=hgl
          refine wp_region_noPanic ?_
          go_region_law (first
            | (go_simp;go_at_call 134;refine (roomM_any 1 p s2 _ HMD.out).mono ?_;rintro e w5 ⟨rfl,hb5⟩;rw [← HRR.out];have HB5:Hid (Below wc.heap.size wc w5):=Lib.hid ⟨hb5.os,hb5.tape,hb5.output,hb5.size,hb5.block⟩;have r0:=keepC HB5.out c0;have r1:=keepC HB5.out c1;have r2:=keepC HB5.out c2;have r3:=keepC HB5.out c3;have r4:=keepC HB5.out c4;have r5:=keepC HB5.out c5;have r6:=keepC HB5.out c6;have r7:=keepC HB5.out c7;have hgl5:=cell_lt r0;clear hb5)
            | (go_simp;go_at_call 136;refine (encode_any (wrec tx n off old xs 0) _ HK1.out HROK.out).mono ?_;rintro e w7 ⟨v7,rfl,ho7,hb7⟩;have HB7:=Lib.hid (HB5.out.trans (hb7.mono HB5.out.size));obtain ⟨ys7,hy7⟩:∃ y,y=encR (wrec tx n off old xs 0):=⟨_,rfl⟩;rw [← hy7] at ho7;obtain ⟨n7,hn7⟩:∃ y,y=ys7.length:=⟨_,rfl⟩;rw [← hn7] at ho7;obtain ⟨q7,d7,rfl,-⟩:=own_slice ho7;have hcv7:=(own_rdv ho7).convert hn7.symm d7 _ _ _ Tryz.underlying76 Tryz.underlying5 Tryz.underlying9;have HY7:=Lib.hid hy7;have HN7:=Lib.hid hn7;clear ho7 hb7 hy7 hn7)
            | (go_simp;go_at_call 135;refine (text_any none 0 0 [] ⟨ys7.toArray⟩ _ rfl (wtext_small HY7.out HROK.out) (Rd.nil _ _)).mono ?_;rintro e w8 ⟨v8,rfl,ho8,hb8⟩;have HB8:=Lib.hid (HB7.out.trans (hb8.mono HB7.out.size));rw [wtext_len HY7.out,← HR00.out,← HTW.out] at ho8;obtain ⟨q8,d8,rfl,-⟩:=own_slice ho8;clear ho8 hb8)
            | (go_simp;go_at_call 137;refine (need_any 1 p s2 _ (HM3.out.below HB8.out) HT2.out).mono ?_;rintro e w6 ⟨rfl,hb6⟩;have HB6:=Lib.hid (HB8.out.trans (hb6.mono HB8.out.size));rw [← HND.out];clear hb6))
          all_goals refine NoPanic.normal ?_
          all_goals clear c0 c1 c2 c3 c4 c5 c6 c7 r0 r1 r2 r3 r4 r5 r6 r7
          all_goals go_wp2_with fail
          all_goals go_meet
          all_goals
            have e1:IntKind.i64.wrap ((R:Int) - (tw:Int))=(R:Int) - (tw:Int):=by rw [IntKind.wrap_i64];omega
            have e2:IntKind.i64.wrap ((nd:Int)+160)=(nd:Int)+160:=by rw [IntKind.wrap_i64];clear e1;omega
            exact ⟨_,rfl,Lib.hid (by rw [e1,e2]),HB6⟩
        case rest =>
          obtain ⟨b,rfl,HBD,HB4⟩:=hcut
          have HM4:=Lib.hid (HM3.out.below HB4.out)
          have HS4:=Lib.hid (HS3.out.trans (Step.of_below HB4.out))
          have HH4:=Lib.hid ((HB4.out.block g (Array.getElem?_eq_some_iff.1 HH.out).1).trans HH.out)
          have HLR:Hid (R=s.L.sectors * 112 - s.L.xs.length∧nd=needC s.A∧tw=wcost tx n off (((s.C n).2.drop off).take xs.length) xs):=Lib.hid ⟨by rw [HRR.out,HL2.out.log.2.1,HL2.out.log.2.2],by rw [HND.out,HL2.out.A],by rw [HTW.out,HR00.out,HNE.out.1];rfl⟩
          cases b with
          | true =>
            have HFU:Hid (s.L.sectors * 112 - s.L.xs.length < needC s.A+160+wcost tx n off (((s.C n).2.drop off).take xs.length) xs):=Lib.hid (by have h1:=of_decide_eq_true HBD.out.symm;have h2:=HLR.out;omega)
            go_wp2_with fail
            refine leaves_cons (f:=98) (args:=#[.pointer (some ⟨p.bg,0,none⟩)]) (by simp) (by simp [go_sem]) ?_
            refine (unlock_mr .returning HM4.out).mono ?_
            rintro e u' w5 ⟨rfl,rfl,hm5,hs5,-⟩
            refine ⟨_,results_tmp rfl _ _ _,?_⟩
            change WriteQ p s tx n off xs w (.returned (.int .i64 4)) _
            exact .inr (.inr (.inl ⟨HC.out,by rw [HNE.out.1];exact HNE.out.2,HFU.out,s2,rfl,hm5,HL2.out,HS4.out.trans hs5⟩))
          | false =>
            have HFU:Hid (needC s.A+160+wcost tx n off (((s.C n).2.drop off).take xs.length) xs≤s.L.sectors * 112 - s.L.xs.length):=Lib.hid (by have h1:=of_decide_eq_false HBD.out.symm;have h2:=HLR.out;omega)
            have kc4:∀ (j:Nat) (v:Value),(#[Value.int .i64 1,.int .i64 tx,.int .i64 n,.int .i64 off,.string (txt old),.string (txt xs),.int .i64 0,.int .i64 0])[j]?=some v→wc.cell? ⟨g,j,none⟩=some v:=fun j v hv=>keepC HB4.out (HKC.out j v hv)
            have c0:=kc4 0 _ rfl
            have c1:=kc4 1 _ rfl
            have c2:=kc4 2 _ rfl
            have c3:=kc4 3 _ rfl
            have c4:=kc4 4 _ rfl
            have c5:=kc4 5 _ rfl
            have c6:=kc4 6 _ rfl
            have c7:=kc4 7 _ rfl
            have HROK:Hid (RecOk (wrec tx n off old xs 0)):=Lib.hid (by rw [← HR00.out];exact HR0.out.1)
            clear kc4
            go_wp2_with fail
            refine (add_any 1 p s2 (wrec tx n off old xs 0) _ HM4.out (by have:=HL2.out.t;have:=HT.out;omega) ⟨Nat.le_refl 1,by show 1≤4;omega⟩ HROK.out).mono ?_
            rintro e w5 (⟨hf,-,-,-⟩ | ⟨hf,s5,rfl,hm5,ha5,hs5,hu5⟩)
            · exfalso
              have h1:=HFU.out
              have h2:=HLR.out
              rw [← HR00.out,← HTW.out] at hf
              rw [HRR.out] at h2
              omega
            · have hgt:Typed wc g 218:=⟨_,HH4.out⟩
              have hng:¬ (g=p.bg ∨ AT p.bl s2.L.sv g):=fun hj=>by
                rcases hj with hj | hj
                · exact absurd (hgt.one (by rw [hj];exact HM4.out.typed)) (by decide)
                · obtain ⟨-,ht | ⟨ht,-⟩⟩:=HM4.out.run.st.at_typed hj
                  · exact absurd (hgt.one ht) (by decide)
                  · exact absurd (hgt.one ht) (by decide)
              have h5:=(hu5.block g (Array.getElem?_eq_some_iff.1 HH4.out).1 hng).trans HH4.out
              have k7:w5.cell? ⟨g,7,none⟩=some (.int .i64 0):=by simp [World.cell?,h5]
              have f7:w5.frozen? ⟨g,7,none⟩=false:=frozenC h5
              have hgl5:=cell_lt k7
              obtain ⟨l,hl⟩:∃ l,l=s2.L.last+1:=⟨_,rfl⟩
              rw [← hl]
              have HLN:=Lib.hid hl
              have HM5:=Lib.hid hm5
              have HA5:=Lib.hid ha5
              have HS5:=Lib.hid (HS4.out.trans hs5)
              have HH5:=Lib.hid h5
              clear hf hm5 ha5 hs5 hu5 hgt hng h5 hl c0 c1 c2 c3 c4 c5 c6 c7
              obtain ⟨⟨t,ht0⟩,hn0,hn1,-⟩:=readE_ok HC.out
              have HTL:=Lib.hid ht0
              have HNP:=Lib.hid (And.intro hn0 hn1)
              have hA5:s5.A=s.A:=HA5.out.A.trans HL2.out.A
              have htm:((tx:Int),t)∈s5.A:=by rw [hA5];exact look_mem ht0
              have HTM:=Lib.hid htm
              have hgo:∀ x∈s5.A,x.2.row.ownBlock ≠ some g:=fun x hx e=>by
                have h1:x∈s2.A:=by rw [HL2.out.A,← hA5];exact hx
                have h2:=HM2.out.row_lt h1 e
                have h3:=HG.out
                omega
              have HGO:=Lib.hid hgo
              have hB5:s5.N.B≤g:=by
                have h2:=HM2.out.run.st.base
                have h3:=HG.out
                have h4:=HS5.out.B
                have h5:=HS2.out.B
                omega
              have HAL:=Lib.hid (HM5.out.alien hgo ⟨_,HH5.out⟩ (Upd.setC w5 g 7 (.int .i64 (l:Int))) hB5)
              have HH6:=Lib.hid (heap_setCell_same w5 g 7 _ _ (.int .i64 (l:Int)) HH5.out)
              have HLK:Hid (look (mapA s5.A) (tx:Int)=some (.pointer (some ⟨t.blk,0,none⟩))):=Lib.hid (by rw [look_mapA,hA5,ht0];rfl)
              have HA5S:=Lib.hid hA5
              have r7:=HM5.out.load.2.2.2.2.2.2.1
              have hbg5:p.bg < w5.heap.size:=cell_lt r7
              have r7':(w5.setCell ⟨g,7,none⟩ (.int .i64 (l:Int))).cell? ⟨p.bg,7,none⟩=some (.map (some p.ba)):=HAL.out.1.load.2.2.2.2.2.2.1
              clear ht0 hn0 hn1 htm hgo hB5 hA5
              go_upto_region 18 with (at_lookup;refine wpList_look (KK:=intKeys) rfl _ _ 61 rfl 3 234 Tryz.underlying61 Tryz.underlying3 _ zopn (tx:Int) rfl rfl HAL.out.1.map.is ?_;rw [HLK.out,Option.getD_some])
              obtain ⟨W6,hW6⟩:∃ W6,W6=w5.setCell ⟨g,7,none⟩ (.int .i64 (l:Int)):=⟨_,rfl⟩
              have HM6:Hid (MR 1 p W6 s5∧Step p s5.N w5 s5.N W6):=Lib.hid (by rw [hW6];exact HAL.out)
              have HH6':Hid (W6.heap[g]?=some (.cells #[.int .i64 1,.int .i64 tx,.int .i64 n,.int .i64 off,.string (txt old),.string (txt xs),.int .i64 0,.int .i64 l] 218 (0,0))):=Lib.hid (by rw [hW6];exact HH6.out.trans rfl)
              rw [← hW6]
              clear hW6 HAL HH6 r7 r7' k7 f7 hgl5 hbg5
              obtain ⟨blk,row,us⟩:=t
              obtain ⟨ht1,ht2⟩:=HM6.out.1.txs _ HTM.out
              simp only at ht1 ht2
              obtain ⟨L,hL⟩:∃ L,L=us.length:=⟨_,rfl⟩
              rw [← hL] at ht2
              obtain ⟨q9,c9,rfl⟩:=own_zero ht2
              have HT1:=Lib.hid ht1
              have HT2':=Lib.hid ht2
              have HLU:=Lib.hid hL
              have HLB:Hid (L≤900000):=Lib.hid (by have h1:=HM6.out.1.ulen _ HTM.out;have h2:=HA5.out.t;have h3:=HL2.out.t;have h4:=HT.out;simp only at h1;omega)
              have HUOK:Hid (UpdOk p (tx:Int) (wrec tx n off old xs l)):=Lib.hid ⟨rfl,rfl,by show n < p.pages;have:=HNP.out;omega,by show off+(txt xs).size≤112;rw [txt_size,HX.out];exact H1.out,by show (txt old).size=(txt xs).size;rw [txt_size,txt_size,HOL.out,HX.out,HEE.out];omega,by show 0 < (txt xs).size;rw [txt_size,HX.out];exact H0.out,by show 1≤l∧l≤_;have h1:=HM2.out.cnt;have h2:=HL2.out.t;have h3:=HT.out;have h4:=HLN.out;omega⟩
              clear ht1 ht2 hL
              go_cut [14] from 100 to 109 (fun v wx=>v=.pointer (some ⟨blk,0,none⟩)∧Hid (∃ row':Value,MR 1 p wx { s5 with A:=setA s5.A tx ⟨blk,row',us++[wrec tx n off old xs l]⟩,t:=s5.t+1 }∧Step p s5.N W6 s5.N wx∧wx.heap[g]?=some (.cells #[.int .i64 1,.int .i64 tx,.int .i64 n,.int .i64 off,.string (txt old),.string (txt xs),.int .i64 0,.int .i64 l] 218 (0,0))))
              case first =>
                have kg:∀ (j:Nat) (v:Value),(#[Value.int .i64 1,.int .i64 tx,.int .i64 n,.int .i64 off,.string (txt old),.string (txt xs),.int .i64 0,.int .i64 l])[j]?=some v→W6.cell? ⟨g,j,none⟩=some v:=fun j v hv=>by simp only [World.cell?,HH6'.out];simpa using hv
                have c0:=kg 0 _ rfl
                have c1:=kg 1 _ rfl
                have c2:=kg 2 _ rfl
                have c3:=kg 3 _ rfl
                have c4:=kg 4 _ rfl
                have c5:=kg 5 _ rfl
                have c6:=kg 6 _ rfl
                have c7:=kg 7 _ rfl
                have kt:W6.cell? ⟨blk,0,none⟩=some (.slice q9 L c9):=by simp [World.cell?,HT1.out]
                have hgl6:g < W6.heap.size:=cell_lt c0
                have htl6:blk < W6.heap.size:=cell_lt kt
                obtain ⟨i0,hi,hz0,hz1,hz2⟩:=info_parts infoRec
                have hba:Below W6.heap.size W6 ((W6.alloc (.cells #[.int .i64 1,.int .i64 tx,.int .i64 n,.int .i64 off,.string (txt old),.string (txt xs),.int .i64 0,.int .i64 l] 218)).drew):=((Below.refl _ W6).alloc (Nat.le_refl _) _).drew
                have HBA:=Lib.hid hba
                have HOA:=Lib.hid (own_later HT2'.out hba)
                have HNW:Hid (∀ (j:Nat) (u:Value),(recCells (wrec tx n off old xs l))[j]?=some u→((W6.alloc (.cells #[.int .i64 1,.int .i64 tx,.int .i64 n,.int .i64 off,.string (txt old),.string (txt xs),.int .i64 0,.int .i64 l] 218)).drew).cell? ((⟨W6.heap.size,0,none⟩:Addr).add j)=some u):=Lib.hid (fun j u hu=>by
                  have h1:(#[Value.int .i64 1,.int .i64 tx,.int .i64 n,.int .i64 off,.string (txt old),.string (txt xs),.int .i64 0,.int .i64 l])[j]?=some u:=by rw [← hu];simp [recCells,wrec]
                  have h2:=cellNew (w:=W6) (t:=218) h1
                  have e:(⟨W6.heap.size,0,none⟩:Addr).add j=⟨W6.heap.size,j,none⟩:=by unfold Addr.add;split <;> simp_all
                  rw [e]
                  exact h2)
                have HONE:Hid (∀ u∈recCells (wrec tx n off old xs l),u.oneCell'=true):=Lib.hid (fun u hu=>by
                  simp only [recCells,List.mem_cons,List.not_mem_nil,or_false] at hu
                  rcases hu with rfl | rfl | rfl | rfl | rfl | rfl | rfl | rfl <;> rfl)
                have hbs9:s5.N.B≤((W6.alloc (.cells #[.int .i64 1,.int .i64 tx,.int .i64 n,.int .i64 off,.string (txt old),.string (txt xs),.int .i64 0,.int .i64 l] 218)).drew).heap.size:=Nat.le_trans HM6.out.1.run.st.base HBA.out.size
                have hd9:(L+1) * 80≤140737488355328:=by have:=HLB.out;omega
                have hd8:L+1≤maxLen:=by have:=HLB.out;unfold maxLen;omega
                have HNB:Hid (some blk ≠ (Value.slice q9 L c9).ownBlock):=Lib.hid (own_ne HT2'.out HT1.out (by decide))
                have hbl9:blk < ((W6.alloc (.cells #[.int .i64 1,.int .i64 tx,.int .i64 n,.int .i64 off,.string (txt old),.string (txt xs),.int .i64 0,.int .i64 l] 218)).drew).heap.size:=Nat.lt_of_lt_of_le htl6 HBA.out.size
                clear kg hba
                refine wp_region_noPanic ?_
                go_region_law (first
                  | (refine step_append_lies _ rfl (.tmp 104) (.tmp 106) 216 rfl s5.N.B 218 i0 (.agg #[.int .i64 0,.int .i64 0,.int .i64 0,.int .i64 0,.string ⟨#[]⟩,.string ⟨#[]⟩,.int .i64 0,.int .i64 0]) 8 80 Tryz.underlying216 hi hz0 hz1 hz2 rfl (by decide) (.slice q9 L c9) L (us.flatMap recCells) rfl HOA.out ⟨W6.heap.size,0,none⟩ 1 1 (recCells (wrec tx n off old xs l)) rfl rfl HNW.out HONE.out (by omega) hd8 hd9 hbs9 (W6.heap.size+1) (by simp) ?_;intro gg cap w9 hown9 hgrow9 hat9 hltg9;have HOW9:=Lib.hid hown9;have HGR9:=Lib.hid hgrow9;have HAT9:=Lib.hid hat9;have h9:=(hgrow9.block blk hbl9 (fun e'=>HNB.out e')).trans ((HBA.out.block blk htl6).trans HT1.out);have k9:w9.cell? ⟨blk,0,none⟩=some (.slice q9 L c9):=(by simp [World.cell?,h9]);have f9:=frozenC (i:=0) h9;clear hown9 hgrow9 hat9 hltg9 h9))
                all_goals clear c0 c1 c2 c3 c4 c5 c6 c7 kt
                all_goals refine NoPanic.normal ?_
                all_goals go_wp2_with fail
                all_goals go_meet
                all_goals
                  obtain ⟨q1,q2,q3⟩:=HM6.out.1.more HTM.out HLU.out HBA.out HOW9.out HGR9.out (by rcases HAT9.out with e | e;exact .inl e;exact .inr (by rw [e];simp)) HUOK.out
                  refine ⟨rfl,Lib.hid ⟨_,q1,q2,(q3.block g hgl6 (fun hj=>?_)).trans HH6'.out⟩⟩
                  rcases hj with hj | hj
                  · exact absurd (Typed.one ⟨_,HH6'.out⟩ (by rw [hj];exact ⟨_,HT1.out⟩)) (by decide)
                  · exact HGO.out _ HTM.out hj.symm
              case rest =>
                obtain ⟨rfl,hcr⟩:=hcut
                obtain ⟨row',hm7,hs7,hh7⟩:=hcr.out
                have HM7:=Lib.hid hm7
                have HS7:=Lib.hid ((HS5.out.trans HM6.out.2).trans hs7)
                have k5:wc.cell? ⟨g,5,none⟩=some (.string (txt xs)):=by simp [World.cell?,hh7]
                have k7:wc.cell? ⟨g,7,none⟩=some (.int .i64 l):=by simp [World.cell?,hh7]
                have hgl7:=cell_lt k5
                clear hm7 hs7 hh7 hcr
                go_wp2_with fail
                refine (apply_any 1 p _ n off l (txt xs) _ HM7.out (by have h1:=HA5.out.t;have h2:=HL2.out.t;have h3:=HT.out;show s5.t+1≤900000;omega) (by have:=HNP.out;omega) (by rw [txt_size,HX.out];exact H1.out) (by have h1:=HUOK.out.lsn;exact h1)).mono ?_
                rintro e w8 ⟨rfl,s8,hm8,hp8,hs8⟩
                have HM8:=Lib.hid hm8
                have HP8:=Lib.hid hp8
                have HS8:=Lib.hid (HS7.out.trans hs8)
                clear hm8 hp8 hs8 k5 k7
                go_wp2_with fail
                refine leaves_cons (f:=98) (args:=#[.pointer (some ⟨p.bg,0,none⟩)]) (by simp) (by simp [go_sem]) ?_
                refine (unlock_mr .returning HM8.out).mono ?_
                rintro e u' w10 ⟨rfl,rfl,hm10,hs10,-⟩
                refine ⟨_,results_tmp rfl _ _ _,?_⟩
                change WriteQ p s tx n off xs w (.returned (.int .i64 0)) _
                have p8:=HP8.out
                have a5:=HA5.out
                have l2:=HL2.out
                have hll:l=s.L.last+1:=by rw [HLN.out,l2.log.1]
                have hC7:s5.C=s.C:=a5.C.trans l2.C
                refine .inr (.inr (.inr ⟨HC.out,by rw [HNE.out.1];exact HNE.out.2,HFU.out,s8,_,⟨blk,row',us++[wrec tx n off old xs l]⟩,HTL.out,rfl,hm10,?_,HS8.out.trans hs10⟩))
                rw [HNE.out.1]
                refine ⟨?_,?_,?_,?_,?_,⟨?_,?_,?_⟩,?_⟩
                · rw [p8.C,strB_txt,← hll]
                  show updC s5.C n l (wth (s5.C n).2 off xs)=_
                  rw [hC7]
                · rw [p8.A]
                  show setA s5.A _ _=_
                  rw [HA5S.out]
                · rw [← hll]
                · rw [p8.last]
                  show s5.last=_
                  rw [a5.last,l2.last]
                  rfl
                · rw [p8.recs]
                  show s5.recs=_
                  rw [a5.recs,l2.recs]
                · rw [p8.log.1]
                  show s5.L.last=_
                  rw [a5.log.1,l2.log.1]
                · rw [p8.log.2.1]
                  show s5.L.sectors=_
                  rw [a5.log.2.1,l2.log.2.1]
                · rw [p8.log.2.2]
                  show s5.L.xs=_
                  rw [a5.log.2.2,l2.log.2.2]
                · rw [p8.t]
                  show s5.t+1+2≤_
                  rw [a5.t,l2.t]
                  omega
end Go.Proofs.YtheeomjfpnijbaaGreatDoor
