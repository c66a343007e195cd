/- Lemmas: RefPut5, RefPut6, RefEnc, RefLogA, RefNeed, RefRead6. -/
import Derived.Test.YtheeomjfpnijbaaGreatDoorZRb
import Derived.Test.YtheeomjfpnijbaaGreatDoorZWi
set_option linter.unusedVariables false
section
namespace Go.Proofs.YtheeomjfpnijbaaGreatDoor
open Go.RowKit
set_option maxRecDepth 20000
section
variable {N:Nat→Prop} {q:RPar} {bs:List DBuf}
theorem own_setj {w:World} {base g n cap i z:Nat} {e:TypeId} {vs:List Value} {u:Value} (h:w.ownsRow base e z (.slice (some ⟨g,0,none⟩) n cap) n vs):(w.setCell ⟨g,i,none⟩ u).ownsRow base e z (.slice (some ⟨g,0,none⟩) n cap) n (vs.set i u):=by
  refine ⟨by rw [List.length_set];exact h.1,?_⟩
  rcases h.2 with ⟨e',_⟩ | ⟨g',cap',cur,e',hb,hg,h1,h2,h3,h4⟩
  · cases e'
  · cases e'
    refine .inr ⟨g,cap,cur.setIfInBounds i u,rfl,hb,heap_setCell_same w g i cur e u hg,h1,h2,by simpa using h3,?_⟩
    rw [Array.toList_setIfInBounds,List.take_set,h4]
theorem set_last {W:World} {pre:List DBuf} {b b':DBuf} {j g L c:Nat} {u:Value} (h:RPool N q W (pre++[b])) (hg:W.cell? ⟨q.bq,5,none⟩=some (.slice (some ⟨g,0,none⟩) L c)) (hc:(dbCells b).set j u=dbCells b') (hp:b'.page=b.page) (hl:Byt W N b'.lv b'.load∧b'.load.length=112) :
    RPool N q (W.setCell ⟨g,pre.length * 5+j,none⟩ u) (pre++[b'])∧Upd (PS q W) W (W.setCell ⟨g,pre.length * 5+j,none⟩ u):=by
  obtain ⟨lv,a,ho⟩:=h.cells
  have e:lv=.slice (some ⟨g,0,none⟩) L c:=by
    have k5:W.cell? ⟨q.bq,5,none⟩=some lv:=by simp [World.cell?,a]
    rw [k5] at hg
    exact Option.some.inj hg
  subst e
  obtain ⟨q',c',e',hLc,-⟩:=rown_sl ho
  cases e'
  have hty:Typed W g 251:=own_typed ho rfl
  have hu:Upd (PS q W) W (W.setCell ⟨g,pre.length * 5+j,none⟩ u):=(Upd.setC W g _ u).mono fun k _ hk=>by subst hk;exact ⟨own_ge ho rfl,.inr hty⟩
  have hgq:g ≠ q.bq:=fun e=>by subst e;exact absurd (hty.one ⟨_,a⟩) (by decide)
  have a':(W.setCell ⟨g,pre.length * 5+j,none⟩ u).heap[q.bq]?=some (.cells #[.pointer (some ⟨q.x,0,none⟩),.pointer (some ⟨q.bl,0,none⟩),.int .i64 q.logs,.int .i64 q.pages,.int .i64 64,.slice (some ⟨g,0,none⟩) (pre++[b]).length c] 254 (0,0)):=(heap_setCell_other W ⟨g,pre.length * 5+j,none⟩ q.bq u (fun e=>hgq e.symm)).trans a
  have hpl:(pre.flatMap dbCells).length=pre.length * 5:=rflat_len dbCells 5 (fun _=>rfl) pre
  have ho':=own_setj (i:=pre.length * 5+j) (u:=u) ho
  have hs:((pre++[b]).flatMap dbCells).set (pre.length * 5+j) u=(pre++[b']).flatMap dbCells:=by
    rw [List.flatMap_append,List.flatMap_append,List.flatMap_cons,List.flatMap_cons,List.flatMap_nil,List.append_nil,List.append_nil,List.set_append,if_neg (by omega),hpl,Nat.add_sub_cancel_left,hc]
  rw [hs] at ho'
  refine ⟨h.put hu a' ?_ (fun x hx=>?_) ?_,hu⟩
  · have e1:(pre++[b']).length=(pre++[b]).length:=by simp
    rw [e1]
    exact ho'
  · rcases List.mem_append.1 hx with hx | hx
    · exact .inl (List.mem_append_left _ hx)
    · rw [List.mem_singleton.1 hx]
      refine .inr ⟨hl.1.upd hu (fun k hk ht=>by rcases hk.2 with hk | hk <;> exact absurd (hk.one ht) (by decide)),hl.2,?_⟩
      rw [hp]
      exact (h.loads b (by simp)).2.2
  · have:=h.once
    rw [List.map_append,List.map_singleton] at this ⊢
    rw [hp]
    exact this
def PutR5 (N:Nat→Prop) (q:RPar) (w:World) (bs:List DBuf) (n:Nat) (xs:List UInt8) (w':World):Prop :=
  ∃ bs':List DBuf,RPool N q w' bs'∧(∀ m,cd bs' m=if m=n then xs else cd bs m)∧bs'.length≤bs.length+1∧Upd (PS q w) w w'
theorem cd_last {pre:List DBuf} {b:DBuf} (hn:((pre++[b]).map (·.page)).Nodup) (b':DBuf) (hp:b'.page=b.page) (hn':((pre++[b']).map (·.page)).Nodup) (m:Nat):cd (pre++[b']) m=if m=b.page then b'.load else cd (pre++[b]) m:=by
  by_cases hm:m=b.page
  · rw [if_pos hm,hm,← hp]
    exact cd_mem hn' (by simp)
  · rw [if_neg hm]
    by_cases hx:∃ x∈pre,x.page=m
    · obtain ⟨x,hx,rfl⟩:=hx
      rw [cd_mem hn' (List.mem_append_left _ hx),cd_mem hn (List.mem_append_left _ hx)]
    · have h1:∀ x∈pre,x.page ≠ m:=fun x hx' e=>hx ⟨x,hx',e⟩
      rw [cd_not (bs:=pre++[b']) (fun x hx=>by
        rcases List.mem_append.1 hx with hx | hx
        · exact h1 x hx
        · rw [List.mem_singleton.1 hx,hp];exact fun e=>hm e.symm),cd_not (bs:=pre++[b]) (fun x hx=>by
        rcases List.mem_append.1 hx with hx | hx
        · exact h1 x hx
        · rw [List.mem_singleton.1 hx];exact fun e=>hm e.symm)]
theorem put_end5 {w w1 w5:World} {pre:List DBuf} {b0:DBuf} {i g L c n lsn:Nat} {v:Value} {xs:List UInt8} (f:Bool) (hP:RPool N q w1 (pre++[b0])) (hu:Upd (PS q w) w w1) (hcd:∀ m,cd (pre++[b0]) m=cd bs m) (hlen:pre.length≤bs.length) (hn:b0.page=n) (hi:i=pre.length)
    (hk:w1.cell? ⟨q.bq,5,none⟩=some (.slice (some ⟨g,0,none⟩) L c)) (hb:Below w1.heap.size w1 w5) (hv:Byt w5 N v xs) (hx:xs.length=112) :
    PutR5 N q w bs n xs (if f then ((w5.setCell ⟨g,i * 5+2,none⟩ (.int .i64 lsn)).setCell ⟨g,i * 5+4,none⟩ v).setCell ⟨g,i * 5+3,none⟩ (.int .i64 lsn) else (w5.setCell ⟨g,i * 5+2,none⟩ (.int .i64 lsn)).setCell ⟨g,i * 5+4,none⟩ v):=by
  subst hi
  have hP5:RPool N q w5 (pre++[b0]):=hP.below hb
  have hk5:=keepC hb hk
  have hgq:g ≠ q.bq:=fun e=>by
    obtain ⟨lv,a,ho⟩:=hP.cells
    have k5:w1.cell? ⟨q.bq,5,none⟩=some lv:=by simp [World.cell?,a]
    rw [k5] at hk
    cases hk
    have hty:=own_typed ho rfl
    rw [e] at hty
    exact absurd (hty.one ⟨_,a⟩) (by decide)
  have ks:∀ (W:World) (j:Nat) (u:Value),W.cell? ⟨q.bq,5,none⟩=some (.slice (some ⟨g,0,none⟩) L c)→(W.setCell ⟨g,j,none⟩ u).cell? ⟨q.bq,5,none⟩=some (.slice (some ⟨g,0,none⟩) L c):=fun W j u h=>(World.cell?_of_block (heap_setCell_other W ⟨g,j,none⟩ q.bq u (fun e=>hgq e.symm))).trans h
  have hbl:=hP5.loads b0 (by simp)
  obtain ⟨h1,u1⟩:=set_last (b':=⟨b0.page,lsn,b0.first,b0.lv,b0.load⟩) (j:=2) (u:=.int .i64 lsn) hP5 hk5 rfl rfl ⟨hbl.1,hbl.2.1⟩
  have hk6:=ks w5 (pre.length * 5+2) (.int .i64 lsn) hk5
  have hv6:Byt (w5.setCell ⟨g,pre.length * 5+2,none⟩ (.int .i64 lsn)) N v xs:=hv.upd u1 (fun k hk ht=>by rcases hk.2 with hk | hk <;> exact absurd (hk.one ht) (by decide))
  obtain ⟨h2,u2⟩:=set_last (b':=⟨b0.page,lsn,b0.first,v,xs⟩) (j:=4) (u:=v) h1 hk6 rfl rfl ⟨hv6,hx⟩
  have hk7:=ks _ (pre.length * 5+4) v hk6
  have hu2:Upd (PS q w) w ((w5.setCell ⟨g,pre.length * 5+2,none⟩ (.int .i64 lsn)).setCell ⟨g,pre.length * 5+4,none⟩ v):=PS.trans hu (PS.trans (PS.of hb) (PS.trans u1 u2))
  have hlast:∀ fs:Nat,RPool N q ((w5.setCell ⟨g,pre.length * 5+2,none⟩ (.int .i64 lsn)).setCell ⟨g,pre.length * 5+4,none⟩ v) (pre++[⟨b0.page,lsn,b0.first,v,xs⟩])→∀ (W:World),RPool N q W (pre++[⟨b0.page,lsn,fs,v,xs⟩])→∀ m,cd (pre++[⟨b0.page,lsn,fs,v,xs⟩]) m=if m=n then xs else cd bs m:=fun fs _ W hW m=>by
    rw [cd_last hP.once ⟨b0.page,lsn,fs,v,xs⟩ rfl hW.once m,hn,hcd]
  cases f
  · refine ⟨_,h2,hlast _ h2 _ h2,?_,hu2⟩
    simp;omega
  · have hbl2:=h2.loads ⟨b0.page,lsn,b0.first,v,xs⟩ (by simp)
    obtain ⟨h3,u3⟩:=set_last (b':=⟨b0.page,lsn,lsn,v,xs⟩) (j:=3) (u:=.int .i64 lsn) h2 hk7 rfl rfl ⟨hbl2.1,hbl2.2.1⟩
    refine ⟨_,h3,hlast _ h2 _ h3,?_,PS.trans hu2 u3⟩
    simp;omega
end
end Go.Proofs.YtheeomjfpnijbaaGreatDoor
end
section
namespace Go.Proofs.YtheeomjfpnijbaaGreatDoor
open Go.RowKit
set_option maxRecDepth 20000
section
variable {N:Nat→Prop} {q:RPar} {bs:List DBuf}
set_option maxHeartbeats 4000000 in
theorem rput_any (n lsn c:Nat) (p:Option Addr) (xs:List UInt8) (w:World) (h:RPool N q w bs) (hn:n < q.pages) (hs:bs.length≤60) (hB:q.B≤w.heap.size) (hN:∀ k,N k→k < w.heap.size) (hl:1≤lsn∧lsn≤1000000) (hv:Byt w N (.slice p 112 c) xs) :
    Calls Tryz.prog 242 #[.pointer (some ⟨q.bq,0,none⟩),.int .i64 n,.int .i64 lsn,.slice p 112 c] w fun e w'=>e=.returned (.int .i64 0)∧PutR5 N q w bs n xs w':=by
  have H:=Lib.hid h
  have HB:=Lib.hid hB
  have HN:=Lib.hid hN
  have HS:=Lib.hid hs
  have HP:=Lib.hid hn
  have HV:=Lib.hid hv
  have HXL:Hid (xs.length=112):=Lib.hid hv.rd.2.1
  have hl1:decide ((lsn:Int) < 1)=false:=decide_eq_false (by omega)
  have hl1':decide (lsn < 1)=false:=decide_eq_false (by omega)
  have hl2:decide ((lsn:Int) > 4611686018427387904)=false:=decide_eq_false (by omega)
  have hl0:(lsn == 0)=false:=by rw [beq_eq_false_iff_ne];omega
  obtain ⟨i0,hi0,hz0,hz1,hz2⟩:=info_parts info8
  clear h hB hN hs hn hv hl
  go_enter Tryz.func242,Tryz.ntmps242
  go_wp2_with fail
  refine (rhas_any n _ H.out HP.out).mono ?_
  rintro e w0 ⟨rfl,rfl⟩
  go_wp2_with fail
  refine (rin_any n _ H.out HP.out HS.out HB.out HN.out).mono ?_
  rintro e w1 ⟨rfl,hq⟩
  obtain ⟨pre,b0,hb0,hbl,hcd,hlen,hP1,hu1⟩:=hq
  have HV1:Hid (Byt w1 N (.slice p 112 c) xs):=Lib.hid (HV.out.upd hu1 (fun k hk ht=>by rcases hk.2 with hk | hk <;> exact absurd (hk.one ht) (by decide)))
  have HP1:=Lib.hid hP1
  have HU1:=Lib.hid hu1
  have HC1:=Lib.hid (And.intro hcd (And.intro hlen hb0))
  have h4096:Hid ((pre++[b0]).length≤4096):=Lib.hid (by have:=HS.out;simp;omega)
  clear hP1 hu1 hcd hbl
  go_wp2_with fail
  refine (rfind_any n _ HP1.out h4096.out).mono ?_
  rintro e w2 ⟨v,rfl,hf,hb2⟩
  have HB2:=Lib.hid hb2
  obtain rfl:=hf.last hb0 HP1.out.once
  have hP2:=HP1.out.below hb2
  obtain ⟨lv,a,ho⟩:=hP2.cells
  obtain ⟨L,hL⟩:∃ L,L=(pre++[b0]).length:=⟨_,rfl⟩
  obtain ⟨i,hi⟩:∃ i,i=pre.length:=⟨_,rfl⟩
  rw [← hL] at ho
  have hiL:i < L:=by rw [hL,hi];simp
  have hbi:(pre++[b0])[i]?=some b0:=by rw [hi,List.getElem?_append_right (Nat.le_refl _)];simp
  obtain ⟨p1,c1,rfl,hLc,hcm⟩:=rown_sl ho
  obtain ⟨g,rfl,-,-,d0,d1,d2,d3,d4⟩:=db_cells ho hiL hbi
  obtain ⟨lp,lc,hlv,-⟩:=hP2.slices b0 (by simp)
  rw [hlv] at d4
  have k5:w2.cell? ⟨q.bq,5,none⟩=some (.slice (some ⟨g,0,none⟩) L c1):=by simp [World.cell?,a]
  obtain ⟨q',c',e',hg0⟩:∃ cap cur,w2.heap[g]?=some (.cells cur 251 (0,0))∧True:=by
    obtain ⟨cs,hcs⟩:=own_typed ho (k:=g) rfl
    exact ⟨0,cs,hcs,trivial⟩
  have hbg:q.bq ≠ g:=fun e=>by rw [← e,a] at e';cases e'
  have HG:=Lib.hid e'
  rw [← hi]
  have HI:=Lib.hid hi
  have HP2:=Lib.hid hP2
  have HMS:Hid (∀ w',Below w2.heap.size w2 w'→w'.cell? ⟨q.bq,5,none⟩=some (.slice (some ⟨g,0,none⟩) L c1)∧w'.cell? ⟨g,i * 5+2,none⟩=some (.int .i64 b0.lsn)∧w'.cell? ⟨g,i * 5+3,none⟩=some (.int .i64 b0.first)∧w'.cell? ⟨g,i * 5+4,none⟩=some (.slice lp 112 lc)∧(∀ j,w'.frozen? ⟨g,j,none⟩=false)):=Lib.hid (fun w' hb=>⟨keepC hb k5,keepC hb d2,keepC hb d3,keepC hb d4,fun j=>frozenC ((hb.block g (Array.getElem?_eq_some_iff.1 e').1).trans e')⟩)
  have HK5:=Lib.hid k5
  have BA:Hid (Below w2.heap.size w2 (w2.alloc (.cells #[] 5)).drew):=Lib.hid (((Below.refl _ w2).alloc (Nat.le_refl _) _).drew)
  have OA:Hid ((w2.alloc (.cells #[] 5)).drew.ownsRow w2.heap.size 5 1 (.slice (some ⟨w2.heap.size,0,none⟩) 0 0) 0 []):=Lib.hid (World.ownsRow_made w2 #[] 0 (Nat.le_refl _) (Nat.zero_le _) rfl)
  have RA:Hid (Rd (w2.alloc (.cells #[] 5)).drew p xs):=Lib.hid ((HV1.out.rd.1.below hb2).below BA.out)
  have LN:Hid ((B8s xs).length=112 * 1):=Lib.hid (by rw [B8s_length,HXL.out])
  have hMX:112≤maxLen:=by simp [maxLen]
  have hNB:Hid (∀ k,N k→k < w2.heap.size):=Lib.hid (fun k hk=>Nat.lt_of_lt_of_le (HN.out k hk) (Nat.le_trans HU1.out.size hb2.size))
  have hql:=cell_lt k5
  have hgl:=cell_lt d2
  clear hP2 a ho hL hi hlv hbi hLc hcm hf hb2 hb0 hlen e' hg0 d0 d1
  go_wp2_with fail
  go_region_law (refine step_appv rfl (.tmp 48) (.tmp 49) 76 5 rfl i0 _ 1 1 w2.heap.size 0 112 c Tryz.underlying76 hi0 hz0 hz1 hz2 rfl (by decide) _ [] (B8s xs) p rfl rfl OA.out LN.out RA.out B8s_one (by omega) (by omega) BA.out.size ?_;intro v5 w5 ho5 hg5;rw [Nat.zero_add,List.nil_append] at ho5;obtain ⟨q5,d5,rfl,-⟩:=rown_sl ho5;have HO5:=Lib.hid ho5;have hb5:=(BA.out.grown hg5 BA.out.size (fun j hj=>(OA.out.lt j hj).1));have HB5:=Lib.hid hb5;obtain ⟨m5,m2,m3,m4,mf⟩:=HMS.out _ hb5;have f2:=mf (i * 5+2);have f3:=mf (i * 5+3);have f4:=mf (i * 5+4);clear ho5 hg5 hb5 mf)
  all_goals
    have HV5:Hid (Byt w5 N (.slice q5 112 d5) xs):=Lib.hid (Byt.own HO5.out hNB.out)
    by_cases hf0:b0.first=0
    · have ht:(((b0.first:Nat):Int) == 0)=true:=by rw [hf0];rfl
      have ht':(b0.first == 0)=true:=by rw [hf0];rfl
      clear hf0
      go_wp2
      go_ret
      exact ⟨rfl,put_end5 true HP2.out (PS.trans HU1.out (PS.of HB2.out)) HC1.out.1 HC1.out.2.1 HC1.out.2.2 HI.out HK5.out HB5.out HV5.out HXL.out⟩
    · have ht:(((b0.first:Nat):Int) == 0)=false:=by rw [beq_eq_false_iff_ne];omega
      have ht':(b0.first == 0)=false:=by rw [beq_eq_false_iff_ne];exact hf0
      clear hf0
      go_wp2
      go_ret
      exact ⟨rfl,put_end5 false HP2.out (PS.trans HU1.out (PS.of HB2.out)) HC1.out.1 HC1.out.2.1 HC1.out.2.2 HI.out HK5.out HB5.out HV5.out HXL.out⟩
end
end Go.Proofs.YtheeomjfpnijbaaGreatDoor
end
section
namespace Go.Proofs.YtheeomjfpnijbaaGreatDoor
open Go.RowKit
set_option maxRecDepth 20000
def LenQ (a b:Nat) (w:World) (e:Ending) (w':World):Prop:=∃ (q:Option Addr) (m c:Nat) (ys:List UInt8),e=.returned (.slice q m c)∧w'.ownsRow w.heap.size 5 1 (.slice q m c) m (B8s ys)∧ys.length=m∧a≤m∧m≤b∧Below w.heap.size w w'
theorem rput_len (p:Option Addr) (n c k:Nat) (xs:List UInt8) (w:World) (hx:xs.length=n) (hn:n≤1000000) (hk:k < 1099511627776) (hr:Rd w p xs) :
    Calls Tryz.prog 245 #[.slice p n c,.int .i64 k] w (LenQ n (n+6) w):=by
  refine (refput_any p n c xs k w hx (by omega) (by omega) hr).mono ?_
  rintro e w' ⟨v,rfl,ho,hb⟩
  obtain ⟨q,c',rfl,-⟩:=rown_sl ho
  have h6:=varN_length 6 k (by omega) (by omega)
  refine ⟨q,_,c',_,rfl,ho,rfl,?_,?_,hb⟩
  · rw [List.length_append];omega
  · rw [List.length_append];omega
theorem rtext_len (p:Option Addr) (n c:Nat) (xs:List UInt8) (t:ByteArray) (w:World) (hx:xs.length=n) (hn:n≤1000000) (ht:t.size≤2000) (hr:Rd w p xs) :
    Calls Tryz.prog 188 #[.slice p n c,.string t] w (LenQ n (n+2+t.size) w):=by
  refine (reftext_any p n c xs t w hx (by omega) hr).mono ?_
  rintro e w' ⟨v,rfl,ho,hb⟩
  obtain ⟨q,c',rfl,-⟩:=rown_sl ho
  have h6:=varN_length 2 t.size (by omega) (by omega)
  refine ⟨q,_,c',_,rfl,ho,rfl,?_,?_,hb⟩
  · simp only [List.length_append];omega
  · simp only [List.length_append,strB_length];omega
theorem rd_of {w:World} {base n c:Nat} {q:Option Addr} {xs:List UInt8} (h:w.ownsRow base 5 1 (.slice q n c) n (B8s xs)):Rd w q xs:=by
  obtain ⟨_,_,e',hr,-⟩:=own_rd h
  cases e'
  exact hr
def drObj (kind tx page off:Int) (ahead behind:ByteArray) (lsn:Int):Obj:=.cells #[.int .i64 kind,.int .i64 tx,.int .i64 page,.int .i64 off,.string ahead,.string behind,.int .i64 0,.int .i64 lsn] 231 (0,0)
def drVal (kind tx page off:Int) (ahead behind:ByteArray) (lsn:Int):Value:=.agg #[.int .i64 kind,.int .i64 tx,.int .i64 page,.int .i64 off,.string ahead,.string behind,.int .i64 0,.int .i64 lsn]
theorem dr_facts {W:World} {b:Nat} {kind tx page off lsn:Int} {ahead behind:ByteArray} (h:W.heap[b]?=some (drObj kind tx page off ahead behind lsn)) :
    W.cell? ⟨b,0,none⟩=some (.int .i64 kind)∧W.cell? ⟨b,1,none⟩=some (.int .i64 tx)∧W.cell? ⟨b,2,none⟩=some (.int .i64 page)∧W.cell? ⟨b,3,none⟩=some (.int .i64 off)∧W.cell? ⟨b,4,none⟩=some (.string ahead)∧W.cell? ⟨b,5,none⟩=some (.string behind)∧W.cell? ⟨b,6,none⟩=some (.int .i64 0)∧W.cell? ⟨b,7,none⟩=some (.int .i64 lsn):=by
  unfold drObj at h
  exact ⟨cell_of_block5 h 0 rfl,cell_of_block5 h 1 rfl,cell_of_block5 h 2 rfl,cell_of_block5 h 3 rfl,cell_of_block5 h 4 rfl,cell_of_block5 h 5 rfl,cell_of_block5 h 6 rfl,cell_of_block5 h 7 rfl⟩
set_option maxHeartbeats 4000000 in
theorem renc_any (tx page off lsn:Nat) (ahead behind:ByteArray) (w:World) (h1:tx < 1099511627776) (h2:page < 1000000) (h3:off < 1000000) (h4:ahead.size≤112) (h5:behind.size≤112) :
    Calls Tryz.prog 189 #[drVal 1 tx page off ahead behind lsn] w (LenQ 1 300 w):=by
  have H:=Lib.hid (And.intro h1 (And.intro h2 (And.intro h3 (And.intro h4 h5))))
  clear h1 h2 h3 h4 h5
  obtain ⟨b,hb⟩:∃ b,b=w.heap.size:=⟨_,rfl⟩
  obtain ⟨W0,hW0⟩:∃ W,W=w.alloc (drObj 1 tx page off ahead behind lsn):=⟨_,rfl⟩
  have hX:W0.heap[b]?=some (drObj 1 tx page off ahead behind lsn):=by rw [hW0,hb];exact heap_alloc_new w _
  have hB0:Below w.heap.size w W0:=by rw [hW0];exact (Below.refl _ w).alloc (Nat.le_refl _) _
  have hbl:=(Array.getElem?_eq_some_iff.1 hX).1
  have HX:=Lib.hid hX
  have HF:Hid (∀ W,Below W0.heap.size W0 W→W.heap[b]?=some (drObj 1 tx page off ahead behind lsn)):=Lib.hid (fun W hW=>(hW.block b hbl).trans hX)
  obtain ⟨x0,x1,x2,x3,x4,x5,-,-⟩:=dr_facts hX
  have HB0:=Lib.hid hB0
  have BW:Hid (Below W0.heap.size W0 (W0.alloc (.cells #[.int .u8 1] 5))):=Lib.hid ((Below.refl _ W0).alloc (Nat.le_refl _) _)
  have hs0:W0.heap.size=b+1:=by rw [hW0,hb];simp
  have RW:Hid (Rd (W0.alloc (.cells #[.int .u8 1] 5)) (some ⟨b+1,0,none⟩) [1]):=Lib.hid (by rw [← hs0];exact fun _=>⟨_,0,rfl,fun i v hv=>by rw [Nat.zero_add];exact cellNew (by simpa [B8s,B8] using hv)⟩)
  clear hX hB0 hs0
  unfold drVal
  go_enter Tryz.func189,Tryz.ntmps189
  go_wp2_with fail
  unfold drObj at hW0
  rw [← hb,← hW0]
  clear hb hW0
  go_wp2_with fail
  with_reducible refine (rput_len _ 1 1 tx [1] _ rfl (by omega) H.out.1 RW.out).mono ?_
  intro e w1 hq;unfold LenQ at hq;obtain ⟨q1,m1,c1,ys1,rfl,ho1,hl1,ha1,hz1,hb1⟩:=hq
  have HB1:Hid (Below W0.heap.size W0 w1):=Lib.hid (BW.out.trans (hb1.mono BW.out.size))
  have HO1:=Lib.hid ho1
  have HZ1:=Lib.hid (And.intro hl1 (And.intro ha1 hz1))
  obtain ⟨y0,y1,y2,y3,y4,y5,-,-⟩:=dr_facts (HF.out _ HB1.out)
  have HR1:Hid (Rd w1.drew q1 ys1):=Lib.hid (rd_of ho1)
  have y2':w1.drew.cell? ⟨b,2,none⟩=some (.int .i64 page):=y2
  have y3':w1.drew.cell? ⟨b,3,none⟩=some (.int .i64 off):=y3
  clear ho1 hl1 ha1 hz1 hb1 x0 x1 x2 x3 x4 x5
  go_wp2_with fail
  go_region_law (first
    | (go_simp;go_at_call 245;(with_reducible refine (rput_len q1 m1 c1 page ys1 w1.drew HZ1.out.1 (by have:=HZ1.out;omega) (by have:=H.out;omega) HR1.out).mono ?_);intro e w2 hq;unfold LenQ at hq;obtain ⟨q2,m2,c2,ys2,rfl,ho2,hl2,ha2,hz2,hb2⟩:=hq;have HB2:Hid (Below W0.heap.size W0 w2):=Lib.hid ((HB1.out.drew).trans (hb2.mono HB1.out.size));have HO2:=Lib.hid ho2;have HZ2:=Lib.hid (And.intro hl2 (And.intro ha2 hz2));obtain ⟨u0,u1,u2,u3,u4,u5,-,-⟩:=dr_facts (HF.out _ HB2.out);have HR2:Hid (Rd w2 q2 ys2):=Lib.hid (rd_of ho2);clear ho2 hl2 ha2 hz2 hb2)
    | (go_simp;go_at_call 245;(with_reducible refine (rput_len q2 m2 c2 off ys2 w2 HZ2.out.1 (by have:=HZ2.out;have:=HZ1.out;omega) (by have:=H.out;omega) HR2.out).mono ?_);intro e w3 hq;unfold LenQ at hq;obtain ⟨q3,m3,c3,ys3,rfl,ho3,hl3,ha3,hz3,hb3⟩:=hq;have HB3:Hid (Below W0.heap.size W0 w3):=Lib.hid ((HB2.out).trans (hb3.mono HB2.out.size));have HO3:=Lib.hid ho3;have HZ3:=Lib.hid (And.intro hl3 (And.intro ha3 hz3));obtain ⟨v0,v1,v2,v3,v4,v5,-,-⟩:=dr_facts (HF.out _ HB3.out);have HR3:Hid (Rd w3 q3 ys3):=Lib.hid (rd_of ho3);clear ho3 hl3 ha3 hz3 hb3))
  all_goals
    clear y0 y1 y2 y3 y4 y5 y2' y3' u0 u1 u2 u3 u4 u5
    go_wp2_with fail
    with_reducible refine (rtext_len q3 m3 c3 ys3 ahead w3 HZ3.out.1 (by have:=HZ3.out;have:=HZ2.out;have:=HZ1.out;omega) (by have:=H.out;omega) HR3.out).mono ?_
    intro e w4 hq;unfold LenQ at hq;obtain ⟨q4,m4,c4,ys4,rfl,ho4,hl4,ha4,hz4,hb4⟩:=hq
    have HB4:Hid (Below W0.heap.size W0 w4):=Lib.hid ((HB3.out).trans (hb4.mono HB3.out.size))
    have HZ4:=Lib.hid (And.intro hl4 (And.intro ha4 hz4))
    obtain ⟨y0,y1,y2,y3,y4,y5,-,-⟩:=dr_facts (HF.out _ HB4.out)
    have HR4:Hid (Rd w4 q4 ys4):=Lib.hid (rd_of ho4)
    clear ho4 hl4 ha4 hz4 hb4 v0 v1 v2 v3 v4 v5
    go_wp2_with fail
    with_reducible refine (rtext_len q4 m4 c4 ys4 behind w4 HZ4.out.1 (by have:=HZ4.out;have:=H.out;have:=HZ3.out;have:=HZ2.out;have:=HZ1.out;omega) (by have:=H.out;omega) HR4.out).mono ?_
    intro e w5 hq;unfold LenQ at hq;obtain ⟨q5,m5,c5,ys5,rfl,ho5,hl5,ha5,hz5,hb5⟩:=hq
    have HB5:Hid (Below W0.heap.size W0 w5):=Lib.hid ((HB4.out).trans (hb5.mono HB4.out.size))
    have HZ5:=Lib.hid (And.intro hl5 (And.intro ha5 hz5))
    have HO5:=Lib.hid ho5
    obtain ⟨v0,v1,v2,v3,v4,v5,-,-⟩:=dr_facts (HF.out _ HB5.out)
    clear ho5 hl5 ha5 hz5 hb5 y0 y1 y2 y3 y4 y5
    go_wp2_with fail
    go_ret
    have z0:=H.out
    have z1:=HZ1.out
    have z2:=HZ2.out
    have z3:=HZ3.out
    have z4:=HZ4.out
    have z5:=HZ5.out
    have s0:=HB0.out.size
    have s4:=HB4.out.size
    exact ⟨q5,m5,c5,ys5,rfl,own_mono HO5.out (by omega),z5.1,by omega,by omega,HB0.out.trans (HB5.out.mono s0)⟩
end Go.Proofs.YtheeomjfpnijbaaGreatDoor
end
section
namespace Go.Proofs.YtheeomjfpnijbaaGreatDoor
open Go.RowKit
set_option maxRecDepth 20000
section
variable {N:Nat→Prop} {q:RPar}
theorem RLog.facts {w:World} {last:Nat} {xs:List UInt8} (h:RLog N q w last xs):∃ (p:Option Addr) (c:Nat),w.heap[q.bl]?=some (.cells #[.pointer (some ⟨q.x,0,none⟩),.int .i64 0,.int .i64 q.logs,.int .i64 1,.int .i64 last,.int .i64 0,.slice p xs.length c,.int .i64 0] 292 (0,0))∧Byt w N (.slice p xs.length c) xs:=by
  obtain ⟨sv,a,b⟩:=h.cells
  obtain ⟨p,c,rfl⟩:=b.slice
  exact ⟨p,c,a,b⟩
set_option maxHeartbeats 1000000 in
theorem rroom_any {last:Nat} {xs:List UInt8} (w:World) (h:RLog N q w last xs) (hl:q.logs≤4096) (hx:xs.length≤1000000) :
    Calls Tryz.prog 187 #[.pointer (some ⟨q.bl,0,none⟩)] w fun e w'=>e=.returned (.int .i64 (((q.logs * 112:Nat):Int) - (xs.length:Int)))∧∃ j,w'=w.drewN j:=by
  obtain ⟨p,c,a,-⟩:=h.facts
  obtain ⟨n,hn⟩:∃ n,n=xs.length:=⟨_,rfl⟩
  rw [← hn] at a hx
  have k2:=cell_of_block5 a 2 rfl
  have k6:=cell_of_block5 a 6 rfl
  obtain ⟨R,hR⟩:∃ R:Nat,R=q.logs * 112:=⟨_,rfl⟩
  obtain ⟨D,hD⟩:∃ D:Int,D=(R:Int) - (n:Int):=⟨_,rfl⟩
  have w1:IntKind.i64.wrap ((q.logs:Int) * 112)=(R:Int):=by rw [IntKind.wrap_i64,hR];omega
  have w2:IntKind.i64.wrap ((R:Int) - (n:Int))=D:=by rw [IntKind.wrap_i64,hD];omega
  rw [← hn,← hR,← hD]
  clear h a hl hx hn hR hD
  go_enter Tryz.func187,Tryz.ntmps187
  go_wp2_with fail
  go_quiet (fail)
  go_wp2
  go_ret
  exact ⟨rfl,_,rfl⟩
def AppQ3 (N:Nat→Prop) (q:RPar) (w:World) (last:Nat) (xs:List UInt8) (m:Nat) (w':World):Prop:=∃ zs:List UInt8,zs.length≤m+2∧RLog N q w' (last+1) (xs++zs)∧Upd (fun k=>k=q.bl) w w'
theorem rlog_set {W:World} {s0 s1:Value} {l0 l1:Int} (h:W.heap[q.bl]?=some (.cells #[.pointer (some ⟨q.x,0,none⟩),.int .i64 0,.int .i64 q.logs,.int .i64 1,.int .i64 l0,.int .i64 0,s0,.int .i64 0] 292 (0,0))) :
    (W.setCell ⟨q.bl,6,none⟩ s1).heap[q.bl]?=some (.cells #[.pointer (some ⟨q.x,0,none⟩),.int .i64 0,.int .i64 q.logs,.int .i64 1,.int .i64 l0,.int .i64 0,s1,.int .i64 0] 292 (0,0)) ∧
    ((W.setCell ⟨q.bl,6,none⟩ s1).setCell ⟨q.bl,4,none⟩ (.int .i64 l1)).heap[q.bl]?=some (.cells #[.pointer (some ⟨q.x,0,none⟩),.int .i64 0,.int .i64 q.logs,.int .i64 1,.int .i64 l1,.int .i64 0,s1,.int .i64 0] 292 (0,0)):=by
  have a1:=heap_setCell_same W q.bl 6 _ _ s1 h
  have a2:=heap_setCell_same _ q.bl 4 _ _ (.int .i64 l1) a1
  exact ⟨by simpa using a1,by simpa using a2⟩
set_option maxHeartbeats 2000000 in
theorem rappend_any (p:Option Addr) (m c last:Nat) (ys xs:List UInt8) (w:World) (h:RLog N q w last xs) (hy:ys.length=m) (hm:1≤m∧m≤1000) (hr:Rd w p ys) (hl:q.logs≤4096) (hroom:xs.length+2+m≤q.logs * 112) (hlast:last≤1000000) (hN:∀ k,N k→k < w.heap.size) :
    Calls Tryz.prog 246 #[.pointer (some ⟨q.bl,0,none⟩),.slice p m c] w fun e w'=>e=.returned (.tuple #[.int .i64 (last+1:Nat),.int .i64 0])∧AppQ3 N q w last xs m w':=by
  have H:=Lib.hid h
  have HR:=Lib.hid hr
  have HM:=Lib.hid (And.intro hy hm)
  have HL:=Lib.hid (And.intro hl (And.intro hroom hlast))
  have HN:=Lib.hid hN
  have b1:((m:Int) == 0)=false:=by rw [beq_eq_false_iff_ne];omega
  have b1':(m == 0)=false:=by rw [beq_eq_false_iff_ne];omega
  have b2:decide ((m:Int) > 2000)=false:=decide_eq_false (by omega)
  have b2':decide (2000 < m)=false:=decide_eq_false (by omega)
  have hconv:(convert 76 9 (.slice p m c)).run Tryz.prog w=.ok (.string ⟨ys.toArray⟩) w:=hr.convert hy c 76 5 9 Tryz.underlying76 Tryz.underlying5 Tryz.underlying9
  clear h hr hy hm hl hroom hlast hN
  go_enter Tryz.func246,Tryz.ntmps246
  go_wp2_with fail
  (with_reducible refine (rtext_len none 0 0 [] ⟨ys.toArray⟩ w rfl (by omega) ?_ (Rd.nil _ _)).mono ?_)
  · have:=HM.out
    show ys.toArray.size≤2000
    simp
    omega
  intro e w1 hq
  unfold LenQ at hq
  obtain ⟨q1,m1,c1,ys1,rfl,ho1,hl1,ha1,hz1,hb1⟩:=hq
  have HO1:=Lib.hid ho1
  have HB1:=Lib.hid hb1
  have HZ1:Hid (ys1.length=m1∧m1≤m+2):=Lib.hid ⟨hl1,by
    have e:(⟨ys.toArray⟩:ByteArray).size=m:=by show ys.toArray.size=m;simp [HM.out.1]
    rw [e] at hz1
    omega⟩
  have hmm:m1≤m+2:=HZ1.out.2
  clear ho1 hb1 hl1 ha1 hz1 hconv
  go_wp2_with fail
  (with_reducible refine (rroom_any w1 (H.out.below HB1.out) HL.out.1 (by have:=HL.out;have:=HL.out.1;omega)).mono ?_)
  rintro e w2 ⟨rfl,j,rfl⟩
  obtain ⟨D,hD⟩:∃ D:Int,D=((q.logs * 112:Nat):Int) - (xs.length:Int):=⟨_,rfl⟩
  have hroom':decide ((m1:Int) > D)=false:=decide_eq_false (by have:=HL.out;have:=HM.out;omega)
  have hroom2:decide (D < (m1:Int))=false:=decide_eq_false (by have:=HL.out;have:=HM.out;omega)
  rw [← hD]
  clear hD
  obtain ⟨sp,sc,a1,hby⟩:=(H.out.below (drewN_below HB1.out j)).facts
  have HA1:=Lib.hid a1
  have HBY:=Lib.hid hby
  obtain ⟨X,hX⟩:∃ n,n=xs.length:=⟨_,rfl⟩
  rw [← hX] at a1
  have k4:=cell_of_block5 a1 4 rfl
  have k6:=cell_of_block5 a1 6 rfl
  have hlt:=cell_lt k4
  have HXX:=Lib.hid hX
  have hl62:decide ((last:Int) ≥ 4611686018427387904)=false:=decide_eq_false (by have:=HL.out;omega)
  have hl62':decide (4611686018427387904≤last)=false:=decide_eq_false (by have:=HL.out;omega)
  clear a1 hX hby
  have HO1j:Hid ((w1.drewN j).ownsRow w.heap.size 5 1 (.slice q1 m1 c1) m1 (B8s ys1)):=Lib.hid (own_upd HO1.out (Upd.of_below' (drewN_below (Below.refl _ w1) j) (fun _=>False)) (fun _ h=>h.elim))
  have HB1j:Hid (Below w.heap.size w (w1.drewN j)):=Lib.hid (drewN_below HB1.out j)
  generalize w1.drewN j=W at *
  have hra:Hid (Rd (W.alloc (.cells #[] 5)) sp xs):=Lib.hid (HBY.out.rd.1.below ((Below.refl _ W).alloc (Nat.le_refl _) _))
  go_wp2_with (at_builtin;refine wp_appx (w0:=W) (base:=W.heap.size) (n:=0) rfl (.tmp 29) (.tmp 33) rfl _ [] xs sp rfl rfl HXX.out.symm hra.out (World.ownsRow_made W #[] 0 (Nat.le_refl _) (Nat.zero_le _) rfl) ((Below.refl _ W).alloc (Nat.le_refl _) _) (by simp) (by have:=HL.out;have:=HXX.out;omega) ?_)
  intro v2 w2 ho2 hb2
  have HO2:=Lib.hid ho2
  have HB2:=Lib.hid hb2
  obtain ⟨q2,c2,rfl,-⟩:=rown_sl ho2
  clear ho2 hb2
  go_wp2_with (at_builtin;refine wp_appx (w0:=W) (base:=W.heap.size) (n:=X) rfl (.tmp 34) (.tmp 35) rfl _ xs ys1 q1 rfl rfl HZ1.out.1 ((rd_of HO1j.out).below HB2.out) HO2.out HB2.out HB2.out.size (by have:=HL.out;have:=HXX.out;have:=HM.out;have:=HZ1.out;omega) ?_)
  intro v3 w3 ho3 hb3
  obtain ⟨q3,c3,rfl,-⟩:=rown_sl ho3
  have HO3:=Lib.hid ho3
  have HB3:=Lib.hid hb3
  have a3:=(hb3.block q.bl hlt).trans HA1.out
  have HA3:=Lib.hid a3
  have m4:=cell_of_block5 a3 4 rfl
  have m6:=cell_of_block5 a3 6 rfl
  have f4:=frozenC (i:=4) a3
  have f6:=frozenC (i:=6) a3
  have hwl:IntKind.i64.wrap ((last:Int)+1)=((last+1:Nat):Int):=by have:=HL.out;rw [IntKind.wrap_i64];omega
  clear ho3 hb3 a3 HO2
  go_wp2_with fail
  go_ret2
  refine ⟨rfl,ys1,by have:=HZ1.out;omega,?_,?_⟩
  · refine ⟨⟨_,(rlog_set HA3.out).2,?_⟩⟩
    have hlen:X+m1=(xs++ys1).length:=by rw [List.length_append,HXX.out,HZ1.out.1]
    have hby3:Byt w3 N (.slice q3 (X+m1) c3) (xs++ys1):=by
      refine Byt.own HO3.out (fun k hk=>?_)
      have:=HN.out k hk
      have:=HB1j.out.size
      omega
    refine Byt.upd (S:=fun k=>k=q.bl) hby3 ((Upd.setC w3 q.bl 6 _).trans' (Upd.setC _ q.bl 4 _) (fun _ _ h=>h)) (fun k hk ht=>?_)
    subst hk
    exact absurd (Typed.one ⟨_,HA3.out⟩ ht) (by decide)
  · exact ((Upd.of_below' HB1j.out _).trans' (Upd.of_below' HB3.out _) (fun _ _ h=>h)).trans' ((Upd.setC w3 q.bl 6 _).trans' (Upd.setC _ q.bl 4 _) (fun _ _ h=>h)) (fun _ _ h=>h)
end
end Go.Proofs.YtheeomjfpnijbaaGreatDoor
end
section
namespace Go.Proofs.YtheeomjfpnijbaaGreatDoor
open Go.RowKit
set_option maxRecDepth 20000
theorem rdr_cells {w:World} {base L c tx:Nat} {p:Option Addr} {rs:List DRec} (ho:w.ownsRow base 231 8 (.slice p L c) L (rs.flatMap (drCells tx))) {k:Nat} (hk:k < L) {r:DRec} (hr:rs[k]?=some r) :
    ∃ g,p=some ⟨g,0,none⟩∧w.cell? ⟨g,k * 8,none⟩=some (.int .i64 1)∧w.cell? ⟨g,k * 8+1,none⟩=some (.int .i64 tx)∧w.cell? ⟨g,k * 8+2,none⟩=some (.int .i64 r.page)∧w.cell? ⟨g,k * 8+3,none⟩=some (.int .i64 r.off)∧w.cell? ⟨g,k * 8+4,none⟩=some (.string r.ahead)∧w.cell? ⟨g,k * 8+5,none⟩=some (.string r.behind)∧w.cell? ⟨g,k * 8+6,none⟩=some (.int .i64 0)∧w.cell? ⟨g,k * 8+7,none⟩=some (.int .i64 r.lsn):=by
  obtain ⟨g,rfl,-,ht,hc⟩:=rown_at ho (by omega)
  have e:=fun j v hv=>hc _ _ (rflat_at (drCells tx) 8 (fun _=>rfl) rs k j r v hr hv)
  exact ⟨g,rfl,e 0 _ rfl,e 1 _ rfl,e 2 _ rfl,e 3 _ rfl,e 4 _ rfl,e 5 _ rfl,e 6 _ rfl,e 7 _ rfl⟩
section
variable {q:RPar} {last:Nat} {rs:List DRec}
theorem RMan.facts {w:World} (h:RMan q w last rs):∃ (ga ca:Nat) (pr:Option Addr) (cr:Nat),w.heap[q.bn]?=some (.cells #[.pointer (some ⟨q.x,0,none⟩),.pointer (some ⟨q.bl,0,none⟩),.pointer (some ⟨q.bq,0,none⟩),.int .i64 q.pages,.int .i64 last,.slice (some ⟨ga,0,none⟩) 1 ca,.slice pr rs.length cr] 205 (0,0)) ∧
    w.cell? ⟨ga,0,none⟩=some (.int .i64 q.tx)∧w.ownsRow q.B 3 1 (.slice (some ⟨ga,0,none⟩) 1 ca) 1 [.int .i64 q.tx]∧w.ownsRow q.B 231 8 (.slice pr rs.length cr) rs.length (rs.flatMap (drCells q.tx)):=by
  obtain ⟨av,rv,a,b,c⟩:=h.cells
  obtain ⟨pa,ca,rfl,-⟩:=rown_sl b
  obtain ⟨pr,cr,rfl,-⟩:=rown_sl c
  obtain ⟨ga,rfl,-,-,hc⟩:=rown_at b (by omega)
  exact ⟨ga,ca,pr,cr,a,hc 0 _ rfl,b,c⟩
set_option maxHeartbeats 1000000 in
theorem ropen_any (w:World) (h:RMan q w last rs) :
    Calls Tryz.prog 105 #[.pointer (some ⟨q.bn,0,none⟩),.int .i64 q.tx] w fun e w'=>e=.returned (.bool true)∧w'=w:=by
  obtain ⟨ga,ca,pr,cr,a,hc,-,-⟩:=h.facts
  have k5:=cell_of_block5 a 5 rfl
  clear h a
  go_enter Tryz.func105,Tryz.ntmps105
  go_wp2_with fail
  go_loopw [12] (fun i wr=>i=.int .i64 0∧wr=w) (fun _ _=>0)
  case atStart=>exact ⟨rfl,rfl⟩
  case round =>
    obtain ⟨rfl,rfl⟩:=hrel
    go_wp2_with fail
    go_ret
    exact ⟨rfl,rfl⟩
set_option maxHeartbeats 1000000 in
theorem rundone_any (l:Int) (w:World) (h:RMan q w last rs) (hs:rs.length≤1000) :
    Calls Tryz.prog 244 #[.pointer (some ⟨q.bn,0,none⟩),.int .i64 q.tx,.int .i64 l] w fun e w'=>e=.returned (.bool false)∧Below w.heap.size w w':=by
  obtain ⟨ga,ca,pr,cr,a,-,-,ho⟩:=h.facts
  obtain ⟨L,hL⟩:∃ L,L=rs.length:=⟨_,rfl⟩
  rw [← hL] at ho a hs
  have k6:=cell_of_block5 a 6 rfl
  have HO:=Lib.hid ho
  have HL:=Lib.hid hL
  clear h a ho hL
  go_enter Tryz.func244,Tryz.ntmps244
  go_wp2_with fail
  go_loopw [14] (fun i wr=>∃ k:Nat,k≤L∧i=.int .i64 k∧Hid (Below w.heap.size w wr)) (fun i _=>L - (intOf i).toNat)
  case atStart=>exact ⟨0,Nat.zero_le _,rfl,Lib.hid (Below.refl _ _)⟩
  case round =>
    obtain ⟨k,hk,rfl,HB⟩:=hrel
    by_cases hlt:k < L
    · obtain ⟨r,hr⟩:∃ r,rs[k]?=some r:=⟨_,List.getElem?_eq_getElem (by rw [← HL.out];exact hlt)⟩
      obtain ⟨g,rfl,c0,c1,c2,c3,c4,c5,c6,c7⟩:=rdr_cells HO.out hlt hr
      have c0:=keepC HB.out c0
      have c1:=keepC HB.out c1
      have c2:=keepC HB.out c2
      have c3:=keepC HB.out c3
      have c4:=keepC HB.out c4
      have c5:=keepC HB.out c5
      have c6:=keepC HB.out c6
      have c7:=keepC HB.out c7
      have HB2:Hid (∀ o,Below w.heap.size w (wr.alloc o)):=Lib.hid (fun o=>HB.out.alloc HB.out.size o)
      clear hr
      go_wp2_with fail
      go_roundw
      case rel=>exact ⟨k+1,by omega,by go_num,Lib.hid (HB2.out _)⟩
      case measure=>simp [intOf];omega
    · obtain rfl:k=L:=by omega
      go_wp2_with fail
      go_ret
      exact ⟨rfl,HB.out⟩
set_option maxHeartbeats 2000000 in
theorem rneed_any (w:World) (h:RMan q w last rs) (hs:rs.length≤1000) :
    Calls Tryz.prog 190 #[.pointer (some ⟨q.bn,0,none⟩)] w fun e w'=>e=.returned (.int .i64 (160 * rs.length+16:Nat))∧Below w.heap.size w w':=by
  obtain ⟨ga,ca,pr,cr,a,hc,-,ho⟩:=h.facts
  obtain ⟨L,hL⟩:∃ L,L=rs.length:=⟨_,rfl⟩
  rw [← hL] at ho a hs ⊢
  have k5:=cell_of_block5 a 5 rfl
  have k6:=cell_of_block5 a 6 rfl
  have HK:=Lib.hid (And.intro k5 (And.intro k6 hc))
  have H:=Lib.hid h
  have HO:=Lib.hid ho
  have HL:=Lib.hid hL
  clear h a ho hL k6
  go_enter Tryz.func190,Tryz.ntmps190
  go_wp2_with fail
  go_loopw [3,13] (fun n i wr=>Hid (Below w.heap.size w wr)∧((i=.int .i64 0∧n=.int .i64 0) ∨ (i=.int .i64 1∧n=.int .i64 (160 * L+16:Nat)))) (fun _ i _=>1 - (intOf i).toNat)
  case atStart=>exact ⟨Lib.hid (Below.refl _ _),.inl ⟨rfl,rfl⟩⟩
  case round =>
    obtain ⟨HB,⟨rfl,rfl⟩ | ⟨rfl,rfl⟩⟩:=hrel
    · obtain ⟨wo,rfl⟩:∃ wo:World,wo=wr:=⟨_,rfl⟩
      have j5:=keepC HB.out HK.out.1
      have j6:=keepC HB.out HK.out.2.1
      have jc:=keepC HB.out HK.out.2.2
      clear k5 hc
      go_wp2_with fail
      go_loopw [3,22] (fun n i wi=>∃ k:Nat,k≤L∧i=.int .i64 k∧n=.int .i64 (160 * k:Nat)∧Hid (Below w.heap.size w wi)) (fun _ i _=>L - (intOf i).toNat)
      case atStart=>exact ⟨0,Nat.zero_le _,rfl,rfl,HB⟩
      case round =>
        obtain ⟨k,hk,rfl,rfl,HB1⟩:=hrel
        by_cases hlt:k < L
        · obtain ⟨r,hr⟩:∃ r,rs[k]?=some r:=⟨_,List.getElem?_eq_getElem (by rw [← HL.out];exact hlt)⟩
          obtain ⟨g,rfl,c0,c1,c2,c3,c4,c5,c6,c7⟩:=rdr_cells HO.out hlt hr
          have c0:=keepC HB1.out c0
          have c1:=keepC HB1.out c1
          have c2:=keepC HB1.out c2
          have c3:=keepC HB1.out c3
          have c4:=keepC HB1.out c4
          have c5:=keepC HB1.out c5
          have c6:=keepC HB1.out c6
          have c7:=keepC HB1.out c7
          have HB2:Hid (∀ o,Below w.heap.size w (wr.alloc o)):=Lib.hid (fun o=>HB1.out.alloc HB1.out.size o)
          have hw:IntKind.i64.wrap (160 * (k:Int)+160)=((160 * (k+1):Nat):Int):=by rw [IntKind.wrap_i64];omega
          clear hr
          go_wp2_with fail
          (with_reducible refine (rundone_any _ _ (H.out.below (HB2.out _)) (by rw [← HL.out];exact hs)).mono ?_)
          rintro e w2 ⟨rfl,hb2⟩
          have HB3:Hid (Below w.heap.size w w2):=Lib.hid ((HB2.out _).trans (hb2.mono (HB2.out _).size))
          clear hb2
          go_wp2_with fail
          go_roundw
          case rel=>exact ⟨k+1,by omega,by go_num,by first | rfl | (rw [← hw];first | rfl | simp) | (simp;omega),HB3⟩
          case measure=>simp [intOf];omega
        · obtain rfl:k=L:=by omega
          have hw:IntKind.i64.wrap (160 * (k:Int)+16)=((160 * k+16:Nat):Int):=by rw [IntKind.wrap_i64];omega
          go_wp2_with fail
          go_roundw
          case rel=>exact ⟨HB1,.inr ⟨by first | rfl | simp,by first | rfl | (rw [← hw];first | rfl | simp) | (simp;omega)⟩⟩
          case measure=>simp [intOf]
    · go_wp2_with fail
      go_ret
      exact ⟨rfl,HB.out⟩
end
end Go.Proofs.YtheeomjfpnijbaaGreatDoor
end
section
namespace Go.Proofs.YtheeomjfpnijbaaGreatDoor
open Go.RowKit
set_option maxRecDepth 20000
structure RSt where
  last:Nat
  ll:Nat
  xs:List UInt8
  rs:List DRec
  bs:List DBuf
structure RMgr (N:Nat→Prop) (q:RPar) (w:World) (s:RSt):Prop where
  pool:RPool N q w s.bs
  log:RLog N q w s.ll s.xs
  man:RMan q w s.last s.rs
  no:∀ k,N k→k < w.heap.size
  base:q.B≤w.heap.size
section
variable {N:Nat→Prop} {q:RPar} {s:RSt}
theorem RMgr.below {w w':World} (h:RMgr N q w s) (hb:Below w.heap.size w w'):RMgr N q w' s:=⟨h.pool.below hb,h.log.below hb,h.man.below hb,fun k hk=>Nat.lt_of_lt_of_le (h.no k hk) hb.size,Nat.le_trans h.base hb.size⟩
theorem RMgr.pooled {w w':World} {bs':List DBuf} (h:RMgr N q w s) (hu:Upd (PS q w) w w') (hp:RPool N q w' bs'):RMgr N q w' { s with bs:=bs' }:=⟨hp,h.log.pool hu,h.man.pool hu,fun k hk=>Nat.lt_of_lt_of_le (h.no k hk) hu.size,Nat.le_trans h.base hu.size⟩
def ReadQ6 (N:Nat→Prop) (q:RPar) (w:World) (s:RSt) (n:Nat) (e:Ending) (w':World):Prop :=
  ∃ (bs':List DBuf) (p:Option Addr) (c:Nat),e=.returned (.tuple #[.slice p 112 c,.int .i64 0])∧w'.ownsRow w.heap.size 5 1 (.slice p 112 c) 112 (B8s (cd s.bs n))∧RMgr N q w' { s with bs:=bs' }∧(∀ m,cd bs' m=cd s.bs m)∧bs'.length≤s.bs.length+1∧Upd (PS q w) w w'
set_option maxHeartbeats 1000000 in
theorem rread6_any (n:Nat) (w:World) (h:RMgr N q w s) (hn:n < q.pages) (hs:s.bs.length≤60) :
    Calls Tryz.prog 61 #[.pointer (some ⟨q.bn,0,none⟩),.int .i64 q.tx,.int .i64 n] w (ReadQ6 N q w s n):=by
  obtain ⟨ga,ca,pr,cr,a,hc,-,-⟩:=h.man.facts
  have k2:=cell_of_block5 a 2 rfl
  have k3:=cell_of_block5 a 3 rfl
  have k5:=cell_of_block5 a 5 rfl
  have H:=Lib.hid h
  have HN:=Lib.hid hn
  have HS:=Lib.hid hs
  have b1:decide ((n:Int) < 0)=false:=decide_eq_false (by omega)
  have b2:decide ((n:Int) ≥ (q.pages:Int))=false:=decide_eq_false (by omega)
  have b2':decide (q.pages≤n)=false:=decide_eq_false (by omega)
  clear h a hn hs
  go_enter Tryz.func61,Tryz.ntmps61
  go_wp2_with fail
  (with_reducible refine (ropen_any _ H.out.man).mono ?_)
  rintro e w1 ⟨rfl,rfl⟩
  go_wp2_with fail
  go_loopw [32] (fun i wr=>(i=.int .i64 0 ∨ i=.int .i64 1)∧wr=w1) (fun i _=>1 - (intOf i).toNat)
  case atStart=>exact ⟨.inl rfl,rfl⟩
  case round =>
    obtain ⟨rfl | rfl,rfl⟩:=hrel
    · go_wp2_with fail
      go_roundw
      case rel=>exact ⟨.inr (by first | rfl | simp),by first | rfl | trivial⟩
      case measure=>simp [intOf]
    · go_wp2_with fail
      (with_reducible refine (rget_any n _ H.out.pool HN.out HS.out H.out.base H.out.no).mono ?_)
      intro e w2 hq
      unfold GetR5 at hq
      obtain ⟨bs',v,lsn,rfl,ho,hp,hcd,hl,hu⟩:=hq
      obtain ⟨q1,c1,rfl,-⟩:=rown_sl ho
      have HQ:Hid (wr.heap.size≤wr.heap.size):=Lib.hid (Nat.le_refl _)
      have HO:=Lib.hid ho
      have HP:=Lib.hid (And.intro hp (And.intro hcd (And.intro hl hu)))
      clear ho hp hcd hl hu
      go_wp2_with fail
      go_ret2
      exact ⟨bs',q1,c1,rfl,HO.out,H.out.pooled HP.out.2.2.2 HP.out.1,HP.out.2.1,HP.out.2.2.1,HP.out.2.2.2⟩
end
end Go.Proofs.YtheeomjfpnijbaaGreatDoor
end
