/- Lemmas: RefAdd, RefWith, RefApply. -/
import Derived.Test.YtheeomjfpnijbaaGreatDoorZRc
import Derived.Outline
import Derived.Test.YtheeomjfpnijbaaGreatDoorWithP
set_option linter.unusedVariables false
set_option maxRecDepth 20000
section
namespace Go.Proofs.YtheeomjfpnijbaaGreatDoor
open Go.RowKit
set_option maxRecDepth 20000
section
variable {N:Nat→Prop} {q:RPar} {s:RSt}
theorem LS.of {a b:World} (h:Below a.heap.size a b):Upd (LS q a) a b:=Upd.of_below' h _
theorem LS.trans {a b c:World} (h:Upd (LS q a) a b) (k:Upd (LS q b) b c):Upd (LS q a) a c:=Upd.same (R:=LS q) ls_same h k
def AddQ6 (N:Nat→Prop) (q:RPar) (w:World) (s:RSt) (e:Ending) (w':World):Prop :=
  ∃ (zs:List UInt8) (r:DRec),e=.returned (.tuple #[.int .i64 (s.ll+1:Nat),.int .i64 0])∧zs.length≤302∧RMgr N q w' { s with last:=q.tx,ll:=s.ll+1,xs:=s.xs++zs,rs:=s.rs++[r] }∧Upd (LS q w) w w'
theorem radd_end {w wc W3 WB w5 W7:World} {b ga ca L cr d5 n ls la:Nat} {pr q5:Option Addr} {r:DRec} {zs:List UInt8} {X:Obj} (hB:Upd (LS q w) w wc) (hno:∀ k,N k→k < w.heap.size) (hbase:q.B≤w.heap.size) (hlog:RLog N q wc ls (s.xs++zs)) (hpool:RPool N q wc s.bs) (hX:wc.heap[b]?=some X) (hXt:Typed wc b 231) (hbB:q.B≤b) (hu3:Upd (fun k=>k=b) wc W3)
    (a3:W3.heap[q.bn]?=some (.cells #[.pointer (some ⟨q.x,0,none⟩),.pointer (some ⟨q.bl,0,none⟩),.pointer (some ⟨q.bq,0,none⟩),.int .i64 q.pages,.int .i64 la,.slice (some ⟨ga,0,none⟩) 1 ca,.slice pr L cr] 205 (0,0)))
    (oa3:W3.ownsRow q.B 3 1 (.slice (some ⟨ga,0,none⟩) 1 ca) 1 [.int .i64 q.tx]) (or3:W3.ownsRow q.B 231 8 (.slice pr L cr) L (s.rs.flatMap (drCells q.tx))) (hL:L=s.rs.length) (hls:ls=s.ll+1)
    (hWB:Below W3.heap.size W3 WB) (ho5:w5.ownsRow q.B 231 8 (.slice q5 n d5) n (s.rs.flatMap (drCells q.tx)++drCells q.tx r)) (hn:n=L+1) (hg5:WB.grownBy w5 (Value.slice pr L cr).ownBlock) (hu7:Upd (fun k=>k=q.bn) w5 W7)
    (a7:W7.heap[q.bn]?=some (.cells #[.pointer (some ⟨q.x,0,none⟩),.pointer (some ⟨q.bl,0,none⟩),.pointer (some ⟨q.bq,0,none⟩),.int .i64 q.pages,.int .i64 q.tx,.slice (some ⟨ga,0,none⟩) 1 ca,.slice q5 n d5] 205 (0,0))) :
    RMgr N q W7 { s with last:=q.tx,ll:=s.ll+1,xs:=s.xs++zs,rs:=s.rs++[r] }∧Upd (LS q w) w W7:=by
  have hrt:∀ k,some k=(Value.slice pr L cr).ownBlock→Typed W3 k 231:=fun k hk=>own_typed or3 hk
  have hnt:Typed W3 q.bn 205:=⟨_,a3⟩
  have hu37:Upd (fun k=>k=q.bn ∨ some k=(Value.slice pr L cr).ownBlock) W3 W7:=((Upd.of_below' hWB _).trans' (Upd.of_grown hg5) (fun _ _ h=>.inr h)).trans' hu7 (fun _ _ h=>.inl h)
  have h3:Upd (LS q wc) wc W3:=hu3.mono fun k _ hk=>by subst hk;exact ⟨hbB,.inr (.inr hXt)⟩
  have h37:Upd (LS q W3) W3 W7:=hu37.mono fun k _ hk=>by
    rcases hk with rfl | hk
    · exact ⟨q.hn,.inr (.inl hnt)⟩
    · exact ⟨own_ge or3 hk,.inr (.inr (hrt k hk))⟩
  have hc7:Upd (LS q wc) wc W7:=LS.trans h3 h37
  have hw7:Upd (LS q w) w W7:=LS.trans hB hc7
  have hnL:∀ k,k=b ∨ k=q.bn ∨ some k=(Value.slice pr L cr).ownBlock→True:=fun _ _=>trivial
  refine ⟨⟨hpool.others hc7,?_,⟨⟨_,_,a7,?_,?_⟩⟩,fun k hk=>Nat.lt_of_lt_of_le (hno k hk) hw7.size,Nat.le_trans hbase hw7.size⟩,hw7⟩
  · have l3:RLog N q W3 ls (s.xs++zs):=hlog.upd hu3 (fun k hk ht=>by subst hk;exact absurd (hXt.one ht) (by decide)) (fun k hk ht=>by subst hk;exact absurd (hXt.one ht) (by decide))
    have l7:RLog N q W7 ls (s.xs++zs):=l3.upd hu37 (fun k hk ht=>by rcases hk with rfl | hk <;> first | exact absurd (hnt.one ht) (by decide) | exact absurd ((hrt _ hk).one ht) (by decide)) (fun k hk ht=>by rcases hk with rfl | hk <;> first | exact absurd (hnt.one ht) (by decide) | exact absurd ((hrt _ hk).one ht) (by decide))
    rw [hls] at l7
    exact l7
  · exact own_upd oa3 hu37 (fun k hk ht=>by rcases hk with rfl | hk <;> first | exact absurd (hnt.one ht) (by decide) | exact absurd ((hrt _ hk).one ht) (by decide))
  · have e1:n=(s.rs++[r]).length:=by rw [List.length_append,List.length_singleton,← hL];exact hn
    have e2:s.rs.flatMap (drCells q.tx)++drCells q.tx r=(s.rs++[r]).flatMap (drCells q.tx):=by rw [List.flatMap_append,List.flatMap_cons,List.flatMap_nil,List.append_nil]
    rw [e2] at ho5
    have hq5:∀ k,some k=(Value.slice q5 n d5).ownBlock→k ≠ q.bn:=fun k hk e=>by
      subst e
      obtain ⟨cs,hcs⟩:=own_typed ho5 hk
      have h5:w5.heap[q.bn]?=W3.heap[q.bn]?:=by
        refine ((Upd.of_grown hg5).block q.bn (Nat.lt_of_lt_of_le (Array.getElem?_eq_some_iff.1 a3).1 hWB.size) (fun e=>absurd ((hrt _ e).one hnt) (by decide))).trans (hWB.block _ (Array.getElem?_eq_some_iff.1 a3).1)
      rw [h5,a3] at hcs
      cases hcs
    have:=own_updO ho5 hu7 (fun k hk _ ho _=>hq5 k ho hk)
    show W7.ownsRow q.B 231 8 (.slice q5 n d5) (s.rs++[r]).length _
    rw [← e1]
    exact this
set_option maxHeartbeats 4000000 in
theorem radd_any (page off lsn:Nat) (ahead behind:ByteArray) (w:World) (h:RMgr N q w s) (h1:1≤q.tx∧q.tx < 1000000) (h2:page < 1000000) (h3:off < 1000000) (h4:ahead.size≤112) (h5:behind.size≤112) (hl:q.logs≤4096) (hroom:s.xs.length+302≤q.logs * 112) (hlast:s.ll≤100000) (hrs:s.rs.length≤1000) (hla:s.last≤q.tx) :
    Calls Tryz.prog 191 #[.pointer (some ⟨q.bn,0,none⟩),drVal 1 q.tx page off ahead behind lsn] w (AddQ6 N q w s):=by
  have HNO:=Lib.hid h.no
  have HBS:=Lib.hid h.base
  obtain ⟨ls,hls0⟩:∃ n,n=s.ll+1:=⟨_,rfl⟩
  have HLS:=Lib.hid hls0
  obtain ⟨b,hb⟩:∃ b,b=w.heap.size:=⟨_,rfl⟩
  obtain ⟨W0,hW0⟩:∃ W,W=w.alloc (drObj 1 q.tx page off ahead behind lsn):=⟨_,rfl⟩
  have hX:W0.heap[b]?=some (drObj 1 q.tx page off ahead behind lsn):=by rw [hW0,hb];exact heap_alloc_new w _
  have hB0:Below w.heap.size w W0:=by rw [hW0];exact (Below.refl _ w).alloc (Nat.le_refl _) _
  obtain ⟨x0,x1,x2,x3,x4,x5,x6,x7⟩:=dr_facts hX
  obtain ⟨ga,ca,pr,cr,a0,-,oa0,or0⟩:=h.man.facts
  have hRb:∀ k,some k=(Value.slice pr s.rs.length cr).ownBlock→k ≠ b:=fun k hk e=>by
    have:=(or0.lt k hk.symm).2
    rw [hb] at e
    omega
  have hAb:∀ k,some k=(Value.slice (some ⟨ga,0,none⟩) 1 ca).ownBlock→k ≠ b:=fun k hk e=>by
    have:=(oa0.lt k hk.symm).2
    rw [hb] at e
    omega
  have a:=(hB0.block q.bn (Array.getElem?_eq_some_iff.1 a0).1).trans a0
  have oa:=own_upd oa0 (Upd.of_below' hB0 (fun _=>False)) (fun _ h=>h.elim)
  have or1:=own_upd or0 (Upd.of_below' hB0 (fun _=>False)) (fun _ h=>h.elim)
  have hM0:=h.below hB0
  obtain ⟨L,hL⟩:∃ L,L=s.rs.length:=⟨_,rfl⟩
  rw [← hL] at a or1 hRb
  have HA:=Lib.hid (And.intro a (And.intro oa (And.intro or1 (And.intro hRb (And.intro hAb hL)))))
  have k1:=cell_of_block5 a 1 rfl
  have HXO:=Lib.hid hX
  have HM:=Lib.hid hM0
  have HB0:=Lib.hid hB0
  have HBB:Hid (q.B≤b):=Lib.hid (by rw [hb];exact HBS.out)
  have HL:=Lib.hid (And.intro hl (And.intro hroom (And.intro hlast (And.intro hrs (And.intro hla h1)))))
  have HEN:Hid (Calls Tryz.prog 189 #[.agg #[.int .i64 1,.int .i64 q.tx,.int .i64 page,.int .i64 off,.string ahead,.string behind,.int .i64 0,.int .i64 lsn]] W0.drew (LenQ 1 300 W0.drew)):=Lib.hid (renc_any q.tx page off lsn ahead behind W0.drew (by omega) h2 h3 h4 h5)
  have k1':W0.drew.cell? ⟨q.bn,1,none⟩=some (.pointer (some ⟨q.bl,0,none⟩)):=k1
  have hbl:=(Array.getElem?_eq_some_iff.1 hX).1
  have BD:Hid (Below W0.heap.size W0 W0.drew):=Lib.hid (Below.refl _ W0).drew
  clear h hX hB0 hM0 a oa or1 a0 oa0 or0 hRb hAb hL h1 h2 h3 h4 h5 hl hroom hlast hrs hla
  clear hls0
  unfold drVal
  go_enter Tryz.func191,Tryz.ntmps191
  go_wp2_with fail
  unfold drObj at hW0
  rw [← hb,← hW0]
  clear hb hW0
  go_wp2_with fail
  go_cut [6,7] (fun v u wx=>v=.int .i64 ls∧u=.int .i64 0∧Hid (∃ zs:List UInt8,zs.length≤302∧RLog N q wx ls (s.xs++zs))∧Hid (Upd (fun k=>k=q.bl) W0 wx))
  case first =>
    go_region_law (first
      | (go_simp;go_at_call 189;(with_reducible refine (HEN.out).mono ?_);intro e w2 hq;unfold LenQ at hq;obtain ⟨q2,m2,c2,ys2,rfl,ho2,hl2,ha2,hz2,hb2⟩:=hq;have hb2':=(BD.out.trans (hb2.mono BD.out.size));have k12:=keepC hb2' k1;have HAP:Hid (Calls Tryz.prog 246 #[.pointer (some ⟨q.bl,0,none⟩),.slice q2 m2 c2] w2 fun e w'=>e=.returned (.tuple #[.int .i64 ls,.int .i64 0])∧AppQ3 N q w2 s.ll s.xs m2 w'):=Lib.hid (by rw [HLS.out];exact rappend_any q2 m2 c2 s.ll ys2 s.xs w2 (HM.out.log.below hb2') hl2 ⟨ha2,(by omega)⟩ (rd_of ho2) HL.out.1 (by have:=HL.out;omega) (by have:=HL.out;omega) (fun k hk=>Nat.lt_of_lt_of_le (HM.out.no k hk) hb2'.size));have HB2:=Lib.hid (And.intro hb2' hz2);clear ho2 hl2 ha2 hz2 hb2 hb2')
      | (go_simp;go_at_call 246;(with_reducible refine (HAP.out).mono ?_);intro e w3 hq;obtain ⟨rfl,hq⟩:=hq;have HQ3:=Lib.hid hq;clear hq))
    all_goals go_wp2
    all_goals go_meet
    all_goals
      obtain ⟨zs,z1,z2,z3⟩:=HQ3.out
      exact ⟨rfl,rfl,Lib.hid ⟨zs,by have:=HB2.out.2;omega,by rw [HLS.out];exact z2⟩,Lib.hid ((Upd.of_below' HB2.out.1 _).trans' z3 (fun _ _ h=>h))⟩
  case rest =>
    obtain ⟨rfl,rfl,hlog,hu⟩:=hcut
    obtain ⟨zs,hz,hlg⟩:=hlog.out
    have hX1:wc.heap[b]?=some (drObj 1 q.tx page off ahead behind lsn):=(hu.out.block b hbl (fun e=>by
      obtain ⟨sp,sc,a',-⟩:=HM.out.log.facts
      rw [← e,HXO.out] at a'
      cases a')).trans HXO.out
    have hls:Upd (LS q W0) W0 wc:=hu.out.mono fun k _ hk=>by
      obtain ⟨sp,sc,a',-⟩:=HM.out.log.facts
      subst hk
      exact ⟨q.hl,.inl ⟨_,a'⟩⟩
    have haw:wc.heap[q.bn]?=some (.cells #[.pointer (some ⟨q.x,0,none⟩),.pointer (some ⟨q.bl,0,none⟩),.pointer (some ⟨q.bq,0,none⟩),.int .i64 q.pages,.int .i64 s.last,.slice (some ⟨ga,0,none⟩) 1 ca,.slice pr L cr] 205 (0,0)):=(hu.out.block q.bn (Array.getElem?_eq_some_iff.1 HA.out.1).1 (fun e=>by
      obtain ⟨sp,sc,a',-⟩:=HM.out.log.facts
      rw [← e,HA.out.1] at a'
      cases a')).trans HA.out.1
    have hMan:RMan q wc s.last s.rs:=HM.out.man.upd hu.out (fun k hk=>by
      obtain ⟨sp,sc,a',-⟩:=HM.out.log.facts
      subst hk
      exact ⟨fun ht=>absurd (Typed.one ⟨_,a'⟩ ht) (by decide),fun ht=>absurd (Typed.one ⟨_,a'⟩ ht) (by decide),fun ht=>absurd (Typed.one ⟨_,a'⟩ ht) (by decide)⟩)
    have hPool:=HM.out.pool.others hls
    have hoa:wc.ownsRow q.B 3 1 (.slice (some ⟨ga,0,none⟩) 1 ca) 1 [.int .i64 q.tx]:=own_upd HA.out.2.1 hu.out (fun k hk ht=>by
      obtain ⟨sp,sc,a',-⟩:=HM.out.log.facts
      subst hk
      exact absurd (Typed.one ⟨_,a'⟩ ht) (by decide))
    have hor:wc.ownsRow q.B 231 8 (.slice pr L cr) L (s.rs.flatMap (drCells q.tx)):=own_upd HA.out.2.2.1 hu.out (fun k hk ht=>by
      obtain ⟨sp,sc,a',-⟩:=HM.out.log.facts
      subst hk
      exact absurd (Typed.one ⟨_,a'⟩ ht) (by decide))
    have hxt:Typed wc b 231:=⟨_,hX1⟩
    have HXT:=Lib.hid (And.intro hX1 hxt)
    have HLG:=Lib.hid (And.intro hz (And.intro hlg (And.intro hls (And.intro hMan hPool))))
    have f7:=frozenC (i:=7) hX1
    have c7:wc.cell? ⟨b,7,none⟩=some (.int .i64 lsn):=(dr_facts hX1).2.2.2.2.2.2.2
    obtain ⟨W3,hW3⟩:∃ W,W=wc.setCell ⟨b,7,none⟩ (.int .i64 ls):=⟨_,rfl⟩
    have hX3:W3.heap[b]?=some (drObj 1 q.tx page off ahead behind ls):=by
      rw [hW3]
      have:=heap_setCell_same wc b 7 _ _ (.int .i64 ls) hX1
      simpa [drObj] using this
    have hu3:Upd (fun k=>k=b) wc W3:=by rw [hW3];exact Upd.setC wc b 7 _
    have hbn:b ≠ q.bn:=fun e=>by have:=HA.out.1;rw [← e,HXO.out] at this;cases this
    have a3:=(hu3.block q.bn (Array.getElem?_eq_some_iff.1 haw).1 (fun e=>hbn e.symm)).trans haw
    have oa3:=own_updO hoa hu3 (fun k hk _ ho _=>HA.out.2.2.2.2.1 k ho hk)
    have or3:=own_updO hor hu3 (fun k hk _ ho _=>HA.out.2.2.2.1 k ho hk)
    have hl3:=(Array.getElem?_eq_some_iff.1 hX3).1
    have hn3:=(Array.getElem?_eq_some_iff.1 a3).1
    obtain ⟨y0,y1,y2,y3,y4,y5,y6,y7⟩:=dr_facts hX3
    have m6:=cell_of_block5 a3 6 rfl
    obtain ⟨r,hr⟩:∃ r:DRec,r=⟨page,off,ahead,behind,ls⟩:=⟨_,rfl⟩
    obtain ⟨i0,hi0,hz0,hz1,hz2⟩:=info_parts infoR6
    have hOA:Hid ((W3.alloc (.cells #[.int .i64 1,.int .i64 q.tx,.int .i64 page,.int .i64 off,.string ahead,.string behind,.int .i64 0,.int .i64 ls] 231)).drew.ownsRow q.B 231 8 (.slice pr L cr) L (s.rs.flatMap (drCells q.tx))):=Lib.hid ((or3.alloc _).drew)
    have hCA:Hid (Cells (W3.alloc (.cells #[.int .i64 1,.int .i64 q.tx,.int .i64 page,.int .i64 off,.string ahead,.string behind,.int .i64 0,.int .i64 ls] 231)).drew (some ⟨W3.heap.size,0,none⟩) (drCells q.tx r)):=Lib.hid (by
      intro _
      refine ⟨_,0,rfl,fun j v hv=>?_⟩
      rw [hr] at hv
      rw [Nat.zero_add]
      exact cellNew (by simpa [drCells] using hv))
    have hON:Hid (∀ u∈drCells q.tx r,u.oneCell'=true):=Lib.hid (fun u hu=>by
      simp only [drCells,List.mem_cons,List.not_mem_nil,or_false] at hu
      rcases hu with rfl | rfl | rfl | rfl | rfl | rfl | rfl | rfl <;> rfl)
    have hBD:Hid (L+1≤maxLen∧(L+1) * 80≤140737488355328∧q.B≤(W3.alloc (.cells #[.int .i64 1,.int .i64 q.tx,.int .i64 page,.int .i64 off,.string ahead,.string behind,.int .i64 0,.int .i64 ls] 231)).drew.heap.size):=Lib.hid (by
      have h1:=HL.out.2.2.2.1
      have h2:=HA.out.2.2.2.2.2
      refine ⟨by simp only [maxLen];omega,by omega,?_⟩
      have h3:=HM.out.base
      have h4:=hls.size
      have h5:=hu3.size
      show q.B≤(W3.alloc _).heap.size
      simp
      omega)
    have hWB:Hid (Below W3.heap.size W3 (W3.alloc (.cells #[.int .i64 1,.int .i64 q.tx,.int .i64 page,.int .i64 off,.string ahead,.string behind,.int .i64 0,.int .i64 ls] 231)).drew):=Lib.hid (((Below.refl _ W3).alloc (Nat.le_refl _) _).drew)
    have hQ:Hid (∀ k,some k=(Value.slice pr L cr).ownBlock→k ≠ q.bn∧k ≠ b):=Lib.hid (fun k hk=>⟨fun e=>by
      subst e
      exact absurd ((own_typed or3 hk).one ⟨_,a3⟩) (by decide),HA.out.2.2.2.1 k hk⟩)
    have HX3:=Lib.hid hX3
    have HU3:=Lib.hid hu3
    have HA3:=Lib.hid (And.intro a3 (And.intro oa3 or3))
    have HW3:=Lib.hid hW3
    clear hxt hX1 hls hMan hPool hz hlg hu hlog hX3 hu3 a3 oa3 or3 hoa hor haw
    go_wp2_with fail
    rw [← HW3.out]
    clear hW3
    go_region_law (refine step_appv rfl (.tmp 27) (.tmp 29) 203 231 rfl i0 _ 8 80 q.B L 1 1 Tryz.underlying203 hi0 hz0 hz1 hz2 rfl (by decide) _ _ (drCells q.tx r) (some ⟨W3.heap.size,0,none⟩) rfl rfl hOA.out rfl hCA.out hON.out hBD.out.1 hBD.out.2.1 hBD.out.2.2 ?_;intro v5 w5 ho5 hg5;obtain ⟨q5,d5,rfl,-⟩:=rown_sl ho5;have HO5:=Lib.hid ho5;have HG5:=Lib.hid hg5;have a5:=((Upd.of_grown hg5).block q.bn (Nat.lt_of_lt_of_le hn3 hWB.out.size) (fun e=>(hQ.out _ e).1 rfl)).trans ((hWB.out.block _ hn3).trans HA3.out.1);have x5:=((Upd.of_grown hg5).block b (Nat.lt_of_lt_of_le hl3 hWB.out.size) (fun e=>(hQ.out _ e).2 rfl)).trans ((hWB.out.block _ hl3).trans HX3.out);have m56:=cell_of_block5 a5 6 rfl;have f56:=frozenC (i:=6) a5;have A5:=Lib.hid (And.intro a5 x5);clear ho5 hg5 a5 x5)
    all_goals
      obtain ⟨W6,hW6⟩:∃ W,W=w5.setCell ⟨q.bn,6,none⟩ (.slice q5 (L+1) d5):=⟨_,rfl⟩
      have a6:W6.heap[q.bn]?=some (.cells #[.pointer (some ⟨q.x,0,none⟩),.pointer (some ⟨q.bl,0,none⟩),.pointer (some ⟨q.bq,0,none⟩),.int .i64 q.pages,.int .i64 s.last,.slice (some ⟨ga,0,none⟩) 1 ca,.slice q5 (L+1) d5] 205 (0,0)):=by
        rw [hW6]
        have:=heap_setCell_same w5 q.bn 6 _ _ (.slice q5 (L+1) d5) A5.out.1
        simpa using this
      have x6:W6.heap[b]?=some (drObj 1 q.tx page off ahead behind ls):=by
        rw [hW6]
        exact (heap_setCell_other w5 ⟨q.bn,6,none⟩ b _ hbn).trans A5.out.2
      have n4:=cell_of_block5 a6 4 rfl
      have n1:W6.cell? ⟨b,1,none⟩=some (.int .i64 q.tx):=(dr_facts x6).2.1
      have f4:=frozenC (i:=4) a6
      have hla:=HL.out.2.2.2.2.1
      have hm1:max (s.last:Int) (q.tx:Int)=(q.tx:Int):=by omega
      have hm2:(if (s.last:Int) < (q.tx:Int) then (q.tx:Int) else (s.last:Int))=(q.tx:Int):=by split <;> omega
      have hm3:(if s.last < q.tx then (q.tx:Int) else (s.last:Int))=(q.tx:Int):=by split <;> omega
      have A6:=Lib.hid a6
      have HW6:=Lib.hid hW6
      clear a6 x6 hla
      go_wp2_with fail
      rw [← HW6.out]
      clear hW6
      go_region
      all_goals go_wp2
      all_goals go_ret2
      all_goals
        refine ⟨zs,r,by rw [← HLS.out];rfl,HLG.out.1,?_⟩
        refine radd_end (w:=w) (LS.trans (LS.of HB0.out) HLG.out.2.2.1) HNO.out HBS.out HLG.out.2.1 HLG.out.2.2.2.2 HXT.out.1 HXT.out.2 HBB.out HU3.out HA3.out.1 HA3.out.2.1 HA3.out.2.2 HA.out.2.2.2.2.2 HLS.out hWB.out HO5.out rfl HG5.out ?_ ?_
        · refine Upd.trans' (b:=W6) (by rw [HW6.out];exact Upd.setC w5 q.bn 6 _) ?_ (fun _ _ h=>h)
          exact ⟨rfl,rfl,rfl,by simp,fun k hk hn=>heap_setCell_other W6 ⟨q.bn,4,none⟩ k _ hn⟩
        · have:=heap_setCell_same W6 q.bn 4 _ _ (.int .i64 q.tx) A6.out
          show (W6.setCell ⟨q.bn,4,none⟩ (.int .i64 q.tx)).heap[q.bn]?=_
          simpa using this
end
end Go.Proofs.YtheeomjfpnijbaaGreatDoor
end
section
namespace Go.Proofs.YtheeomjfpnijbaaGreatDoor
open Go.RowKit
set_option maxRecDepth 20000
def rwok (n:Nat) (off:Int) (m:Nat):Prop:=n=112∧0≤off∧m≤112∧off≤112 - (m:Int)
set_option maxHeartbeats 400000 in
theorem refwith_ok (p q:Option Addr) (n c m d:Nat) (off:Int) (xs ys:List UInt8) (w:World) (hx:xs.length=n) (hy:ys.length=m) (hr:Rd w p xs) (hs:Rd w q ys) (h:rwok n off m) :
    Calls Tryz.prog 241 #[.slice p n c,.int .i64 off,.slice q m d] w fun e w' =>
      ∃ v',e=.returned (.tuple #[v',.int .i64 0])∧w'.ownsRow w.heap.size 5 1 v' 112 (B8s (xs.take off.toNat++ys++xs.drop (off.toNat+ys.length)))∧Below w.heap.size w w':=by
  obtain ⟨hn,h1,h2,h3⟩:=h
  obtain ⟨k,rfl⟩:=Int.eq_ofNat_of_zero_le h1
  subst hn
  have hbad1:¬ (112:Int) < (m:Int):=by omega
  have hbad2:¬ (112:Int) - (m:Int) < (k:Int):=by omega
  have HR:=Lib.hid hr
  have HX:=Lib.hid hx
  clear hr hx
  go_enter Tryz.func241,Tryz.ntmps241
  obtain ⟨i0,hi,hz0,hz1,hz2⟩:=info_parts info8
  obtain ⟨pa,rfl,hnews⟩:=HR.out.news (by rw [HX.out];omega)
  have HN:=Lib.hid hnews
  clear hnews
  go_wp2_with (at_builtin;refine wpList_append_own _ rfl _ _ 76 rfl w.heap.size 5 i0 (.int .u8 0) 1 1 Tryz.underlying76 hi hz0 hz1 hz2 rfl (by decide) _ _ _ rfl (World.ownsRow_made w #[] 0 (Nat.le_refl _) (Nat.zero_le _) rfl) pa 112 c (B8s xs) rfl ?qc1 ?qc2 B8s_one ?qc4 ?qc5 ?qc6 ?_)
  case qc1=>rw [B8s_length,HX.out]
  case qc2 =>
    intro j u hj
    exact ((Upd.of_below' ((Below.refl _ w).alloc (Nat.le_refl _) _) (fun _=>False)).cell (HN.out j u hj) (fun h=>h))
  case qc4=>unfold maxLen;omega
  intro v' w1 hown hgrow _
  have hb:Below w.heap.size w w1:=((Below.refl _ w).alloc (Nat.le_refl _) _).grown hgrow (by simp) (by intro k hk;simp [Value.ownBlock] at hk;omega)
  clear hgrow
  obtain ⟨g,cap,cur,rfl,hg,hh,_,hc,hm⟩:=own8 hown (by omega)
  have HY:=Lib.hid hy
  have HH:=Lib.hid hh
  have HO:=Lib.hid hown
  have HC:=Lib.hid hc
  clear hy hh hown hc
  have hs1:Rd w1 q ys:=hs.below hb
  clear hs
  go_wp2_with (with_reducible (refine wpList_copy_splice rfl (.tmp 33) (.tmp 34) 76 76 rfl 5 Tryz.underlying76 sz8 _ _ _ _ _ _ rfl rfl g k (B8s xs++cur) 5 HH.out (B8s ys) ?n1 ?n2 ?n3 B8s_one w.heap.size w hb hg ?_))
  case n1=>rw [B8s_length,HY.out];show m=min m (112 - k);omega
  case n2.inl =>
    intro hp
    rw [B8s_length,HY.out] at hp
    have:=HC.out
    omega
  case n2.inr=>intro hp;rw [B8s_length] at hp;exact hs1.news hp
  case n3=>rw [List.length_append,B8s_length,B8s_length,HY.out,HX.out];omega
  all_goals
    intro w2 hh2 hb2
    go_wp2
    go_ret2
    refine ⟨_,rfl,?_,hb2⟩
    have e1:splice (B8s xs++cur) k (B8s ys)=B8s (xs.take k++ys++xs.drop (k+ys.length))++cur:=by
      have:=HX.out
      have:=HY.out
      unfold splice B8s
      rw [List.take_append_of_le_length (by simp;omega),List.drop_append_of_le_length (by simp;omega)]
      simp [List.map_drop,List.map_take]
    refine own8_mk hg (by rw [hh2.out,e1];rfl) ?_ ?_ (by omega)
    · have:=HX.out
      have:=HY.out
      simp;omega
    · have:=HC.out
      omega
end Go.Proofs.YtheeomjfpnijbaaGreatDoor
end
section
namespace Go.Proofs.YtheeomjfpnijbaaGreatDoor
open Go.RowKit
set_option maxRecDepth 20000
section
variable {N:Nat→Prop} {q:RPar} {s:RSt}
def ApplyQ6 (N:Nat→Prop) (q:RPar) (w:World) (s:RSt) (n:Nat) (xs:List UInt8) (k:Nat) (w':World):Prop :=
  ∃ bs':List DBuf,RMgr N q w' { s with bs:=bs' }∧(∀ m,cd bs' m=if m=n then xs else cd s.bs m)∧bs'.length≤s.bs.length+k∧Upd (PS q w) w w'
set_option maxHeartbeats 2000000 in
theorem rapply_any (n off lsn:Nat) (ys:List UInt8) (w:World) (h:RMgr N q w s) (hn:n < q.pages) (hs:s.bs.length≤50) (ho:off+ys.length≤112) (hl:1≤lsn∧lsn≤1000000) (hy:0 < ys.length) :
    Calls Tryz.prog 181 #[.pointer (some ⟨q.bn,0,none⟩),.int .i64 n,.int .i64 off,.string ⟨ys.toArray⟩,.int .i64 lsn] w fun e w'=>e=.returned (.int .i64 0)∧ApplyQ6 N q w s n (wth (cd s.bs n) off ys) 2 w':=by
  have hcv:=fun W=>Lib.run_convert_string_bytes (P:=Tryz.prog) W 9 76 5 ⟨ys.toArray⟩ Tryz.underlying9 Tryz.underlying76 Tryz.underlying5
  obtain ⟨ga,ca,pr,cr,a,-,-,-⟩:=h.man.facts
  have k2:=cell_of_block5 a 2 rfl
  have H:=Lib.hid h
  have HN:=Lib.hid (And.intro hn (And.intro hs (And.intro ho (And.intro hl hy))))
  clear h a hn hs ho hl hy
  go_enter Tryz.func181,Tryz.ntmps181
  go_wp2_with fail
  (with_reducible refine (rget_any n _ H.out.pool HN.out.1 (by have:=HN.out;omega) H.out.base H.out.no).mono ?_)
  intro e w1 hq
  unfold GetR5 at hq
  obtain ⟨bs1,v,l1,rfl,ho1,hp1,hcd1,hlen1,hu1⟩:=hq
  obtain ⟨q1,c1,rfl,-⟩:=rown_sl ho1
  have HO1:=Lib.hid ho1
  have HM1:=Lib.hid (H.out.pooled hu1 hp1)
  have HC1:=Lib.hid (And.intro hcd1 (And.intro hlen1 hu1))
  clear ho1 hp1 hcd1 hlen1 hu1 k2
  go_wp2_with fail
  have HWK:Hid (rwok 112 (off:Int) ys.length):=Lib.hid (by unfold rwok;exact ⟨rfl,by omega,by have:=HN.out;omega,by have:=HN.out;omega⟩)
  have HBB:=Lib.hid (bytes_below w1 ⟨ys.toArray⟩)
  have HXL:Hid ((cd s.bs n).length=112):=Lib.hid (by have:=HO1.out.1;rw [B8s_length] at this;omega)
  have hsz:(⟨ys.toArray⟩:ByteArray).size=ys.length:=by show ys.toArray.size=_;simp
  have hrd:Rd (Lib.bytesWorld w1 5 ⟨ys.toArray⟩) (some ⟨w1.heap.size,0,none⟩) ys:=by
    have:=bytes_rd w1 ⟨ys.toArray⟩
    simpa using this
  (with_reducible refine (refwith_ok q1 (some ⟨w1.heap.size,0,none⟩) 112 c1 ys.length _ (off:Int) (cd s.bs n) ys _ HXL.out rfl ((rd_of HO1.out).below HBB.out) hrd HWK.out).mono ?_)
  rintro e w2 ⟨v2,rfl,ho2,hb2⟩
  obtain ⟨q2,c2,rfl,-⟩:=rown_sl ho2
  have HB2:=Lib.hid (chainC HBB.out hb2)
  have HM2:=Lib.hid (HM1.out.below HB2.out)
  obtain ⟨xs2,hx2⟩:∃ x,x=wth (cd s.bs n) off ys:=⟨_,rfl⟩
  have ho2':w2.ownsRow (Lib.bytesWorld w1 5 ⟨ys.toArray⟩).heap.size 5 1 (.slice q2 112 c2) 112 (B8s xs2):=by rw [hx2];exact ho2
  have HBY:Hid (Byt w2 N (.slice q2 112 c2) xs2):=Lib.hid (Byt.own ho2' (fun k hk=>by
    have h1:=HM1.out.no k hk
    have h2:=HBB.out.size
    omega))
  obtain ⟨ga2,ca2,pr2,cr2,a2,-,-,-⟩:=HM2.out.man.facts
  have m2:=cell_of_block5 a2 2 rfl
  have HX2:=Lib.hid hx2
  clear ho2 ho2' hb2 hrd hsz a2 hx2
  go_wp2_with fail
  (with_reducible refine (rput_any n lsn c2 q2 xs2 w2 HM2.out.pool HN.out.1 (by have:=HN.out;have:=HC1.out.2.1;show bs1.length≤60;omega) HM2.out.base HM2.out.no HN.out.2.2.2.1 HBY.out).mono ?_)
  intro e w3 hq
  obtain ⟨rfl,hq⟩:=hq
  unfold PutR5 at hq
  obtain ⟨bs3,hp3,hcd3,hlen3,hu3⟩:=hq
  have HM3:=Lib.hid (HM2.out.pooled hu3 hp3)
  have HC3:=Lib.hid (And.intro hcd3 (And.intro hlen3 hu3))
  clear hp3 hcd3 hlen3 hu3
  go_wp2
  go_ret
  refine ⟨rfl,bs3,HM3.out,fun m=>?_,?_,PS.trans HC1.out.2.2 (PS.trans (PS.of HB2.out) HC3.out.2.2)⟩
  · rw [HC3.out.1 m]
    show (if m=n then xs2 else cd bs1 m)=_
    rw [HC1.out.1 m,HX2.out]
  · have h1:=HC1.out.2.1
    have h2:=HC3.out.2.1
    show bs3.length≤s.bs.length+2
    have h3:bs3.length≤bs1.length+1:=h2
    omega
end
end Go.Proofs.YtheeomjfpnijbaaGreatDoor
end
