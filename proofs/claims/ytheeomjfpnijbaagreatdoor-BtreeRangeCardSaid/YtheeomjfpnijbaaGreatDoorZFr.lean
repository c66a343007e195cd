/- Lemmas: Fresh1, Fresh2, Fresh3. -/
import Derived.Test.YtheeomjfpnijbaaGreatDoorZRf
import Derived.Test.YtheeomjfpnijbaaGreatDoorZBe
import Derived.Test.YtheeomjfpnijbaaGreatDoorZBc
import Derived.Test.YtheeomjfpnijbaaGreatDoorZAr
import Derived.Test.YtheeomjfpnijbaaGreatDoorZTr
set_option linter.unusedVariables false
section
namespace Go.Proofs.YtheeomjfpnijbaaGreatDoor
open Go.RowKit Go.Shelf
set_option maxRecDepth 20000
theorem MR.rowfar {k0:Int} {p:Par} {w:World} {s:ASt} {B E:Nat} (h:MR k0 p w s) (hF:∀ k,B≤k→k < E→s.N.far k):∀ k,MS s.N p w k→B≤k→k < E→¬ Typed w k 76:=fun k hm hb he ht=>by
  rcases hm with ⟨-,hm | hm | hm | hm | hm | hm | hm⟩ | ⟨-,hm | hm | hm | hm | ⟨-,hm⟩⟩
  · exact absurd (hm.one ht) (by decide)
  · exact hm.2 (hF k hb he)
  · exact absurd (hm.one ht) (by decide)
  · exact absurd (hm.one ht) (by decide)
  · exact absurd (hm.one ht) (by decide)
  · exact absurd (hm.one ht) (by decide)
  · exact h.run.pool.map.notTyped ht hm
  · exact h.map.notTyped ht hm
  · exact absurd (hm.one ht) (by decide)
  · exact absurd (hm.one ht) (by decide)
  · exact absurd (hm.one ht) (by decide)
  · exact absurd (hm.one ht) (by decide)
theorem RefE.step {k0:Int} {p:Par} {w w':World} {s:ASt} {N':Zone} {B E x n:Nat} (hr:RefE s.N w B E x n) (h:MR k0 p w s) (hs:Step p s.N w N' w') (hF:∀ k,B≤k→k < E→s.N.far k):RefE N' w' B E x n:=by
  obtain ⟨bs,c,xs,a1,a2,a3,a4,a5,a6,a7,a8⟩:=hr
  refine ⟨bs,c,xs,(hs.upd.block x (Array.getElem?_eq_some_iff.1 a1).1 (fun hk=>h.free (by decide) ⟨_,a1⟩ hk)).trans a1,own_updO a2 hs.upd (fun k hk hb ho ht=>?_),fun u hu=>?_,a4,a5,a6,a7,a8⟩
  · have e:k=bs:=by simpa [Value.ownBlock] using ho
    subst e
    exact h.rowfar hF k hk a7 a8 ht
  · obtain ⟨g,e,hg,hc,hn⟩:=a3 u hu
    have hlt:=(Array.getElem?_eq_some_iff.1 hc).1
    exact ⟨g,e,hg,(hs.upd.block g hlt (fun hk=>hn (h.free8 hk ⟨_,hc⟩))).trans hc,fun hn'=>hn (hs.zone g hlt hn')⟩
theorem TM.doc {p:Par} {tx cap:Nat} {w w':World} {s:ASt} {q:RPar} (h:TM p tx cap w s) (hB:s.N.B≤q.B) (hu:Upd (RS q w) w w'):TM p tx cap w' s :=
  h.turn hu hB (fun j hj=>by
    rcases hj with ⟨a,hj | hj⟩ | ⟨a,hj | hj | hj⟩
    · exact ⟨a,_,by decide,hj⟩
    · exact ⟨a,_,by decide,hj⟩
    · exact ⟨a,_,by decide,hj⟩
    · exact ⟨a,_,by decide,hj⟩
    · exact ⟨a,_,by decide,hj⟩)
def parF (bg bp bd bl bm ba logs pages n:Nat):Par:=⟨bg,bp,bd,bl,bm,ba,logs,pages,64,n,fun _=>[]⟩
def stF (Z:Nat) (F:Nat→Prop) (logs:Nat):ASt:=⟨zf Z F,0,0,[],C0,fun _=>zeros 128,⟨0,logs,1,0,0,0,.slice none 0 0,[]⟩,0,0,[],0⟩
theorem freshF_qm {Z:Nat} {F:Nat→Prop} {w:World} {bg bp bl bm ba bd logs pages n:Nat} (h1:w.heap[bg]?=some (MgrC bp bl pages ba)) (h2:St w (zf Z F) bd bl n 0 (fun _=>zeros 128) ⟨0,logs,1,0,0,0,.slice none 0 0,[]⟩) (h3:PoolAt w (zf Z F) bp bd bl bm logs pages 64 0 []) (h4:MapZ w ba []) (h5:Z≤bg) (h6:Z≤ba) (h7:ba ≠ bm) (hl:logs≤4096) (hp:1≤pages∧pages≤4096) (hn:logs+pages≤n) :
    QM (parF bg bp bd bl bm ba logs pages n) (logs * 112) w (stF Z F logs):=by
  refine ⟨{
    cells:=h1
    run:=⟨h2,h3,startInv_any _ _,hn,by show 0+logs≤logs;omega,.inl rfl,Nat.zero_le _,⟨by show 1≤64;omega,by show 64≤64;omega⟩⟩
    map:=h4
    txs:=fun x hx=>by cases hx
    apart:=List.nodup_nil
    rows:=List.Pairwise.nil
    low:=⟨h5,h6,h7,fun x hx=>by cases hx⟩
    pins:=fun n=>rfl
    few:=Nat.zero_le _
    keys:=fun x hx=>by cases hx
    last:=Nat.zero_le _
    cnt:=⟨Nat.le_refl _,Nat.le_refl _,Nat.le_refl _,Nat.le_refl _⟩
    ups:=fun x hx=>by cases hx
    ulen:=fun x hx=>by cases hx
    sect:=hl },rfl,fun n hn=>by show (zeros 112).length=112;simp [zeros],hp,rfl⟩
theorem init_good {cap:Nat} {a b:PSt} {c:Nat} (h:InitR cap a c b) (hc:a.u+796≤cap) (h0:(a.F 0).length≤112) (h1:(a.F 1).length≤112):c=0∧b.F=updF (updF a.F 0 (pad (Met.load ⟨1,2,0,1⟩))) 1 (pad [1,0])∧b.u≤a.u+796:=by
  have hm:(pad (Met.load ⟨1,2,0,1⟩)).length≤112:=by rw [pad_length (by decide)];omega
  have hn:(pad [1,0]).length≤112:=by rw [pad_length (by decide)];omega
  obtain ⟨e,b1,hw,hr⟩:=h
  have hw1:e=0∧b1.F=updF a.F 0 (pad (Met.load ⟨1,2,0,1⟩))∧b1.u≤a.u+398:=by
    rcases hw with ⟨h2,h3,-,k,h4,h5⟩ | ⟨h2,-,k,h4,h5⟩
    · have:=cost_all h0 hm h4
      exact ⟨h2,h3,by omega⟩
    · have:=cost_all h0 hm h4
      omega
  obtain ⟨he,hF,hu⟩:=hw1
  rcases hr with ⟨hne,-⟩ | ⟨-,hw2⟩
  · exact absurd he hne
  have e1:b1.F 1=a.F 1:=by rw [hF];rfl
  rcases hw2 with ⟨h2,h3,-,k,h4,h5⟩ | ⟨h2,-,k,h4,h5⟩
  · have:=cost_all (by rw [e1];exact h1) hn h4
    exact ⟨h2,by rw [h3,hF],by omega⟩
  · have:=cost_all (by rw [e1];exact h1) hn h4
    omega
set_option maxHeartbeats 1000000 in
theorem plainfresh_any (n:Nat) (w:World) (h1:1≤n) (h2:n≤4096) :
    Calls Tryz.prog 34 #[.int .i64 n] w fun e w'=>∃ bd x B E:Nat,e=.returned (.tuple #[.pointer (some ⟨bd,0,none⟩),.pointer (some ⟨x,0,none⟩),.bool true])∧DiskAt w' (zf w.heap.size (fun k=>B≤k∧k < E)) bd (zeroS n) []∧RefE (fun _=>False) w' B E x n∧w.heap.size≤B∧B≤w'.heap.size∧Below w.heap.size w w':=by
  have HN:=Lib.hid (And.intro h1 h2)
  clear h1 h2
  go_enter Tryz.func34,Tryz.ntmps34
  go_wp2_with fail
  (with_reducible refine (diskNew_any n _ HN.out.1 HN.out.2).mono ?_)
  rintro e w1 ⟨bd,rfl,hbd,hbl,hD,hb1⟩
  have HD:=Lib.hid hD
  have HB1:=Lib.hid hb1
  clear hD hb1
  go_wp2_with fail
  (with_reducible refine (ref02new_any n _ HN.out.1 HN.out.2).mono ?_)
  rintro e w2 ⟨x,rfl,hx,hb2⟩
  have HX:=Lib.hid hx
  have HB2:=Lib.hid hb2
  clear hx hb2
  go_wp2_with fail
  go_ret3
  have hD2:DiskAt w1 (zf w.heap.size (fun k=>w1.heap.size≤k∧k < w2.heap.size)) bd (zeroS n) []:=HD.out _ (Nat.le_refl _) (fun k h=>h.elim) (fun k h=>.inr h.1)
  exact ⟨bd,x,w1.heap.size,w2.heap.size,rfl,hD2.below HB2.out,RefE.of HX.out (fun k h=>h.elim),HB1.out.size,HB2.out.size,HB1.out.trans (HB2.out.mono HB1.out.size)⟩
end Go.Proofs.YtheeomjfpnijbaaGreatDoor
end
section
namespace Go.Proofs.YtheeomjfpnijbaaGreatDoor
open Go.RowKit Go.Shelf
set_option maxRecDepth 20000
def pairObj (bg bn bd x:Nat):Obj:=.cells #[.pointer (some ⟨bg,0,none⟩),.pointer (some ⟨bn,0,none⟩),.int .i64 1,.pointer (some ⟨bn,0,none⟩),.int .i64 1,.pointer (some ⟨bd,0,none⟩),.pointer (some ⟨x,0,none⟩)] 37 (0,0)
structure LOpen (Z B E x bd pages pb:Nat) (p:Par) (s:ASt) (q:RPar) (w':World):Prop where
  pair:w'.heap[pb]?=some (pairObj p.bg q.bn bd x)
  tm:TM p 1 (3000 * 112) w' s
  st:pst s=⟨fun _=>zeros 112,16⟩
  t:s.t≤10
  zone:s.N.B=Z
  far:∀ k,B≤k→k < E→s.N.far k
  doc:RMgr s.N q w' ⟨0,0,[],[],[]⟩
  qq:q.B=B∧q.E=E∧q.tx=1∧q.pages=pages∧q.logs=3000
  pp:p.pages=pages
  newer:Z≤pb
def LOpenQ (Z B E x bd pages:Nat) (w:World) (e:Ending) (w':World):Prop:=∃ (pb:Nat) (p:Par) (s:ASt) (q:RPar),e=.returned (.tuple #[.pointer (some ⟨pb,0,none⟩),.bool true])∧LOpen Z B E x bd pages pb p s q w'∧Below Z w w'
set_option maxHeartbeats 4000000 in
theorem lawopen_any (Z B E x bd pages:Nat) (w:World) (hD:DiskAt w (zf Z (fun k=>B≤k∧k < E)) bd (zeroS (3000+pages)) []) (hx:RefE (fun _=>False) w B E x (3000+pages)) (hZ:Z≤B∧B≤w.heap.size) (hT:Halves w) (hg:0 < Z) (hp:2≤pages∧pages≤1000) :
    Calls Tryz.prog 35 #[.pointer (some ⟨bd,0,none⟩),.pointer (some ⟨x,0,none⟩),.int .i64 3000,.int .i64 pages] w (LOpenQ Z B E x bd pages w):=by
  have HX:=Lib.hid hx
  have HZ:=Lib.hid hZ
  have HP:=Lib.hid hp
  have HAO:Hid (Calls Tryz.prog 71 #[.pointer (some ⟨bd,0,none⟩),.int .i64 3000,.int .i64 pages,.int .i64 64] w fun e w'=>∃ (p:Par),e=.returned (.tuple #[.pointer (some ⟨p.bg,0,none⟩),.int .i64 0])∧QM p (3000 * 112) w' (stF Z (fun k=>B≤k∧k < E) 3000)∧p.pages=pages∧Below w.heap.size w w'):=Lib.hid (by
    refine (ariesOpen_zero Z bd 3000 pages 64 (3000+pages) w hD (by omega) hT hg (by omega) (by omega) (by omega) (by omega) (by omega)).mono ?_
    rintro e w1 ⟨bg,bp,bl,bm,ba,rfl,k1,k2,k3,k4,k5,k6,k7,hb1⟩
    exact ⟨parF bg bp bd bl bm ba 3000 pages (3000+pages),rfl,freshF_qm k1 k2 k3 k4 k5 k6 k7 (by omega) (by omega) (by omega),rfl,hb1⟩)
  clear hD hx hZ hT hg hp
  go_enter Tryz.func35,Tryz.ntmps35
  go_wp2_with fail
  (with_reducible refine (HAO.out).mono ?_)
  rintro e w1 ⟨p,rfl,hq,hpp,hb1⟩
  have HQ:=Lib.hid hq
  have HPP:=Lib.hid hpp
  have HB1:=Lib.hid hb1
  have HRO:Hid (Calls Tryz.prog 80 #[.pointer (some ⟨x,0,none⟩),.int .i64 3000,.int .i64 pages,.int .i64 64] w1 fun e w'=>∃ bn bl bq:Nat,e=.returned (.tuple #[.pointer (some ⟨bn,0,none⟩),.int .i64 0])∧ManZ w' bn x bl bq pages (.slice none 0 0)∧RefL w' bl x 0 3000∧RefP w' bq x bl 3000 pages 64∧w1.heap.size≤bn∧w1.heap.size≤bl∧w1.heap.size≤bq∧Below w1.heap.size w1 w'):=Lib.hid (by
    refine (refopen6_any B x (3000+pages) 3000 pages w1 ((HX.out.z).below hb1) (by omega) (by have:=HP.out;omega) (by omega)).mono ?_
    rintro e w' ⟨bn,bl,bq,h1,h2,h3,h4,h5,h6,h7,h8⟩
    exact ⟨bn,bl,bq,h1,h2,h3,h4,h5,h6,h7,h8⟩)
  clear hq hpp hb1
  go_wp2_with fail
  (with_reducible refine (HRO.out).mono ?_)
  rintro e w2 ⟨bn,bl,bq,rfl,hm2,hl2,hp2,n1,n2,n3,hb2⟩
  have HB2:=Lib.hid hb2
  have hq2:=HQ.out.below hb2
  have HM2:=Lib.hid hm2
  have HL2:=Lib.hid (And.intro hl2 hp2)
  have HN2:=Lib.hid (And.intro n1 (And.intro n2 n3))
  have HQ2:=Lib.hid hq2
  obtain ⟨s,hs⟩:∃ s,s=stF Z (fun k=>B≤k∧k < E) 3000:=⟨_,rfl⟩
  rw [← hs] at HQ2
  have HS:=Lib.hid hs
  have HMB:Hid (Calls Tryz.prog 81 #[.pointer (some ⟨p.bg,0,none⟩)] w2 fun e w'=>∃ s',e=.returned (.tuple #[.int .i64 1,.int .i64 0])∧TM (gp p s) 1 (3000 * 112) w' s'∧pst s'=⟨(pst s).F,(pst s).u+16⟩∧s'.t=s.t∧s'.N=s.N∧Step p s.N w2 s'.N w'):=Lib.hid (by
    have h0:s.last=0:=by rw [hs];rfl
    have:=qbegin_any w2 HQ2.out (by omega) (by rw [hs];show 0+16≤3000 * 112;omega)
    rw [h0] at this
    exact this)
  clear hq2 hm2 hl2 hp2 n1 n2 n3 hb2 hs
  go_wp2_with fail
  (with_reducible refine (HMB.out).mono ?_)
  rintro e w3 ⟨s3,rfl,htm3,hst3,ht3,hn3,hstep⟩
  have hfar:∀ k,B≤k→k < E→s.N.far k:=fun k h1 h2=>by rw [HS.out];exact ⟨h1,h2⟩
  have hNs:∀ k,¬ s.N k:=fun k hk=>by rw [HS.out] at hk;exact hk
  have hx2:RefE s.N w2 B E x (3000+pages):=by
    have h1:RefE (fun _=>False) w2 B E x (3000+pages):=(HX.out.upd (Upd.of_below' HB1.out (fun _=>False)) (fun _ h=>h.elim) (fun _ h=>h.elim) (fun _ h=>h.elim)).upd (Upd.of_below' HB2.out (fun _=>False)) (fun _ h=>h.elim) (fun _ h=>h.elim) (fun _ h=>h.elim)
    exact h1.mono (fun k _ hk=>absurd hk (hNs k))
  have hmr:=HQ2.out.mr
  have hx3:RefE s3.N w3 B E x (3000+pages):=hx2.step hmr hstep hfar
  have kp:∀ {k:Nat} {t:TypeId} {cs:Array Value},w2.heap[k]?=some (.cells cs t (0,0))→FreeM t→w3.heap[k]?=some (.cells cs t (0,0)):=fun hk ht=>(hstep.upd.block _ (Array.getElem?_eq_some_iff.1 hk).1 (hmr.free ht ⟨_,hk⟩)).trans hk
  have hm3:ManZ w3 bn x bl bq pages (.slice none 0 0):=kp HM2.out (by decide)
  have hl3:RefL w3 bl x 0 3000:=kp HL2.out.1 (by decide)
  have hp3:RefP w3 bq x bl 3000 pages 64:=kp HL2.out.2 (by decide)
  have hBw:B≤w1.heap.size:=Nat.le_trans HZ.out.2 HB1.out.size
  obtain ⟨q,hq⟩:∃ q:RPar,q=⟨B,E,3000+pages,x,bn,bl,bq,3000,pages,1,Nat.le_trans hBw HN2.out.1,Nat.le_trans hBw HN2.out.2.1,Nat.le_trans hBw HN2.out.2.2⟩:=⟨_,rfl⟩
  have hNsz:∀ k,s3.N k→k < w3.heap.size:=htm3.mr.run.st.no
  have hpool3:RPool s3.N q w3 []:=by
    rw [hq]
    exact ⟨hx3,⟨.slice none 0 0,hp3,World.ownsRow_nil _ _ _ _⟩,(fun b hb=>by cases hb),List.nodup_nil,⟨Nat.le_refl _,by have:=HP.out;show 3000+pages≤4096;omega⟩⟩
  have hlog3:RLog s3.N q w3 0 []:=by
    rw [hq]
    exact ⟨⟨.slice none 0 0,hl3,⟨none,0,rfl,Nat.le_refl _,by simp,fun h=>by simp at h⟩⟩⟩
  have hqB:q.B≤w3.heap.size:=by
    rw [hq]
    have h1:=HB2.out.size
    have h2:=hstep.upd.size
    show B≤w3.heap.size
    omega
  have hRB:Hid (Calls Tryz.prog 82 #[.pointer (some ⟨bn,0,none⟩)] w3 fun e w'=>e=.returned (.tuple #[.int .i64 1,.int .i64 0])∧RMan q w' 0 []∧Upd (fun k=>k=q.bn) w3 w'):=Lib.hid (by
    have:=rbegin_any q w3 (by rw [hq];exact hm3) (by rw [hq]) hqB
    rw [show q.bn=bn by rw [hq]] at this ⊢
    exact this)
  have hbnT:Typed w3 q.bn 205:=⟨_,by rw [hq];exact hm3⟩
  have HT3:=Lib.hid htm3
  have H3:=Lib.hid (And.intro hst3 (And.intro ht3 (And.intro hn3 hstep)))
  have HD3:=Lib.hid (And.intro hpool3 (And.intro hlog3 (And.intro hNsz (And.intro hqB hbnT))))
  have HQQ:=Lib.hid hq
  have HFAR:=Lib.hid hfar
  clear htm3 hst3 ht3 hn3 hstep hfar hNs hx2 hmr hx3 kp hm3 hl3 hp3 hNsz hpool3 hlog3 hqB hbnT hq
  go_wp2_with fail
  (with_reducible refine (hRB.out).mono ?_)
  rintro e w4 ⟨rfl,hman,hu4⟩
  have hls4:Upd (LS q w3) w3 w4:=hu4.mono fun k _ hk=>by subst hk;exact ⟨q.hn,.inr (.inl HD3.out.2.2.2.2)⟩
  have hdoc:RMgr s3.N q w4 ⟨0,0,[],[],[]⟩:=⟨HD3.out.1.others hls4,HD3.out.2.1.upd hu4 (fun k hk ht=>by subst hk;exact absurd (HD3.out.2.2.2.2.one ht) (by decide)) (fun k hk ht=>by subst hk;exact absurd (HD3.out.2.2.2.2.one ht) (by decide)),hman,fun k hk=>Nat.lt_of_lt_of_le (HD3.out.2.2.1 k hk) hu4.size,Nat.le_trans HD3.out.2.2.2.1 hu4.size⟩
  have hsB:s3.N.B=Z:=by rw [H3.out.2.2.1,HS.out];rfl
  have hqB:q.B=B:=by rw [HQQ.out]
  have htm4:TM (gp p s) 1 (3000 * 112) w4 s3:=HT3.out.doc (by rw [hsB,hqB];exact HZ.out.1) (LS.rs hls4)
  have hbZ:Below Z w w4:=by
    have h1:Below w.heap.size w w2:=HB1.out.trans (HB2.out.mono HB1.out.size)
    have hz2:Z≤w2.heap.size:=by have:=HZ.out;have:=h1.size;omega
    have h2:Below s.N.B w2 w3:=H3.out.2.2.2.below (by rw [show s.N.B=Z by rw [HS.out];rfl];exact hz2)
    rw [show s.N.B=Z by rw [HS.out];rfl] at h2
    have h3:Below Z w3 w4:=Upd.below hls4 (by have:=h2.size;omega) (fun k hk=>by have:=hk.1;rw [hqB] at this;have:=HZ.out.1;omega)
    exact ((h1.mono (by have:=HZ.out;omega)).trans h2).trans h3
  have HD4:=Lib.hid hdoc
  have HT4:=Lib.hid (And.intro htm4 (And.intro hsB (And.intro hqB hbZ)))
  clear hman hu4 hls4 hdoc hsB hqB htm4 hbZ
  go_wp2_with fail
  go_ret2
  have hbb:Below w4.heap.size w4 (w4.alloc (pairObj p.bg bn bd x)):=(Below.refl _ w4).alloc (Nat.le_refl _) _
  have hqn:q.bn=bn:=by rw [HQQ.out]
  have hgz:Z≤w4.heap.size:=by have h1:=HT4.out.2.2.2.size;have:=HZ.out;omega
  refine ⟨w4.heap.size,gp p s,s3,q,rfl,⟨?_,HT4.out.1.below hbb,?_,?_,HT4.out.2.1,fun k h1 h2=>?_,HD4.out.below hbb,⟨HT4.out.2.2.1,by rw [HQQ.out],by rw [HQQ.out],by rw [HQQ.out],by rw [HQQ.out]⟩,HPP.out,hgz⟩,HT4.out.2.2.2.trans (hbb.mono hgz)⟩
  · rw [hqn]
    exact heap_alloc_new w4 _
  · rw [H3.out.1,HS.out]
    rfl
  · rw [H3.out.2.1,HS.out]
    exact Nat.zero_le _
  · rw [H3.out.2.2.1]
    exact HFAR.out k h1 h2
end Go.Proofs.YtheeomjfpnijbaaGreatDoor
end
section
namespace Go.Proofs.YtheeomjfpnijbaaGreatDoor
open Go.RowKit Go.Shelf
set_option maxRecDepth 20000
theorem MR.noInt {k0:Int} {p:Par} {w:World} {s:ASt} (h:MR k0 p w s) (k:Nat) (hm:MS s.N p w k) (ht:Typed w k 3):False:=by
  rcases hm with hm | ⟨-,hm | hm | hm | hm | ⟨-,hm⟩⟩
  · exact h.not8 (.inr (.inl rfl)) k hm ht
  · exact h.map.notTyped ht hm
  · exact absurd (hm.one ht) (by decide)
  · exact absurd (hm.one ht) (by decide)
  · exact absurd (hm.one ht) (by decide)
  · exact absurd (hm.one ht) (by decide)
theorem RMgr.step {k0:Int} {p:Par} {w w':World} {s:ASt} {N':Zone} {q:RPar} {sd:RSt} (hd:RMgr s.N q w sd) (h:MR k0 p w s) (hs:Step p s.N w N' w') (hF:∀ k,q.B≤k→k < q.E→s.N.far k) (hno:∀ k,N' k→k < w'.heap.size):RMgr N' q w' sd:=by
  have kp:∀ {k:Nat} {t:TypeId} {cs:Array Value},w.heap[k]?=some (.cells cs t (0,0))→FreeM t→w'.heap[k]?=some (.cells cs t (0,0)):=fun hk ht=>(hs.upd.block _ (Array.getElem?_eq_some_iff.1 hk).1 (h.free ht ⟨_,hk⟩)).trans hk
  obtain ⟨lv,a1,a2⟩:=hd.pool.cells
  obtain ⟨sv,b1,b2⟩:=hd.log.cells
  obtain ⟨av,rv,c1,c2,c3⟩:=hd.man.cells
  refine ⟨⟨hd.pool.disk.step h hs hF,⟨lv,kp a1 (by decide),own_upd a2 hs.upd (fun k hk ht=>h.free (by decide) ht hk)⟩,fun b hb=>⟨h.byt hs (hd.pool.loads b hb).1,(hd.pool.loads b hb).2⟩,hd.pool.once,hd.pool.fits⟩,⟨⟨sv,kp b1 (by decide),h.byt hs b2⟩⟩,⟨⟨av,rv,kp c1 (by decide),own_upd c2 hs.upd (fun k hk ht=>h.noInt k hk ht),own_upd c3 hs.upd (fun k hk ht=>h.free (by decide) ht hk)⟩⟩,hno,Nat.le_trans hd.base hs.upd.size⟩
structure FreshP (Z bd x pages pb:Nat) (p:Par) (s:ASt) (q:RPar) (sd:RSt) (w':World):Prop where
  pair:w'.heap[pb]?=some (pairObj p.bg q.bn bd x)
  tm:TM p 1 (3000 * 112) w' s
  F:(pst s).F=updF (updF (fun _=>zeros 112) 0 (pad (Met.load ⟨1,2,0,1⟩))) 1 (pad [1,0])
  u:(pst s).u≤900
  t:s.t≤30
  zone:s.N.B=Z
  far:∀ k,q.B≤k→k < q.E→s.N.far k
  doc:RMgr s.N q w' sd
  cd:∀ m,cd sd.bs m=if m=1 then pad [1] else if m=0 then pad (Met.load ⟨1,2,0,1⟩) else zeros 112
  rs:sd.rs.length=2
  bs:sd.bs.length≤10
  qq:Z≤q.B∧q.tx=1∧q.pages=pages∧q.logs=3000
  pp:p.pages=pages
  newer:Z≤pb
def FreshQ (pages:Nat) (w:World) (e:Ending) (w':World):Prop:=∃ (bd x pb:Nat) (p:Par) (s:ASt) (q:RPar) (sd:RSt),e=.returned (.tuple #[.pointer (some ⟨pb,0,none⟩),.bool true])∧FreshP w.heap.size bd x pages pb p s q sd w'∧Below w.heap.size w w'
set_option maxHeartbeats 4000000 in
theorem fresh_any (pages:Nat) (w:World) (hT:Halves w) (hg:0 < w.heap.size) (hp:2≤pages∧pages≤1000) :
    Calls Tryz.prog 9 #[.int .i64 pages] w (FreshQ pages w):=by
  have HT:=Lib.hid hT
  have HG:=Lib.hid hg
  have HP:=Lib.hid hp
  obtain ⟨n,hn⟩:∃ n,n=3000+pages:=⟨_,rfl⟩
  have wn:IntKind.i64.wrap ((3000:Int)+(pages:Int))=(n:Int):=by rw [IntKind.wrap_i64];omega
  have HNN:=Lib.hid hn
  have HPF:Hid (Calls Tryz.prog 34 #[.int .i64 n] w fun e w'=>∃ bd x B E:Nat,e=.returned (.tuple #[.pointer (some ⟨bd,0,none⟩),.pointer (some ⟨x,0,none⟩),.bool true])∧DiskAt w' (zf w.heap.size (fun k=>B≤k∧k < E)) bd (zeroS n) []∧RefE (fun _=>False) w' B E x n∧w.heap.size≤B∧B≤w'.heap.size∧Below w.heap.size w w'):=Lib.hid (plainfresh_any n w (by omega) (by omega))
  clear hT hg hp hn
  go_enter Tryz.func9,Tryz.ntmps9
  go_wp2_with fail
  (with_reducible refine (HPF.out).mono ?_)
  rintro e w1 ⟨bd,x,B,E,rfl,hD,hx,hz1,hz2,hb1⟩
  have HB1:=Lib.hid hb1
  have HLO:Hid (Calls Tryz.prog 35 #[.pointer (some ⟨bd,0,none⟩),.pointer (some ⟨x,0,none⟩),.int .i64 3000,.int .i64 pages] w1 (LOpenQ w.heap.size B E x bd pages w1)):=Lib.hid (by
    rw [HNN.out] at hD hx
    exact lawopen_any w.heap.size B E x bd pages w1 hD hx ⟨hz1,hz2⟩ (HT.out.below hb1) HG.out HP.out)
  have HZ1:=Lib.hid hz1
  clear hD hx hz1 hz2 hb1
  go_wp2_with fail
  (with_reducible refine (HLO.out).mono ?_)
  intro e w2 hq
  unfold LOpenQ at hq
  obtain ⟨pb,p,s,q,rfl,hl,hb2⟩:=hq
  have HL:=Lib.hid hl
  have HB2:=Lib.hid hb2
  have hpr:=hl.pair
  unfold pairObj at hpr
  have P0:=cell_of_block5 hpr 0 rfl
  have P2:=cell_of_block5 hpr 2 rfl
  have P3:=cell_of_block5 hpr 3 rfl
  have P4:=cell_of_block5 hpr 4 rfl
  have P0':w2.drew.cell? ⟨pb,0,none⟩=some (.pointer (some ⟨p.bg,0,none⟩)):=P0
  have P2':w2.drew.cell? ⟨pb,2,none⟩=some (.int .i64 1):=P2
  have P3':w2.drew.cell? ⟨pb,3,none⟩=some (.pointer (some ⟨q.bn,0,none⟩)):=P3
  have P4':w2.drew.cell? ⟨pb,4,none⟩=some (.int .i64 1):=P4
  have HPO:=Lib.hid hl.pair
  have HTI:Hid (Calls Tryz.prog 18 #[.pointer (some ⟨p.bg,0,none⟩),.int .i64 1] w2.drew fun e w'=>∃ s',e=.returned (.int .i64 0)∧(pst s').F=updF (updF (fun _=>zeros 112) 0 (pad (Met.load ⟨1,2,0,1⟩))) 1 (pad [1,0])∧(pst s').u≤900∧TM p 1 (3000 * 112) w' s'∧s'.t≤30∧Step p s.N w2.drew s'.N w'):=Lib.hid (by
    refine (tinit_any w2.drew (hl.tm.below ((Below.refl _ w2).drew)) (by have:=hl.t;omega) (by rw [hl.pp];exact HP.out.1)).mono ?_
    rintro e w' ⟨c,s',rfl,hi,htm,ht,hst⟩
    obtain ⟨rfl,h2,h3⟩:=init_good hi (by rw [hl.st];show 16+796≤3000 * 112;omega) (by rw [hl.st];show (zeros 112).length≤112;simp [zeros]) (by rw [hl.st];show (zeros 112).length≤112;simp [zeros])
    rw [hl.st] at h2 h3
    have h3':(pst s').u≤16+796:=h3
    exact ⟨s',rfl,h2,by omega,htm,by have:=hl.t;omega,hst⟩)
  clear hl hb2 hpr
  go_wp2_with fail
  go_cut [2,3] (fun v u wx=>v=.pointer (some ⟨pb,0,none⟩)∧u=.bool true∧Hid (∃ (s':ASt) (sd:RSt),FreshP w.heap.size bd x pages pb p s' q sd wx∧Below w.heap.size w wx))
  case first =>
    go_region_law (first
      | (go_simp;go_at_call 18;(with_reducible refine (HTI.out).mono ?_);rintro e w3 ⟨s3,rfl,hF3,hu3,htm3,ht3,hst3⟩;have hpr3:=(hst3.upd.block pb (Array.getElem?_eq_some_iff.1 HPO.out).1 (fun hk=>(HL.out.tm.below ((Below.refl _ w2).drew)).mr.free (t:=37) (by decide) ⟨_,HPO.out⟩ hk)).trans HPO.out;have HPO3:=Lib.hid hpr3;have hpr3':=hpr3;unfold pairObj at hpr3';have R0:=cell_of_block5 hpr3' 0 rfl;have R3:=cell_of_block5 hpr3' 3 rfl;have R4:=cell_of_block5 hpr3' 4 rfl;have hdoc3:RMgr s3.N q w3 ⟨0,0,[],[],[]⟩:=(HL.out.doc.below ((Below.refl _ w2).drew)).step (HL.out.tm.below ((Below.refl _ w2).drew)).mr hst3 (fun k h1 h2=>HL.out.far k (by rw [← HL.out.qq.1];exact h1) (by rw [← HL.out.qq.2.1];exact h2)) htm3.mr.run.st.no;have HRI:Hid (Calls Tryz.prog 36 #[.agg #[.pointer (some ⟨q.bn,0,none⟩),.int .i64 1]] w3 fun e w'=>e=.returned (.int .i64 0)∧InitQ6 s3.N q w3 w'):=Lib.hid (by
          have:=rinit_any w3 hdoc3 (by rw [HL.out.qq.2.2.2.1];have:=HP.out;omega) HL.out.qq.2.2.1 (by rw [HL.out.qq.2.2.2.2];omega)
          rw [HL.out.qq.2.2.1] at this
          exact this);have H3:=Lib.hid (And.intro hF3 (And.intro hu3 (And.intro htm3 (And.intro ht3 (And.intro hst3 hdoc3)))));clear hF3 hu3 htm3 ht3 hst3 hpr3 hpr3' hdoc3)
      | (go_simp;go_at_call 36;(with_reducible refine (HRI.out).mono ?_);intro e w4 hq;obtain ⟨rfl,hq⟩:=hq;have HQ4:=Lib.hid hq;clear hq))
    all_goals go_wp2
    all_goals go_meet
    all_goals
      obtain ⟨sd,hd4,hcd,hrs,hbs,hu4⟩:=HQ4.out
      obtain ⟨hF3,hu3,htm3,ht3,hst3,-⟩:=H3.out
      have hB3:s3.N.B=w.heap.size:=hst3.B.trans HL.out.zone
      have hqB:q.B=B:=HL.out.qq.1
      have hBB:s3.N.B≤q.B:=by rw [hB3,hqB];exact HZ1.out
      have hp4:=(hu4.block pb (Array.getElem?_eq_some_iff.1 HPO3.out).1 (fun hk=>by rcases hk with ⟨-,hk | hk⟩ | ⟨-,hk | hk | hk⟩ <;> exact absurd (hk.one (t:=_) (u:=37) ⟨_,HPO3.out⟩) (by decide))).trans HPO3.out
      have hz2:w.heap.size≤w2.heap.size:=by have h1:=HB1.out.size;have h2:=HB2.out.size;omega
      have hb3:Below w.heap.size w2.drew w3:=by
        have:=hst3.below (by rw [HL.out.zone];exact hz2)
        rw [HL.out.zone] at this
        exact this
      have hz3:w.heap.size≤w3.heap.size:=Nat.le_trans hz2 hb3.size
      have hb4:Below w.heap.size w3 w4:=Upd.below hu4 hz3 (fun k hk=>by
        rcases hk with hk | hk <;> (have:=hk.1;omega))
      exact ⟨rfl,rfl,Lib.hid ⟨s3,sd,⟨hp4,htm3.doc hBB hu4,hF3,hu3,ht3,hB3,fun k h1 h2=>by rw [hst3.far];exact HL.out.far k (by rw [← hqB];exact h1) (by rw [← HL.out.qq.2.1];exact h2),hd4,hcd,hrs,hbs,⟨by rw [hqB];exact HZ1.out,HL.out.qq.2.2⟩,HL.out.pp,HL.out.newer⟩,((HB1.out.trans HB2.out).drew.trans hb3).trans hb4⟩⟩
  case rest =>
    obtain ⟨rfl,rfl,h⟩:=hcut
    obtain ⟨s',sd,h1,h2⟩:=h.out
    have H1:=Lib.hid h1
    have H2:=Lib.hid h2
    clear h1 h2 h P0 P2 P3 P4 P0' P2' P3' P4'
    go_wp2
    go_ret2
    exact ⟨bd,x,pb,p,s',q,sd,rfl,H1.out,H2.out⟩
end Go.Proofs.YtheeomjfpnijbaaGreatDoor
end
