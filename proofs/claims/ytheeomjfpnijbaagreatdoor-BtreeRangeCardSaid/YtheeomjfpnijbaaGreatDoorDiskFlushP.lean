/- Lemmas: DiskFlush. -/
import Derived.Test.YtheeomjfpnijbaaGreatDoorDiskP
set_option linter.unusedVariables false
namespace Go.Proofs.YtheeomjfpnijbaaGreatDoor
open Go.RowKit
theorem own_set1 {w:World} {base g n cap i:Nat} {e:TypeId} {vs:List Value} {u:Value} (h:w.ownsRow base e 1 (.slice (some ⟨g,0,none⟩) n cap) n vs):(w.setCell ⟨g,i,none⟩ u).ownsRow base e 1 (.slice (some ⟨g,0,none⟩) n cap) n (vs.set i u):=by
  refine ⟨by rw [List.length_set];exact h.1,?_⟩
  rcases h.2 with ⟨e',_⟩ | ⟨g',cap',cur,e',hb,hg,h1,h2,h3,h4⟩
  · cases e'
  · cases e'
    refine .inr ⟨g,cap,cur.setIfInBounds i u,rfl,hb,heap_setCell_same w g i cur e u hg,h1,h2,by simpa using h3,?_⟩
    rw [Array.toList_setIfInBounds,List.take_set,h4]
theorem Upd.same {R:World→Nat→Prop} {a b c:World} (hR:∀ w w' k,w'.heap[k]?=w.heap[k]?→R w' k→R w k) (h:Upd (R a) a b) (k:Upd (R b) b c):Upd (R a) a c :=
  h.trans' k fun j hj hb=>Classical.byContradiction fun hn=>hn (hR a b j (h.block j hj hn) hb)
theorem typed_same {t:TypeId} (w w':World) (k:Nat) (h:w'.heap[k]?=w.heap[k]?) (ht:Typed w' k t):Typed w k t:=by
  obtain ⟨cs,hc⟩:=ht
  exact ⟨cs,h ▸ hc⟩
theorem rowt_same {N:Zone} (w w':World) (k:Nat) (h:w'.heap[k]?=w.heap[k]?) (ht:RowT N w' k):RowT N w k:=⟨typed_same w w' k h ht.1,ht.2⟩
def DB (N:Zone) (w:World) (k:Nat):Prop:=N.B≤k∧RowT N w k
theorem db_same {N:Zone} (w w':World) (k:Nat) (h:w'.heap[k]?=w.heap[k]?) (ht:DB N w' k):DB N w k:=⟨ht.1,rowt_same w w' k h ht.2⟩
def applyW (S:List (List UInt8)) (P:List (Nat × List UInt8)):List (List UInt8):=P.foldl (fun S x=>S.set x.1 x.2) S
theorem applyW_length (P:List (Nat × List UInt8)):∀ S,(applyW S P).length=S.length:=by
  induction P with
  | nil=>intro S;rfl
  | cons x P ih=>intro S;rw [show applyW S (x :: P)=applyW (S.set x.1 x.2) P from rfl,ih,List.length_set]
theorem applyW_snoc (S:List (List UInt8)) (P:List (Nat × List UInt8)) (x:Nat × List UInt8):applyW S (P++[x])=(applyW S P).set x.1 x.2:=by simp [applyW]
theorem take_end {w w2:World} {N:Zone} {bd i:Nat} {S:List (List UInt8)} {P:List (Nat × List UInt8)} {xs:List UInt8} {bs cs:Nat} {vs us:List Value} {pv:Value} {q2:Option Addr} {c2:Nat} {o:Obj}
    (HX:xs.length=128) (HI:i < S.length) (HNN:∀ k,N k→k < w.heap.size)
    (HH:w.heap[bd]?=some (.cells #[.slice (some ⟨bs,0,none⟩) S.length cs,pv] 90 (0,0))) (HV:w.ownsRow N.B 76 1 (.slice (some ⟨bs,0,none⟩) S.length cs) S.length vs) (HVL:vs.length=S.length)
    (HVB:∀ (i:Nat) (x:List UInt8) (v:Value),S[i]?=some x→vs[i]?=some v→Byt w N v x)
    (HPR:w.ownsRow N.B 159 2 pv P.length ((P.zip us).flatMap fun x=>[.int .i64 x.1.1,x.2])) (HPL:us.length=P.length) (HPB:∀ (i:Nat) (x:Nat × List UInt8) (v:Value),P[i]?=some x→us[i]?=some v→Byt w N v x.2)
    (HA:0 < S.length∧S.length≤4096∧(∀ x∈S,x.length=128)∧(∀ x∈P,x.2.length=128)∧(∀ x∈P,x.1 < S.length))
    (HLO:N.B≤bd) (HNF:¬ N.far bs) (HO2:w2.ownsRow (w.alloc o).drew.heap.size 5 1 (.slice q2 128 c2) 128 (B8s xs)) (HB2:Below (w.alloc o).drew.heap.size (w.alloc o).drew w2) :
    DiskAt (w2.setCell ⟨bs,i,none⟩ (.slice q2 128 c2)) N bd (S.set i xs) P∧Upd (DB N w) w (w2.setCell ⟨bs,i,none⟩ (.slice q2 128 c2)):=by
  have hbs:w.heap[bs]?=_∧True:=⟨rfl,trivial⟩
  have hbsT:Typed w bs 76:=own_typed HV rfl
  have hU2:∀ T:Nat→Prop,Upd T w w2:=fun T=>by
    have hsz:w.heap.size≤(w.alloc o).heap.size:=by simp
    exact ⟨HB2.os,HB2.tape,HB2.output,Nat.le_trans hsz HB2.size,fun k hk _=>(HB2.block k (Nat.lt_of_lt_of_le hk hsz)).trans (Below.heap_alloc _ _ k hk)⟩
  have hU:Upd (fun k=>k=bs) w (w2.setCell ⟨bs,i,none⟩ (.slice q2 128 c2)):=(hU2 _).trans' (Upd.setC w2 bs i _) (fun j _ hj=>hj)
  have hn:∀ t,t ≠ 76→∀ k,k=bs→¬ Typed w k t:=fun t h1 k hk ht=>by subst hk;exact h1 (ht.one hbsT)
  have n8:∀ k,k=bs→Typed w k 5→N k:=fun k hk ht=>absurd ht (hn _ (by decide) k hk)
  have hbsT2:Typed w2 bs 76:=by obtain ⟨cs',h'⟩:=hbsT;exact ⟨cs',((hU2 (fun _=>False)).block bs (Array.getElem?_eq_some_iff.1 h').1 (fun h=>h)).trans h'⟩
  have hnew:Byt (w2.setCell ⟨bs,i,none⟩ (.slice q2 128 c2)) N (.slice q2 128 c2) xs:=by
    refine Byt.own (base:=(w.alloc o).heap.size) (n:=128) (own_upd HO2 (Upd.setC w2 bs i _) (fun k hk ht=>by subst hk;exact absurd (ht.one hbsT2) (by decide))) (fun k hk=>by have:=HNN k hk;simp;omega)
  refine ⟨⟨⟨bs,cs,pv,vs.set i (.slice q2 128 c2),us,?_,?_,by simp [HVL],?_,own_upd HPR hU (hn _ (by decide)),HPL,fun j x v hx hv=>(HPB j x v hx hv).upd hU n8⟩,by simpa using HA.1,by simpa using HA.2.1,?_,HA.2.2.2.1,fun x hx=>by simpa using HA.2.2.2.2 x hx,HLO,fun b m c hc=>?_⟩,hU.mono (fun k _ hk=>by subst hk;exact ⟨own_ge HV rfl,hbsT,HNF⟩)⟩
  · rw [List.length_set]
    exact (hU.block bd (Array.getElem?_eq_some_iff.1 HH).1 (fun hk=>hn 90 (by decide) bd hk ⟨_,HH⟩)).trans HH
  · rw [List.length_set]
    exact own_set1 (own_upd HV (hU2 (fun _=>False)) (fun k hk=>hk.elim))
  · intro j x v hx hv
    by_cases hj:j=i
    · subst hj
      rw [List.getElem?_set_self (by omega)] at hx hv
      cases hx;cases hv
      exact hnew
    · rw [List.getElem?_set_ne (fun h=>hj h.symm)] at hx hv
      exact (HVB j x v hx hv).upd hU n8
  · intro x hx
    rcases List.mem_or_eq_of_mem_set hx with h | h
    · exact HA.2.2.1 x h
    · rw [h];exact HX
  · simp only [World.cell?,(hU.block bd (Array.getElem?_eq_some_iff.1 HH).1 (fun hk=>hn 90 (by decide) bd hk ⟨_,HH⟩)).trans HH] at hc
    cases hc
    exact HNF
set_option maxHeartbeats 2000000 in
set_option maxRecDepth 20000 in
theorem take_any {N:Zone} (bd:Nat) (S:List (List UInt8)) (P:List (Nat × List UInt8)) (i:Nat) (q:Option Addr) (c:Nat) (xs:List UInt8) (w:World) (h:DiskAt w N bd S P) (hN:∀ k,N k→k < w.heap.size) (hi:i < S.length) (hx:xs.length=128) (hr:Rd w q xs) :
    Calls Tryz.prog 77 #[.pointer (some ⟨bd,0,none⟩),.agg #[.int .i64 i,.slice q 128 c]] w fun e w'=>(∃ v,e=.returned v)∧DiskAt w' N bd (S.set i xs) P∧Upd (DB N w) w w':=by
  have HX:=Lib.hid hx
  have HLO:Hid (N.B≤bd):=Lib.hid h.low
  have HNFA:=Lib.hid h.nfar
  obtain ⟨⟨bs,cs,pv,vs,us,hh,hv,hvl,hvb,hp,hpl,hpb⟩,a1,a2,a3,a4,a5⟩:=h
  have HNF:Hid (¬ N.far bs):=Lib.hid (HNFA.out bs _ _ (by simp only [World.cell?,hh];rfl))
  clear HNFA
  obtain ⟨n,hn⟩:∃ n,n=S.length:=⟨_,rfl⟩
  have HV:=Lib.hid hv
  have HPR:=Lib.hid hp
  have HVL:=Lib.hid hvl
  have HVB:=Lib.hid hvb
  have HPL:=Lib.hid hpl
  have HPB:=Lib.hid hpb
  have HH:=Lib.hid hh
  rw [← hn] at hh hi
  have HNL:=Lib.hid hn
  have k0:w.cell? ⟨bd,0,none⟩=some (.slice (some ⟨bs,0,none⟩) n cs):=by simp [World.cell?,hh]
  have hlt:=cell_lt k0
  have HI:Hid (i < S.length):=Lib.hid (by rw [← hn];exact hi)
  have HA:Hid (0 < S.length∧S.length≤4096∧(∀ x∈S,x.length=128)∧(∀ x∈P,x.2.length=128)∧(∀ x∈P,x.1 < S.length)):=Lib.hid ⟨a1,a2,a3,a4,a5⟩
  have HNN:=Lib.hid hN
  have hii:(i:Int) < (n:Int):=by omega
  -- the row of sectors
  have hbsl:∃ u,w.cell? ⟨bs,i,none⟩=some u∧w.frozen? ⟨bs,i,none⟩=false:=by
    rcases hv.2 with ⟨e',_⟩ | ⟨g',cap',cur,e',hb,hg,h1,h2,h3,h4⟩
    · cases e'
    · cases e'
      have hlt:i < cur.size:=by omega
      exact ⟨cur[i],by simp only [World.cell?,hg];simp [hlt],frozenC hg⟩
  obtain ⟨u,ku,fu⟩:=hbsl
  have KU:=Lib.hid ku
  have FU:=Lib.hid fu
  have HHB:Hid (Below w.heap.size w (w.alloc (.cells #[.int .i64 i,.slice q 128 c] 159))):=Lib.hid ((Below.refl _ w).alloc (Nat.le_refl _) _)
  have HRD:Hid (Rd (w.alloc (.cells #[.int .i64 i,.slice q 128 c] 159)).drew q xs):=Lib.hid ((hr.below HHB.out).drewN 1)
  have q0:(w.alloc (.cells #[.int .i64 i,.slice q 128 c] 159)).cell? ⟨w.heap.size,0,none⟩=some (.int .i64 i):=cellNew rfl
  have q1:(w.alloc (.cells #[.int .i64 i,.slice q 128 c] 159)).cell? ⟨w.heap.size,1,none⟩=some (.slice q 128 c):=cellNew rfl
  have Q0:=Lib.hid q0
  have Q1:=Lib.hid q1
  have K0:=Lib.hid (keepC HHB.out k0)
  have KUB:=Lib.hid (keepC HHB.out ku)
  have hfb:(w.alloc (.cells #[.int .i64 i,.slice q 128 c] 159)).frozen? ⟨bs,i,none⟩=false:=by
    have:=HHB.out.block bs (cell_lt ku)
    simp only [World.frozen?,this]
    exact fu
  have HFB:=Lib.hid hfb
  clear hh hv hvl hvb hp hpl hpb a1 a2 a3 a4 a5 hx hr hN q0 q1 ku fu hfb hn
  go_enter Tryz.func77,Tryz.ntmps77
  go_wp2_with fail
  go_region_law (first
    | (go_simp;go_at_call 75;refine (clone_any q 128 c xs _ HX.out (by omega) ?_).mono ?_;exact HRD.out;rintro e w2 ⟨v2,rfl,hown2,hb2⟩;obtain ⟨q2,c2,rfl,hc2⟩:=own_slice hown2;have HO2:=Lib.hid hown2;have HB2:=Lib.hid hb2;have k02:w2.cell? ⟨bd,0,none⟩=some (.slice (some ⟨bs,0,none⟩) n cs):=(hb2.cell (cell_lt K0.out)).trans K0.out;have q02:w2.cell? ⟨w.heap.size,0,none⟩=some (.int .i64 i):=(hb2.cell (cell_lt Q0.out)).trans Q0.out;have q12:w2.cell? ⟨w.heap.size,1,none⟩=some (.slice q 128 c):=(hb2.cell (cell_lt Q1.out)).trans Q1.out;have ku2:w2.cell? ⟨bs,i,none⟩=some u:=(hb2.cell (cell_lt KUB.out)).trans KUB.out;have fu2:w2.frozen? ⟨bs,i,none⟩=false:=(by have:=hb2.block bs (cell_lt KUB.out);simp only [World.frozen?,this];exact HFB.out);clear hown2 hb2))
  all_goals go_wp2
  all_goals go_end0
  all_goals exact ⟨⟨_,rfl⟩,take_end HX.out HI.out HNN.out HH.out HV.out HVL.out HVB.out HPR.out HPL.out HPB.out HA.out HLO.out HNF.out HO2.out HB2.out⟩
theorem pend_at {w:World} {N:Zone} {P:List (Nat × List UInt8)} {us:List Value} {pv:Value} (hP:w.ownsRow N.B 159 2 pv P.length ((P.zip us).flatMap fun x=>[.int .i64 x.1.1,x.2])) (hl:us.length=P.length)
    (hb:∀ (i:Nat) (x:Nat × List UInt8) (v:Value),P[i]?=some x→us[i]?=some v→Byt w N v x.2) {k:Nat} {x:Nat × List UInt8} (hx:P[k]?=some x) :
    ∃ g c v,pv=.slice (some ⟨g,0,none⟩) P.length c∧w.cell? ⟨g,k * 2,none⟩=some (.int .i64 x.1)∧w.cell? ⟨g,k * 2+1,none⟩=some v∧Byt w N v x.2∧us[k]?=some v:=by
  have hk:k < P.length:=(List.getElem?_eq_some_iff.1 hx).1
  rcases hP.2 with ⟨_,h0⟩ | ⟨g,cap,cur,rfl,hg,hh,h1,h2,h3,h4⟩
  · omega
  · obtain ⟨v,hv⟩:∃ v,us[k]?=some v:=⟨_,List.getElem?_eq_getElem (by omega)⟩
    have hz:(P.zip us)[k]?=some (x,v):=by rw [List.getElem?_zip_eq_some];exact ⟨hx,hv⟩
    have key:∀ (l:List ((Nat × List UInt8) × Value)) (k:Nat) (y:(Nat × List UInt8) × Value),l[k]?=some y→(l.flatMap fun x=>[Value.int .i64 x.1.1,x.2])[k * 2]?=some (.int .i64 y.1.1)∧(l.flatMap fun x=>[Value.int .i64 x.1.1,x.2])[k * 2+1]?=some y.2:=by
      intro l
      induction l with
      | nil=>intro k y h;simp at h
      | cons a l ih =>
        intro k y h
        cases k with
        | zero=>simp at h;subst h;simp
        | succ k =>
          have:=ih k y (by simpa using h)
          rw [List.flatMap_cons,show (k+1) * 2=k * 2+1+1 from by omega,show k * 2+1+1+1=(k * 2+1)+1+1 from by omega]
          simpa using this
    obtain ⟨c0,c1⟩:=key _ _ _ hz
    rw [← h4] at c0 c1
    have hcell:∀ j u,(List.take (P.length * 2) cur.toList)[j]?=some u→w.cell? ⟨g,j,none⟩=some u:=fun j u hj=>by
      have hj2:j < P.length * 2:=by
        have:=(List.getElem?_eq_some_iff.1 hj).1
        rw [List.length_take] at this
        omega
      rw [List.getElem?_take_of_lt hj2] at hj
      simp only [World.cell?,hh]
      simpa using hj
    exact ⟨g,cap,v,rfl,hcell _ _ c0,hcell _ _ c1,hb k x v hx hv,hv⟩
theorem flush_end {w wr:World} {N:Zone} {bd bs cs:Nat} {S S':List (List UInt8)} {P:List (Nat × List UInt8)} {pv:Value} (hS:S'.length=S.length) (hD:DiskAt wr N bd S' P) (hU:Upd (DB N w) w wr)
    (HH:w.heap[bd]?=some (.cells #[.slice (some ⟨bs,0,none⟩) S.length cs,pv] 90 (0,0))) :
    DiskAt (wr.setCell ⟨bd,1,none⟩ (.slice none 0 0)) N bd S' []∧Upd (DS N w) w (wr.setCell ⟨bd,1,none⟩ (.slice none 0 0)):=by
  obtain ⟨⟨bs',cs',pv',vs,us,hh,hv,hvl,hvb,hp,hpl,hpb⟩,a1,a2,a3,a4,a5,a6,a7⟩:=hD
  have hU1:=Upd.setC wr bd 1 (.slice none 0 0)
  have hbd:Typed wr bd 90:=⟨_,hh⟩
  refine ⟨⟨⟨bs',cs',.slice none 0 0,vs,[],heap_setCell_same wr bd 1 _ _ _ hh,own_upd hv hU1 (fun k hk ht=>by subst hk;exact absurd (ht.one hbd) (by decide)),hvl,fun j x v hx hv'=>(hvb j x v hx hv').upd hU1 (fun k hk ht=>by subst hk;exact absurd (ht.one hbd) (by decide)),World.ownsRow_nil _ _ _ _,rfl,fun j x v hx=>by simp at hx⟩,a1,a2,a3,by simp,by simp,a6,fun b m c hc=>?_⟩,?_⟩
  · simp only [World.cell?,heap_setCell_same wr bd 1 _ _ _ hh] at hc
    cases hc
    exact a7 _ _ _ (by simp only [World.cell?,hh];rfl)
  have hU2:Upd (DS N w) w wr:=hU.mono (fun k _ hk=>⟨hk.1,.inr (.inl hk.2)⟩)
  exact hU2.trans' hU1 (fun j _ hj=>by subst hj;exact ⟨a6,.inl ⟨_,HH⟩⟩)
set_option maxHeartbeats 2000000 in
set_option maxRecDepth 20000 in
theorem diskFlush_any {N:Zone} (bd:Nat) (S:List (List UInt8)) (P:List (Nat × List UInt8)) (w:World) (h:DiskAt w N bd S P) (hN:∀ k,N k→k < w.heap.size) (hPl:P.length < 1000000000) :
    Calls Tryz.prog 157 #[.pointer (some ⟨bd,0,none⟩)] w fun e w'=>e=.returned (.int .i64 0)∧DiskAt w' N bd (applyW S P) []∧Upd (DS N w) w w':=by
  have H:=Lib.hid h
  obtain ⟨⟨bs,cs,pv,vs,us,hh,hv,hvl,hvb,hp,hpl,hpb⟩,a1,a2,a3,a4,a5⟩:=h
  have hz:((S.length:Int) == 0)=false:=beq_eq_false_iff_ne.mpr (by omega)
  have HZ:=Lib.hid hz
  obtain ⟨pq,pc,rfl,hpc⟩:∃ q c,pv=.slice q P.length c∧P.length≤c:=by
    rcases hp.2 with ⟨rfl,h0⟩ | ⟨g,cap,cur,rfl,_,_,h1,_⟩
    · exact ⟨none,0,by rw [h0],by omega⟩
    · exact ⟨_,cap,rfl,h1⟩
  obtain ⟨L,hL⟩:∃ L,L=P.length:=⟨_,rfl⟩
  have HPR:=Lib.hid hp
  have HPL:=Lib.hid hpl
  have HPB:=Lib.hid hpb
  have HH:=Lib.hid hh
  rw [← hL] at hh hpc hPl
  have HL:=Lib.hid hL
  have HPC:=Lib.hid hpc
  have HLB:=Lib.hid hPl
  have HP4:=Lib.hid a4
  have HP5:=Lib.hid a5
  have HNN:=Lib.hid hN
  have k1:w.cell? ⟨bd,1,none⟩=some (.slice pq L pc):=by simp [World.cell?,hh]
  clear hh hv hvl hvb hp hpl hpb a1 a2 a3 a4 a5 hN hL hpc hPl hz
  go_enter Tryz.func157,Tryz.ntmps157
  go_wp2_with fail
  refine (sectors_any bd S P _ H.out).mono ?_
  rintro e w1 ⟨rfl,rfl⟩
  have hz:=HZ.out
  go_wp2_with fail
  go_loopw [13] (fun i wr=>∃ k:Nat,k≤L∧i=.int .i64 k∧Hid (DiskAt wr N bd (applyW S (P.take k)) P)∧Hid (Upd (DB N w1) w1 wr)) (fun i _=>L - (intOf i).toNat)
  case atStart=>exact ⟨0,Nat.zero_le _,rfl,H,Lib.hid (Upd.refl _ _)⟩
  case round =>
    obtain ⟨k,hk,rfl,HD,HU⟩:=hrel
    by_cases hlt:k < L
    · obtain ⟨x,hx⟩:∃ x,P[k]?=some x:=⟨_,List.getElem?_eq_getElem (by rw [← HL.out];exact hlt)⟩
      have hn8:∀ k,DB N w1 k→Typed w1 k 5→N k:=fun k h1 h2=>absurd (h1.2.one h2) (by decide)
      obtain ⟨g,c,v,e,c0,c1,hv,-⟩:=pend_at (own_upd HPR.out HU.out (fun k hk ht=>absurd (hk.2.one ht) (by decide))) HPL.out (fun i x v h1 h2=>(HPB.out i x v h1 h2).upd HU.out hn8) hx
      rw [← HL.out] at e
      cases e
      obtain ⟨q,d,rfl⟩:=hv.slice
      obtain ⟨X,xs⟩:=x
      have hmem:=List.mem_of_getElem? hx
      have hx128:=HP4.out _ hmem
      have hxin:=HP5.out _ hmem
      simp only at hx128 hxin c0 c1 hv
      rw [hx128] at c1 hv
      have HRX:=Lib.hid hv.rd.1
      have HX128:=Lib.hid hx128
      have HXIN:=Lib.hid hxin
      have HXE:=Lib.hid hx
      have hltg:=cell_lt c0
      have HBO:=Lib.hid ((Below.refl _ wr).alloc (Nat.le_refl _) (.cells #[.int .i64 X,.slice q 128 d] 159))
      have HDA:Hid (DiskAt (wr.alloc (.cells #[.int .i64 X,.slice q 128 d] 159)).drew N bd (applyW S (P.take k)) P):=Lib.hid (HD.out.upd (T:=fun _=>False) (Upd.of_below' HBO.out _ |> fun h=>⟨h.os,h.tape,h.output,h.size,h.block⟩) (fun k hk=>hk.elim) (fun k hk=>hk.elim))
      have HRA:Hid (Rd (wr.alloc (.cells #[.int .i64 X,.slice q 128 d] 159)).drew q xs):=Lib.hid ((HRX.out.below HBO.out).drewN 1)
      have HNW:Hid (∀ k,N k→k < (wr.alloc (.cells #[.int .i64 X,.slice q 128 d] 159)).drew.heap.size):=Lib.hid (fun k hk=>by have:=HNN.out k hk;have h2:=HU.out.size;show k < (wr.alloc _).heap.size;simp;omega)
      have HIN2:Hid (X < (applyW S (P.take k)).length):=Lib.hid (by rw [applyW_length];exact hxin)
      have q0:(wr.alloc (.cells #[.int .i64 X,.slice q 128 d] 159)).cell? ⟨wr.heap.size,0,none⟩=some (.int .i64 X):=cellNew rfl
      have q1:(wr.alloc (.cells #[.int .i64 X,.slice q 128 d] 159)).cell? ⟨wr.heap.size,1,none⟩=some (.slice q 128 d):=cellNew rfl
      clear hv hx128 hxin hmem hx hn8
      go_wp2_with fail
      go_upto_region 6 with fail
      go_region_law (first
        | (go_simp;go_at_call 77;refine (take_any bd (applyW S (P.take k)) P X q d xs _ HDA.out HNW.out HIN2.out HX128.out HRA.out).mono ?_;rintro e w3 ⟨⟨v3,rfl⟩,hd3,hu3⟩;have HD3:=Lib.hid hd3;have HU3:=Lib.hid hu3;clear hd3 hu3))
      all_goals go_wp2
      all_goals go_roundw
      all_goals first
        | exact ⟨k+1,by omega,by rw [wrapK hlt (by have:=HLB.out;omega)],Lib.hid (by
            have e:P.take (k+1)=P.take k++[(X,xs)]:=by rw [List.take_add_one,HXE.out];rfl
            rw [e,applyW_snoc];exact HD3.out),Lib.hid (Upd.same (R:=DB N) (fun a b k=>db_same a b k) (Upd.same (R:=DB N) (fun a b k=>db_same a b k) HU.out (b:=wr) (c:=(wr.alloc (.cells #[.int .i64 X,.slice q 128 d] 159)).drew) ⟨HBO.out.os,HBO.out.tape,HBO.out.output,HBO.out.size,fun k hk _=>HBO.out.block k hk⟩) HU3.out)⟩
        | (rw [wrapK hlt (by have:=HLB.out;omega)];simp [intOf];omega)
    · obtain rfl:k=L:=by omega
      obtain ⟨bs',cs',pv',kk0,kk1⟩:=HD.out.load
      have f1:wr.frozen? ⟨bd,1,none⟩=false:=by
        obtain ⟨⟨a,b,c,d,e,hh,-⟩,-⟩:=HD.out
        exact frozenC hh
      have HFE:Hid (P.take k=P):=Lib.hid (by rw [HL.out,List.take_length])
      go_wp2_with fail
      go_ret
      have hd:=HD.out
      rw [HFE.out] at hd
      exact ⟨rfl,flush_end (applyW_length P S) hd HU.out HH.out⟩
end Go.Proofs.YtheeomjfpnijbaaGreatDoor
