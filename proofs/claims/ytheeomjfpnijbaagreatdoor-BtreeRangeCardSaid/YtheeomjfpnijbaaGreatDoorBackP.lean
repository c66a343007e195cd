/- Lemmas: Back. -/
import Derived.RangeFuncBox
import Derived.RangeFuncLeaves
import Derived.RangeFuncNested
import Derived.RangeFuncBound
import Derived.RangeFuncCalls
import Derived.Shelf.Abstract
import Derived.Shelf.RegionOpen
import Derived.WalkKit
import Derived.OwnWalkIn
import Derived.TacticsInMore
import Derived.LoopNIn
import Derived.LoopIn
import Derived.RangeFuncFrom
import Derived.Maps.AppendAt
import Derived.Test.YtheeomjfpnijbaaGreatDoorDiskFlushP
set_option linter.unusedVariables false
namespace Go.Proofs.YtheeomjfpnijbaaGreatDoor
open Go.RowKit Go.Shelf
attribute [local go_sem] Oper.semAt_some
def dn (L k:Nat):List Nat:=(List.range k).map fun j=>L - 1 - j
theorem dn_succ (L k:Nat):dn L (k+1)=dn L k++[L - 1 - k]:=by simp [dn,List.range_succ]
theorem dn_length (L k:Nat):(dn L k).length=k:=by simp [dn]
set_option maxRecDepth 100000 in
set_option maxHeartbeats 2000000 in
theorem back1_in (F:Fence) (n:Nat) (hf:F.fn 265) (hro:F.round=none) (hn:1≤n) (l Bs n₀ g L cap:Nat) (X:Nat→Int) (U:Nat→Value) (hL:0 < L) (hLm:L < 1000000000) (hg:g < n₀) (hB1:Bs < n₀)
    (J Jx:List Nat→World→Prop)
    (hY:∀ pre x W,J pre W→pre.length < L→YieldAt F (n - 1) Tryz.prog l #[.int .i64 (x:Nat),.agg #[.int .i64 (X x),U x]] W fun e W' =>
      (e=.returned (.bool true)∧J (pre++[x]) W'∧Below n₀ W W') ∨ (e=.returned (.bool false)∧Jx (pre++[x]) W'))
    (W:World) (hBs:W.cell? ⟨Bs,0,none⟩=some (.slice (some ⟨g,0,none⟩) L cap)) (hc:∀ j,j < L→W.cell? ⟨g,j * 2,none⟩=some (.int .i64 (X j))∧W.cell? ⟨g,j * 2+1,none⟩=some (U j)) (h0:J [] W) :
    CallsIn F n Tryz.prog 265 #[.func (.yield l) #[] #[],.pointer (some ⟨Bs,0,none⟩)] W fun e W'=>(∃ v,e=.returned v) ∧
      (J (dn L L) W' ∨ (∃ k,k≤L∧Jx (dn L k) W')):=by
  refine callsIn_of_wp Tryz.func265 rfl hf ?_ hro
  simp only [Tryz.ntmps265,List.size_toArray,List.length_cons,List.length_nil,Nat.reduceAdd,Nat.reduceSub,Array.replicate_succ,Array.replicate_zero,List.push_toArray,List.append_toArray,List.nil_append,List.cons_append]
  gi_wp2
  gi_loopw [3] (fun i wr=>∃ (k:Nat),k≤L∧i=.int .i64 ((L:Int) - 1 - k)∧J (dn L k) wr∧Below n₀ W wr) (fun i _=>(intOf i+1).toNat)
  case atStart=>exact ⟨0,Nat.zero_le _,by simp,h0,Below.refl _ _⟩
  case round =>
    obtain ⟨k,hk,rfl,hJs,hnx⟩:=hrel
    have hBs':=(hnx.cell (p:=⟨Bs,0,none⟩) hB1).trans hBs
    by_cases hlt:k < L
    · obtain ⟨j,hj⟩:∃ j:Nat,j=L - 1 - k:=⟨_,rfl⟩
      have hji:(L:Int) - 1 - k=(j:Int):=by omega
      obtain ⟨fn,tmps,assign,body,hy,hR⟩:=hY _ j wr hJs (by rw [dn_length];exact hlt)
      obtain ⟨c0,c1⟩:=hc j (by omega)
      have c0':=(hnx.cell (p:=⟨g,j * 2,none⟩) hg).trans c0
      have c1':=(hnx.cell (p:=⟨g,j * 2+1,none⟩) hg).trans c1
      have hjL:(j:Int) < (L:Int):=by omega
      rw [hji]
      have HJ:=Lib.hid hj
      have HJI:=Lib.hid hji
      have HLT:=Lib.hid hlt
      clear hji c0 c1 hj
      gi_wp2
      refine hR.mono ?_
      rintro e W3 (⟨rfl,hJ3,hk3⟩ | ⟨rfl,hJx3⟩)
      · gi_wp2
        go_roundw
        case rel=>exact ⟨k+1,HLT.out,by have:=HJI.out;rw [show (L:Int) - 1 - ((k+1:Nat):Int)=(j:Int) - 1 by omega],by rw [dn_succ,← HJ.out];exact hJ3,hnx.trans hk3⟩
        case measure=>simp [intOf] <;> omega
      · gi_wp2
        exact bodyPost_ret (results_none rfl _ _ _) rfl ⟨⟨_,rfl⟩,.inr ⟨k+1,HLT.out,by rw [dn_succ,← HJ.out];exact hJx3⟩⟩
    · obtain rfl:k=L:=by omega
      have hneg:(k:Int) - 1 - (k:Int)=-1:=by omega
      rw [hneg]
      gi_wp2
      go_end0
      exact ⟨⟨_,rfl⟩,.inl hJs⟩
set_option maxRecDepth 100000 in
set_option maxHeartbeats 1000000 in
theorem back1_none_in (F:Fence) (n:Nat) (hf:F.fn 265) (hro:F.round=none) (l Bs c:Nat) (p:Option Addr) (J:List Nat→World→Prop)
    (W:World) (hBs:W.cell? ⟨Bs,0,none⟩=some (.slice p 0 c)) (h0:J [] W) :
    CallsIn F n Tryz.prog 265 #[.func (.yield l) #[] #[],.pointer (some ⟨Bs,0,none⟩)] W fun e W'=>(∃ v,e=.returned v)∧J [] W':=by
  refine callsIn_of_wp Tryz.func265 rfl hf ?_ hro
  simp only [Tryz.ntmps265,List.size_toArray,List.length_cons,List.length_nil,Nat.reduceAdd,Nat.reduceSub,Array.replicate_succ,Array.replicate_zero,List.push_toArray,List.append_toArray,List.nil_append,List.cons_append]
  gi_wp2
  gi_loopw [3] (fun i wr=>i=.int .i64 (-1)∧J [] wr) (fun _ _=>0)
  case atStart=>exact ⟨rfl,h0⟩
  case round =>
    obtain ⟨rfl,hJs⟩:=hrel
    gi_wp2
    go_end0
    exact ⟨⟨_,rfl⟩,hJs⟩
theorem back_stops (F:Fence) (n:Nat) (hf:F.fn 265) (hro:F.round=none) (hn:1≤n) (Bs n₀ L cap:Nat) (q:Option Addr) (X:Nat→Int) (U:Nat→Value) (hLm:L < 1000000000) (hB1:Bs < n₀)
    (w:World) (hn₀:n₀≤w.heap.size) (hBs:w.cell? ⟨Bs,0,none⟩=some (.slice q L cap)) (hq:0 < L→∃ g,q=some ⟨g,0,none⟩∧g < n₀∧∀ j,j < L→w.cell? ⟨g,j * 2,none⟩=some (.int .i64 (X j))∧w.cell? ⟨g,j * 2+1,none⟩=some (U j)) :
    SeqStopsK F n Tryz.prog 265 #[.pointer (some ⟨Bs,0,none⟩)] (fun x:Nat=>#[.int .i64 (x:Nat),.agg #[.int .i64 (X x),U x]]) (Below n₀) (fun ys=>ys=dn L L) (fun pre=>∃ k,k≤L∧pre=dn L k) L w :=
  fun l J Jx W hW hJ _ hY h0=>by
    have hBs':=(hW.cell (p:=⟨Bs,0,none⟩) (by show Bs < _;omega)).trans hBs
    rcases Nat.eq_zero_or_pos L with h | h
    · subst h
      refine (back1_none_in F n hf hro l Bs cap q J W hBs' h0).mono ?_
      rintro e W' ⟨he,h⟩
      exact ⟨he,.inl ⟨_,rfl,h⟩⟩
    · obtain ⟨g,rfl,hg,hc⟩:=hq h
      refine (back1_in F n hf hro hn l Bs n₀ g L cap X U h hLm hg hB1 J Jx hY W hBs' (fun j hj=>⟨(hW.cell (p:=⟨g,j * 2,none⟩) (by show g < _;omega)).trans (hc j hj).1,(hW.cell (p:=⟨g,j * 2+1,none⟩) (by show g < _;omega)).trans (hc j hj).2⟩) h0).mono ?_
      rintro e W' ⟨he,h | ⟨k,hk,h⟩⟩
      · exact ⟨he,.inl ⟨_,rfl,h⟩⟩
      · exact ⟨he,.inr ⟨_,⟨k,hk,rfl⟩,h⟩⟩
end Go.Proofs.YtheeomjfpnijbaaGreatDoor
namespace Go.Proofs.YtheeomjfpnijbaaGreatDoor
open Go.RowKit Go.Shelf
attribute [local go_sem] Oper.semAt_some
theorem backward_any (q:Option Addr) (n c:Nat) (w:World) :
    Calls Tryz.prog 223 #[.slice q n c] w fun e w'=>e=.returned (.func (.func 265) #[] #[.pointer (some ⟨w.heap.size,0,none⟩)])∧w'=w.alloc (.cells #[.slice q n c] 88):=by
  go_enter Tryz.func223,Tryz.ntmps223
  go_wp2
  go_ret
  exact ⟨rfl,rfl⟩
def seen (S:List (List UInt8)) (P:List (Nat × List UInt8)) (i:Nat):List UInt8:=((applyW S P)[i]?).getD []
theorem take_next {α:Type} {P:List α} {m:Nat} {x:α} (h:P[m]?=some x):P.take (m+1)=P.take m++[x]:=by rw [List.take_add_one,h];rfl
theorem applyW_skip {S:List (List UInt8)} {P:List (Nat × List UInt8)} {i m:Nat}:∀ n,(∀ (j:Nat) (x:Nat × List UInt8),m≤j→j < m+n→P[j]?=some x→x.1 ≠ i)→(applyW S (P.take (m+n)))[i]?=(applyW S (P.take m))[i]?
  | 0,_=>rfl
  | n+1,h=>by
    have ih:=applyW_skip (S:=S) n (fun j x h1 h2=>h j x h1 (by omega))
    rw [← Nat.add_assoc]
    cases hx:P[m+n]? with
    | none =>
      have:P.length≤m+n:=List.getElem?_eq_none_iff.1 hx
      rw [List.take_of_length_le (by omega),← ih,List.take_of_length_le this]
    | some x =>
      rw [take_next hx,applyW_snoc,List.getElem?_set_ne (h _ x (by omega) (by omega) hx),ih]
theorem seen_none {S:List (List UInt8)} {P:List (Nat × List UInt8)} {i:Nat} (h:∀ (j:Nat) (x:Nat × List UInt8),P[j]?=some x→x.1 ≠ i):seen S P i=(S[i]?).getD []:=by
  have:=applyW_skip (S:=S) (P:=P) (i:=i) (m:=0) P.length (fun j x _ _=>h j x)
  rw [Nat.zero_add,List.take_length] at this
  unfold seen
  rw [this]
  rfl
theorem seen_last {S:List (List UInt8)} {P:List (Nat × List UInt8)} {i m:Nat} {xs:List UInt8} (hi:i < S.length) (hx:P[m]?=some (i,xs)) (h:∀ (j:Nat) (x:Nat × List UInt8),m < j→P[j]?=some x→x.1 ≠ i):seen S P i=xs:=by
  have hm:m < P.length:=(List.getElem?_eq_some_iff.1 hx).1
  have:=applyW_skip (S:=S) (P:=P) (i:=i) (m:=m+1) (P.length - (m+1)) (fun j x h1 _=>h j x (by omega))
  rw [show m+1+(P.length - (m+1))=P.length from by omega,List.take_length] at this
  unfold seen
  rw [this,take_next hx,applyW_snoc,List.getElem?_set_self (by rw [applyW_length];exact hi)]
  rfl
theorem sect_at {w:World} {base g n cap i:Nat} {e:TypeId} {vs:List Value} {v:Value} (h:w.ownsRow base e 1 (.slice (some ⟨g,0,none⟩) n cap) n vs) (hv:vs[i]?=some v):w.cell? ⟨g,i,none⟩=some v:=by
  rcases h.2 with ⟨e',_⟩ | ⟨g',cap',cur,e',hb,hg,h1,h2,h3,h4⟩
  · cases e'
  · cases e'
    have hlt:i < n:=by have:=(List.getElem?_eq_some_iff.1 hv).1;have:=h.1;omega
    rw [← h4,List.getElem?_take_of_lt (by omega)] at hv
    simp only [World.cell?,hg]
    simpa using hv
theorem boxedB {w w':World} {B:Nat} {t:TypeId} {v:Value} (h:Boxed w B t v) (hb:Below w.heap.size w w'):Boxed w' B t v:=(hb.block B (Array.getElem?_eq_some_iff.1 h).1).trans h
theorem mem_dn {L k x:Nat}:x∈dn L k ↔ ∃ j,j < k∧x=L - 1 - j:=by
  simp only [dn,List.mem_map,List.mem_range]
  constructor
  · rintro ⟨j,h,rfl⟩;exact ⟨j,h,rfl⟩
  · rintro ⟨j,h,rfl⟩;exact ⟨j,h,rfl⟩
set_option maxRecDepth 100000 in
set_option maxHeartbeats 2000000 in
theorem diskRead_any {N:Zone} (bd:Nat) (S:List (List UInt8)) (P:List (Nat × List UInt8)) (i:Nat) (w:World) (h:DiskAt w N bd S P) (hN:∀ k,N k→k < w.heap.size) (hi:i < S.length) (hPl:P.length < 1000000000) :
    Calls Tryz.prog 161 #[.pointer (some ⟨bd,0,none⟩),.int .i64 i] w fun e w'=>∃ v,e=.returned (.tuple #[v,.int .i64 0])∧w'.ownsRow w.heap.size 5 1 v 128 (B8s (seen S P i))∧Below w.heap.size w w':=by
  have HI:=Lib.hid hi
  have HNN:=Lib.hid hN
  have HPL:=Lib.hid hPl
  have HLK:Hid (lookE (↑i) S.length=0):=Lib.hid (if_pos (by omega))
  have bN1:=Boxed.new w 3 (.int .i64 i)
  have bN2:=Boxed.new (w.alloc (.cells #[.int .i64 i] 3)) 76 (.slice none 0 0)
  have bN3:=Boxed.new ((w.alloc (.cells #[.int .i64 i] 3)).alloc (.cells #[.slice none 0 0] 76)) 28 (.int .i64 0)
  have HB3:Hid (Below w.heap.size w (((w.alloc (.cells #[.int .i64 i] 3)).alloc (.cells #[.slice none 0 0] 76)).alloc (.cells #[.int .i64 0] 28))):=Lib.hid ((((Below.refl _ w).alloc (Nat.le_refl _) _).alloc (by simp) _).alloc (by simp;omega) _)
  have b3:=(bN1.alloc (.cells #[.slice none 0 0] 76)).alloc (.cells #[.int .i64 0] 28)
  have b4:=bN2.alloc (.cells #[.int .i64 0] 28)
  rw [World.size_alloc] at b4 bN3
  rw [World.size_alloc] at bN3
  have HS3:Hid ((((w.alloc (.cells #[.int .i64 i] 3)).alloc (.cells #[.slice none 0 0] 76)).alloc (.cells #[.int .i64 0] 28)).heap.size=w.heap.size+3):=Lib.hid (by simp)
  have H3:Hid (DiskAt (((w.alloc (.cells #[.int .i64 i] 3)).alloc (.cells #[.slice none 0 0] 76)).alloc (.cells #[.int .i64 0] 28)) N bd S P):=Lib.hid (h.upd (Upd.of_below' HB3.out (fun _=>False)) (fun k hk=>hk.elim) (fun k hk=>hk.elim))
  have B3:=Lib.hid b3
  have B4:=Lib.hid b4
  have B5:=Lib.hid bN3
  clear bN1 bN2 bN3 b3 b4 hi hN hPl h
  refine (callsIn_wide (n:=9)).1 ?_
  have h1:1≤9:=by omega
  refine callsIn_of_wp_marks Tryz.func161 rfl trivial ?_ rfl
  simp only [Tryz.ntmps161,List.size_toArray,List.length_cons,List.length_nil,Nat.reduceAdd,Nat.reduceSub,Array.replicate_succ,Array.replicate_zero,List.push_toArray,List.append_toArray,List.nil_append,List.cons_append]
  gi_wp2_with fail
  generalize (((w.alloc (.cells #[.int .i64 i] 3)).alloc (.cells #[.slice none 0 0] 76)).alloc (.cells #[.int .i64 0] 28))=W3 at HB3 HS3 H3 B3 B4 B5 ⊢
  refine ⟨trivial,(callsIn_wide.2 (look_any bd S P i W3 H3.out)).mono ?_⟩
  rintro e w' ⟨rfl,rfl⟩
  rw [HLK.out]
  obtain ⟨⟨bs,cs,pv,vs,us,hh,hv,hvl,hvb,hp,hpl,hpb⟩,a1,a2,a3,a4,a5⟩:=H3.out
  obtain ⟨pq,pc,rfl,hpc⟩:∃ q c,pv=.slice q P.length c∧P.length≤c:=by
    rcases hp.2 with ⟨rfl,h0⟩ | ⟨g,cap,cur,rfl,_,_,h1,_⟩
    · exact ⟨none,0,by rw [h0],by omega⟩
    · exact ⟨_,cap,rfl,h1⟩
  have HP:=Lib.hid hp
  have HUL:=Lib.hid hpl
  have HPB:=Lib.hid hpb
  have HV:=Lib.hid hv
  have HVL:=Lib.hid hvl
  have HVB:=Lib.hid hvb
  have HH:=Lib.hid hh
  have HA3:=Lib.hid a3
  have HA4:=Lib.hid a4
  obtain ⟨L,hL⟩:∃ L,L=P.length:=⟨_,rfl⟩
  rw [← hL] at hh hpc
  have HL:=Lib.hid hL
  have k1:w'.cell? ⟨bd,1,none⟩=some (.slice pq L pc):=by simp [World.cell?,hh]
  clear hh hv hvl hvb hp hpl hpb a1 a2 a3 a4 a5 hL
  gi_wp2_with fail
  refine ⟨trivial,(callsIn_wide.2 (backward_any pq L pc w')).mono ?_⟩
  rintro e w2 ⟨rfl,rfl⟩
  gi_wp2_with fail
  obtain ⟨W4,hW4⟩:∃ W4,W4=w'.alloc (.cells #[.slice pq L pc] 88):=⟨_,rfl⟩
  have HB4:Hid (Below w'.heap.size w' W4):=Lib.hid (by rw [hW4];exact (Below.refl _ w').alloc (Nat.le_refl _) _)
  have HS4:Hid (W4.heap.size=w.heap.size+4):=Lib.hid (by rw [hW4];have:=HS3.out;simp;omega)
  have hbk:W4.cell? ⟨w'.heap.size,0,none⟩=some (.slice pq L pc):=by rw [hW4];exact cellNew rfl
  rw [← hW4]
  clear hW4
  obtain ⟨X,hXd⟩:∃ X:Nat→Int,∀ x,X x=if x < L then ((((P[x]?).map (·.1)).getD 0:Nat):Int) else (-1:Int):=⟨_,fun _=>rfl⟩
  obtain ⟨Uq,hUq⟩:∃ U:Nat→Option Addr,∀ x,U x=match us[x]? with | some (.slice q _ _)=>q | _=>none:=⟨_,fun _=>rfl⟩
  obtain ⟨Uc,hUc⟩:∃ U:Nat→Nat,∀ x,U x=match us[x]? with | some (.slice _ _ c)=>c | _=>0:=⟨_,fun _=>rfl⟩
  obtain ⟨bytes,hbd⟩:∃ f:Nat→List UInt8,∀ x,f x=((P[x]?).map (·.2)).getD []:=⟨_,fun _=>rfl⟩
  have hUx:∀ x,x < L→us[x]?=some (.slice (Uq x) 128 (Uc x))∧Rd W4 (Uq x) (bytes x)∧(bytes x).length=128:=fun x hx=>by
    obtain ⟨y,hy⟩:∃ y,P[x]?=some y:=⟨_,List.getElem?_eq_getElem (by rw [← HL.out];exact hx)⟩
    obtain ⟨v,hv⟩:∃ v,us[x]?=some v:=⟨_,List.getElem?_eq_getElem (by rw [HUL.out,← HL.out];exact hx)⟩
    have hb:=HPB.out x y v hy hv
    have h128:=HA4.out y (List.mem_of_getElem? hy)
    obtain ⟨q,d,rfl⟩:=hb.slice
    rw [h128] at hb hv
    have e1:Uq x=q:=by rw [hUq,hv]
    have e2:Uc x=d:=by rw [hUc,hv]
    have e3:bytes x=y.2:=by rw [hbd,hy];rfl
    rw [e1,e2,e3]
    exact ⟨hv,hb.rd.1.below HB4.out,h128⟩
  have hq:0 < L→∃ g,pq=some ⟨g,0,none⟩∧g < W4.heap.size∧∀ j,j < L→W4.cell? ⟨g,j * 2,none⟩=some (.int .i64 (X j))∧W4.cell? ⟨g,j * 2+1,none⟩=some (.slice (Uq j) 128 (Uc j)):=fun hp=>by
    have h0:∃ y,P[0]?=some y:=⟨_,List.getElem?_eq_getElem (by rw [← HL.out];exact hp)⟩
    obtain ⟨y,hy⟩:=h0
    obtain ⟨g,c,v,e,c0,-⟩:=pend_at HP.out HUL.out HPB.out hy
    cases e
    refine ⟨g,rfl,by have h1:g < w'.heap.size:=cell_lt c0;have:=HB4.out.size;omega,fun j hj=>?_⟩
    obtain ⟨z,hz⟩:∃ y,P[j]?=some y:=⟨_,List.getElem?_eq_getElem (by rw [← HL.out];exact hj)⟩
    obtain ⟨g',c',v',e',c0',c1',-,hv'⟩:=pend_at HP.out HUL.out HPB.out hz
    cases e'
    have e1:X j=((z.1:Nat):Int):=by rw [hXd,if_pos hj,hz];rfl
    have e2:=(hUx j hj).1
    rw [hv'] at e2
    cases e2
    rw [e1]
    exact ⟨keepC HB4.out c0',keepC HB4.out c1'⟩
  have HXD:=Lib.hid hXd
  have HUX:=Lib.hid hUx
  have HBD:=Lib.hid hbd
  clear hXd hUq hUc hUx hbd
  refine wpIn_rangeFunc_ownH (F:=Fence.wide) rfl h1 (gf:=265) (lb:=#[.pointer (some ⟨w'.heap.size,0,none⟩)]) rfl trivial (enters_of Tryz.func265 (by kernel_rfl) rfl)
    (back_stops Fence.wide 8 trivial rfl (by omega) w'.heap.size W4.heap.size L pc pq X (fun x=>.slice (Uq x) 128 (Uc x)) (by rw [HL.out];exact HPL.out) (by have:=HS4.out;have:=HS3.out;omega) W4 (Nat.le_refl _) hbk hq) belowK_t (belowK_b (Nat.le_refl _)) (Below.refl _ _) (fun _=>rfl)
    (fun pre W=>(∀ x∈pre,X x ≠ i)∧Below W4.heap.size W4 W)
    (fun c pre W=>(c=.ret∧∃ ini last,pre=ini++[last]∧(∀ x∈ini,X x ≠ i)∧X last=i∧last < L∧∃ v,Boxed W (w.heap.size+1) 76 v∧W.ownsRow w.heap.size 5 1 v 128 (B8s (bytes last))∧Boxed W (w.heap.size+1+1) 28 (.int .i64 0))∧Below w.heap.size w W)
    ?hI ?hIx ⟨by simp,Below.refl _ _⟩
    (fun x a' W=>∃ Bx,W4.heap.size≤Bx∧W.heap[Bx]?=some (.cells #[.int .i64 (X x),.slice (Uq x) 128 (Uc x)] 159 (0,0))∧a'={ tmps:=#[.pointer (some ⟨bd,0,none⟩),.int .i64 i,undef,.pointer (some ⟨w.heap.size,0,none⟩),.pointer (some ⟨w.heap.size+1,0,none⟩),.pointer (some ⟨w.heap.size+1+1,0,none⟩),.int .i64 0,undef,.pointer (some ⟨Bx,0,none⟩),.pointer (some ⟨bd,0,none⟩),.int .i64 i,.int .i64 0,.int .i64 0,.bool false,undef,.pointer (some ⟨bd,0,none⟩),.pointer (some ⟨bd,0,none⟩),.pointer (some ⟨bd,1,none⟩),.slice pq L pc,.func (.func 265) #[] #[.pointer (some ⟨w'.heap.size,0,none⟩)],.int .i64 x,.agg #[.int .i64 (X x),.slice (Uq x) 128 (Uc x)],undef,undef,undef,undef,undef,undef,undef,undef,undef,undef,undef,undef,undef,undef,undef,undef],defers:=[] })
    ?hAx ?assign ?body ?done ?stop
  case hI=>exact OwnFrom.and (ownFrom_pure _ _) (ownFrom_below (Nat.le_refl _) (Nat.le_refl _))
  case hIx =>
    rintro c s A B row ⟨⟨hc,ini,last,e1,e2,e3,e4,v,h4,ho,h5⟩,hb⟩ hg hr
    obtain ⟨v',h4',ho',-⟩:=holdsRow_own w.heap.size (w.heap.size+1) 76 5 1 (fun (_:Unit)=>128) (fun _=>B8s (bytes last)) (fun _ _=>True) () A B row ⟨v,h4,ho,trivial⟩ hg (fun r e=>(hr r e).2)
    exact ⟨⟨hc,ini,last,e1,e2,e3,e4,v',h4',ho',boxed_own (w.heap.size+1+1) 28 (fun (_:Unit)=>.int .i64 0) () A B row h5 hg (fun r e=>(hr r e).2)⟩,
      hb.grown hg hb.size (fun k e=>by have:=(hr k e).1;have:=HS4.out;omega)⟩
  case hAx =>
    rintro x a' s A B row ⟨Bx,h1,h2,h3⟩ hg hr
    exact ⟨Bx,h1,(hg.block Bx (Array.getElem?_eq_some_iff.1 h2).1 (fun e=>by obtain ⟨_,o,ho,hc⟩:=hr Bx e.symm;rw [h2] at ho;cases ho;cases hc)).trans h2,h3⟩
  case assign =>
    rintro l pre x W K ⟨hp,hB⟩ hK
    gi_wp2
    exact hK _ _ ((KeepsOthers.alloc _ _).from _) ((Below.refl _ W).alloc hB.size _) ⟨hp,hB.alloc hB.size _⟩ ⟨W.heap.size,hB.size,heap_alloc_new W _,rfl⟩
  case body =>
    rintro l pre x a' W hl hr ⟨hp,hB⟩ ⟨Bx,hBx,hx,rfl⟩ -
    have c0:W.cell? ⟨Bx,0,none⟩=some (.int .i64 (X x)):=by simp [World.cell?,hx]
    have c1:W.cell? ⟨Bx,1,none⟩=some (.slice (Uq x) 128 (Uc x)):=by simp [World.cell?,hx]
    have c3:W.cell? ⟨w.heap.size,0,none⟩=some (.int .i64 i):=keepC hB (keepC HB4.out B3.out.cell)
    have HB:=Lib.hid hB
    have HPp:=Lib.hid hp
    clear hr hp hB hx
    by_cases hX:X x=i
    · have hxb:(X x == (i:Int))=true:=by simp [hX]
      have hxL:x < L:=Classical.byContradiction fun hn=>by
        have:=HXD.out x
        rw [if_neg hn,hX] at this
        omega
      have HX:=Lib.hid hX
      have HXL:=Lib.hid hxL
      clear hX hxL
      gi_wp2_with fail
      refine ⟨trivial,(CallsIn.inRound l (callsIn_wide.2 (clone_any (Uq x) 128 (Uc x) (bytes x) W (HUX.out x HXL.out).2.2 (by omega) ((HUX.out x HXL.out).2.1.below HB.out)))).mono ?_⟩
      rintro e w5 ⟨v5,rfl,hown5,hb5⟩
      obtain ⟨q5,d5,rfl,hd5⟩:=own_slice hown5
      have B4':=boxedB (boxedB (boxedB B4.out HB4.out) HB.out) hb5
      have B5':=boxedB (boxedB (boxedB B5.out HB4.out) HB.out) hb5
      have k4:=B4'.cell
      have f4:=B4'.frozen
      have k5:=B5'.cell
      have f5:=B5'.frozen
      have HBB:=Lib.hid B4'
      have HBC:=Lib.hid B5'
      have HO5:=Lib.hid hown5
      have HB5:=Lib.hid hb5
      have hwW:Below w.heap.size w W:=HB3.out.trans ((chainC HB4.out HB.out).mono HB3.out.size)
      have HWW:=Lib.hid hwW
      clear hown5 hb5 B4' B5' hwW
      gi_wp2_with fail
      have hkf:KeepsFrom W4.heap.size W w5:=⟨HB5.out.size,fun k o _ hk _=>(HB5.out.block k (Array.getElem?_eq_some_iff.1 hk).1).trans hk⟩
      refine ⟨(hkf.trans ((KeepsOthers.setCell _ _ _).from _)).trans ((KeepsOthers.setCell _ _ _).from _),⟨rfl,pre,x,rfl,HPp.out,HX.out,HXL.out,.slice q5 128 d5,(HBB.out.set _).other (by omega) _,?_,(HBC.out.other (by omega) _).set _⟩,?_⟩
      · refine own_mono (own_upd (own_upd HO5.out (Upd.setC w5 (w.heap.size+1) 0 _) ?_) (Upd.setC _ (w.heap.size+1+1) 0 _) ?_) HWW.out.size
        · intro k hk ht;subst hk;exact absurd (ht.one ⟨_,HBB.out⟩) (by decide)
        · intro k hk ht;subst hk;exact absurd (ht.one ⟨_,HBC.out.other (by omega) _⟩) (by decide)
      · exact ((HWW.out.trans (HB5.out.mono HWW.out.size)).setCell (p:=⟨w.heap.size+1,0,none⟩) (by show w.heap.size≤w.heap.size+1;omega) _).setCell (p:=⟨w.heap.size+1+1,0,none⟩) (by show w.heap.size≤w.heap.size+1+1;omega) _
    · have hxb:(X x == (i:Int))=false:=by simp [hX]
      have HX:=Lib.hid hX
      clear hX
      gi_wp2_with fail
      exact ⟨KeepsFrom.refl _ _,Below.refl _ _,fun y hy=>(List.mem_append.1 hy).elim (HPp.out y) (fun e=>by simp at e;subst e;exact HX.out),HB.out⟩
  case done =>
    rintro D ys W hD rfl ⟨hp,hB⟩ hK
    have hnone:∀ (j:Nat) (x:Nat × List UInt8),P[j]?=some x→x.1 ≠ i:=fun j x hx he=>by
      have hjL:j < L:=by rw [HL.out];exact (List.getElem?_eq_some_iff.1 hx).1
      refine hp j (mem_dn.2 ⟨L - 1 - j,by omega,by omega⟩) ?_
      rw [HXD.out j,if_pos hjL,hx]
      show ((x.1:Nat):Int)=i
      rw [he]
    have HSN:Hid (seen S P i=(S[i]?).getD []):=Lib.hid (seen_none hnone)
    obtain ⟨si,hsi⟩:∃ x,S[i]?=some x:=⟨_,List.getElem?_eq_getElem HI.out⟩
    obtain ⟨sv,hsv⟩:∃ x,vs[i]?=some x:=⟨_,List.getElem?_eq_getElem (by rw [HVL.out];exact HI.out)⟩
    have hby:=HVB.out i si sv hsi hsv
    have hs128:=HA3.out si (List.mem_of_getElem? hsi)
    obtain ⟨sq,sc,rfl⟩:=hby.slice
    rw [hs128] at hby hsv
    have hb2:=chainC HB4.out hB
    have k0:W.cell? ⟨bd,0,none⟩=some (.slice (some ⟨bs,0,none⟩) S.length cs):=keepC hb2 (by simp [World.cell?,HH.out])
    have k2:W.cell? ⟨bs,i,none⟩=some (.slice sq 128 sc):=keepC hb2 (sect_at HV.out hsv)
    have b3:=boxedB B3.out hb2
    have b4:=boxedB B4.out hb2
    have b5:=boxedB B5.out hb2
    have c3:=b3.cell
    have c4:=b4.cell
    have f4:=b4.frozen
    have c5:=b5.cell
    have f5:=b5.frozen
    have hn:(i:Int) < (S.length:Int):=by have:=HI.out;omega
    have HRD:Hid (Rd W.drew sq si):=Lib.hid ((hby.rd.1.below hb2).drewN 1)
    have HSE:Hid (seen S P i=si):=Lib.hid (by rw [HSN.out,hsi];rfl)
    have HSI:=Lib.hid hs128
    have HBT:=Lib.hid (HB3.out.trans (hb2.mono HB3.out.size))
    have BB4:=Lib.hid b4
    have BB5:=Lib.hid b5
    have HKK:=Lib.hid hK
    clear hp hB hnone hby hs128 hb2 b3 b4 b5 hsi hsv
    gi_wp2_with fail
    have mixed:Tryz.prog.follows Departure.mixedOrders=true:=by kernel_rfl
    refine Code.wpIn_mono NoPanic.imp ?_
    gi_region_with_o (refine ⟨trivial,(callsIn_wide.2 (clone_any sq 128 sc si _ HSI.out (by omega) HRD.out)).mono ?_⟩;rintro e w5 ⟨v5,rfl,hown5,hb5⟩;obtain ⟨q5,d5,rfl,hd5⟩:=own_slice hown5;have b45:=boxedB (show Boxed W.drew _ _ _ from BB4.out) hb5;have b55:=boxedB (show Boxed W.drew _ _ _ from BB5.out) hb5;have k45:=b45.cell;have f45:=b45.frozen;have k55:=b55.cell;have f55:=b55.frozen;have k05:w5.cell? ⟨bd,0,none⟩=_:=keepC hb5 (show W.drew.cell? _=_ from k0);have k25:w5.cell? ⟨bs,i,none⟩=_:=keepC hb5 (show W.drew.cell? _=_ from k2);have k35:w5.cell? ⟨w.heap.size,0,none⟩=_:=keepC hb5 (show W.drew.cell? _=_ from c3);have BB45:=Lib.hid b45;have BB55:=Lib.hid b55;have HO5:=Lib.hid hown5;have HB5:=Lib.hid hb5;clear hown5 hb5 b45 b55)
    all_goals refine NoPanic.normal ?_
    all_goals gi_wp2_with fail
    all_goals
      have hK5:w5.heap[D]?=some (.deferred (some [])):=(HB5.out.block D (Array.getElem?_eq_some_iff.1 HKK.out).1).trans HKK.out
      have hK6:((w5.setCell ⟨w.heap.size+1,0,none⟩ (.slice q5 128 d5)).setCell ⟨w.heap.size+1+1,0,none⟩ (.int .i64 0)).heap[D]?=some (.deferred (some [])):=(KeepsOthers.setCell _ _ _).same D _ ((KeepsOthers.setCell _ _ _).same D _ hK5 rfl) rfl
      have g4:Boxed ((w5.setCell ⟨w.heap.size+1,0,none⟩ (.slice q5 128 d5)).setCell ⟨w.heap.size+1+1,0,none⟩ (.int .i64 0)) (w.heap.size+1) 76 (.slice q5 128 d5):=(BB45.out.set _).other (by omega) _
      have g5:Boxed ((w5.setCell ⟨w.heap.size+1,0,none⟩ (.slice q5 128 d5)).setCell ⟨w.heap.size+1+1,0,none⟩ (.int .i64 0)) (w.heap.size+1+1) 28 (.int .i64 0):=(BB55.out.other (by omega) _).set _
      refine ⟨by simp,.inl ⟨_,_,rfl,run_takeDeferred hK6,?_⟩⟩
      have hc4:=cell_kept g4.cell (grownBy_putObj' _ D (.deferred none)) (fun r e=>by cases e;exact ⟨_,hK6,rfl⟩)
      have hc5:=cell_kept g5.cell (grownBy_putObj' _ D (.deferred none)) (fun r e=>by cases e;exact ⟨_,hK6,rfl⟩)
      have hbw:Below w.heap.size w W:=HBT.out
      have hb5:Below w.heap.size w w5:=hbw.trans (⟨HB5.out.os,HB5.out.tape,HB5.out.output,HB5.out.size,fun k hk=>HB5.out.block k (by have:=hbw.size;show k < W.heap.size;omega)⟩)
      refine ⟨.tuple #[.slice q5 128 d5,.int .i64 0],?_,.slice q5 128 d5,rfl,?_,?_⟩
      · simp [results,Tryz.results161,go_sem,hc4,hc5]
      · rw [HSE.out]
        refine ownsRow_putObj (own_mono (own_upd (own_upd HO5.out (Upd.setC w5 (w.heap.size+1) 0 _) ?_) (Upd.setC _ (w.heap.size+1+1) 0 _) ?_) hbw.size) _ hK6 rfl
        · intro k hk ht;subst hk;exact absurd (ht.one ⟨_,BB45.out⟩) (by decide)
        · intro k hk ht;subst hk;exact absurd (ht.one ⟨_,BB55.out.other (by omega) _⟩) (by decide)
      · exact ((hb5.setCell (p:=⟨w.heap.size+1,0,none⟩) (by show w.heap.size≤w.heap.size+1;omega) _).setCell (p:=⟨w.heap.size+1+1,0,none⟩) (by show w.heap.size≤w.heap.size+1+1;omega) _).trans (belowK_b (w:=w) (Nat.le_refl _) _ D _ _ (by have:=HS4.out;omega) hK6 rfl rfl)
  case stop =>
    rintro D c pre W hD ⟨k,hk,rfl⟩ ⟨⟨rfl,ini,last,e1,e2,e3,e4,v,h4,ho,h5⟩,hb⟩ hK
    have hlast:seen S P i=bytes last:=by
      obtain ⟨y,hy⟩:∃ y,P[last]?=some y:=⟨_,List.getElem?_eq_getElem (by rw [← HL.out];exact e4)⟩
      have hyi:y.1=i:=by
        have:=HXD.out last
        rw [e3,if_pos e4,hy] at this
        simp at this
        omega
      obtain ⟨k',rfl⟩:∃ k',k=k'+1:=by
        cases k with
        | zero=>simp [dn] at e1
        | succ k'=>exact ⟨k',rfl⟩
      rw [dn_succ] at e1
      obtain ⟨rfl,e5⟩:=List.append_inj' e1 rfl
      have e6:L - 1 - k'=last:=by simpa using e5
      rw [HBD.out,hy]
      refine seen_last HI.out (m:=last) (by rw [hy,← hyi];rfl) (fun j x hj hx he=>?_)
      have hjL:j < L:=by rw [HL.out];exact (List.getElem?_eq_some_iff.1 hx).1
      refine e2 j (mem_dn.2 ⟨L - 1 - j,by omega,by omega⟩) ?_
      rw [HXD.out j,if_pos hjL,hx]
      show ((x.1:Nat):Int)=i
      rw [he]
    gi_wp2
    refine ⟨by simp,.inl ⟨_,_,rfl,run_takeDeferred hK,?_⟩⟩
    have hc4:=cell_kept h4.cell (grownBy_putObj' _ D (.deferred none)) (fun r e=>by cases e;exact ⟨_,hK,rfl⟩)
    have hc5:=cell_kept h5.cell (grownBy_putObj' _ D (.deferred none)) (fun r e=>by cases e;exact ⟨_,hK,rfl⟩)
    refine ⟨.tuple #[v,.int .i64 0],?_,v,rfl,by rw [hlast];exact ownsRow_putObj ho _ hK rfl,hb.trans (belowK_b (w:=w) (Nat.le_refl _) W D _ _ (by have:=HS4.out;omega) hK rfl rfl)⟩
    simp [results,Tryz.results161,go_sem,hc4,hc5]
end Go.Proofs.YtheeomjfpnijbaaGreatDoor
