/- Lemmas: Bt21, Bt22. -/
import Derived.Test.YtheeomjfpnijbaaGreatDoorCopyKP
import Derived.Test.YtheeomjfpnijbaaGreatDoorZTr
set_option linter.unusedVariables false
section
namespace Go.Proofs.YtheeomjfpnijbaaGreatDoor
open Go.RowKit Go.Shelf
theorem splice_ins {α:Type} {A D cur X:List α} {a:Nat} (ha:A.length=a) (hX:X.length=3) (hc:3≤cur.length):splice (splice (A++(D++cur)) (a+3) D) a X=A++(X++(D++cur.drop 3)):=by
  subst ha
  have e0:(A++(D++cur)).drop (A.length+3+D.length)=cur.drop 3:=by
    rw [show A.length+3+D.length=A.length+(D.length+3) from by omega,← List.drop_drop,List.drop_left,← List.drop_drop,List.drop_left]
  have e:splice (A++(D++cur)) (A.length+3) D=(A++(D++cur)).take (A.length+3)++(D++cur.drop 3):=by
    unfold splice
    rw [e0]
  rw [e]
  have hl:((A++(D++cur)).take (A.length+3)).length=A.length+3:=by rw [List.length_take,List.length_append,List.length_append];omega
  have e1:((A++(D++cur)).take (A.length+3)++(D++cur.drop 3)).take A.length=A:=by
    rw [List.take_append_of_le_length (by omega),List.take_take,Nat.min_eq_left (by omega),List.take_left]
  have e2:((A++(D++cur)).take (A.length+3)++(D++cur.drop 3)).drop (A.length+3)=D++cur.drop 3:=by
    have:=List.drop_left (l₁:=(A++(D++cur)).take (A.length+3)) (l₂:=D++cur.drop 3)
    rwa [hl] at this
  unfold splice
  rw [hX,e1,e2]
theorem splice_ins2 {α:Type} {L A D X:List α} {a b:Nat} (ha:A.length=a) (hb:a+X.length=b) (hA:L.take a=A) (hl:b+D.length≤L.length):splice (splice L a X) b D=A++(X++(D++L.drop (b+D.length))):=by
  subst ha hb
  have e:splice L A.length X=(A++X)++L.drop (A.length+X.length):=by unfold splice;rw [hA,List.append_assoc]
  have e1:((A++X)++L.drop (A.length+X.length)).take (A.length+X.length)=A++X:=by rw [← List.length_append,List.take_left]
  have e2:((A++X)++L.drop (A.length+X.length)).drop (A.length+X.length+D.length)=L.drop (A.length+X.length+D.length):=by
    rw [← List.length_append,← List.drop_drop,List.drop_left,List.drop_drop]
  rw [e]
  unfold splice
  rw [e1,e2,List.append_assoc]
theorem own3 {w:World} {base:Nat} {v:Value} {n:Nat} {l:List Cel} (h:w.ownsRow base 129 3 v n (l.flatMap celV)) (hn:0 < n) :
    ∃ g cap cur,v=.slice (some ⟨g,0,none⟩) n cap∧base≤g∧w.heap[g]?=some (.cells (l.flatMap celV++cur).toArray 129 (0,0))∧l.length=n∧n * 3+cur.length=cap * 3∧n≤cap∧cap≤maxLen:=by
  obtain ⟨hl,⟨-,h0⟩ | ⟨g,cap,cur,rfl,hb,hg,h1,h2,h3,h4⟩⟩:=h
  · omega
  · rw [flat_len celV 3 celV_length] at hl
    refine ⟨g,cap,cur.toList.drop (n * 3),rfl,hb,?_,by omega,?_,h1,h2⟩
    · rw [← h4,List.take_append_drop,Array.toArray_toList]
      exact hg
    · have:cur.toList.length=cap * 3:=by rw [Array.length_toList];exact h3
      rw [List.length_drop]
      omega
theorem own3_mk {w:World} {base g n cap:Nat} {l:List Cel} {cur:List Value} (hb:base≤g) (hg:w.heap[g]?=some (.cells (l.flatMap celV++cur).toArray 129 (0,0))) (hl:l.length=n) (hc:n * 3+cur.length=cap * 3) (hm:cap≤maxLen) :
    w.ownsRow base 129 3 (.slice (some ⟨g,0,none⟩) n cap) n (l.flatMap celV):=by
  have h3:=flat_len celV 3 celV_length l
  refine ⟨by rw [h3,hl],.inr ⟨g,cap,_,rfl,hb,hg,by omega,hm,?_,?_⟩⟩
  · rw [List.size_toArray,List.length_append,h3,hl];exact hc
  · show ((l.flatMap celV++cur).take (n * 3))=_
    rw [List.take_left' (by rw [h3,hl])]
theorem insC_flat (l:List Cel) (i:Nat) (x:Cel):(insC l i x).flatMap celV=(l.take i).flatMap celV++(celV x++(l.drop i).flatMap celV):=by
  unfold insC
  rw [List.flatMap_append,List.flatMap_cons]
def InsQ (base:Nat) (w:World) (v:Value) (n:Nat) (l:List Cel) (e:Ending) (w':World):Prop :=
  ∃ q c,e=.returned (.slice q (n+1) c)∧w'.ownsRow base 129 3 (.slice q (n+1) c) (n+1) (l.flatMap celV)∧Upd (fun k=>some k=v.ownBlock) w w'∧(∀ k,(Value.slice q (n+1) c).ownBlock=some k→v.ownBlock=some k ∨ w.heap.size≤k)
theorem cel_news {W:World} {gv:Nat} {x:Cel} (h:W.heap[gv]?=some (.cells (celV x).toArray 129 (0,0))) (j:Nat) (u:Value) (hu:(celV x)[j]?=some u):W.cell? ((⟨gv,0,none⟩:Addr).add j)=some u:=by
  have e:((⟨gv,0,none⟩:Addr).add j)=⟨gv,j,none⟩:=by simp [Addr.add];omega
  rw [e]
  simp only [World.cell?,h]
  simpa using hu
set_option maxRecDepth 20000 in
set_option maxHeartbeats 4000000 in
theorem insert_end (p:Option Addr) (n c:Nat) (l:List Cel) (x:Cel) (gv base:Nat) (w:World) (ho:w.ownsRow base 129 3 (.slice p n c) n (l.flatMap celV)) (hv:w.heap[gv]?=some (.cells (celV x).toArray 129 (0,0))) (hbase:base≤w.heap.size) (hn:n≤1000) (hc:n≤c) (hcm:c≤maxLen) :
    Calls Tryz.prog 40 #[.slice p n c,.int .i64 n,.slice (some ⟨gv,0,none⟩) 1 1] w (InsQ base w (.slice p n c) n (insC l n x)):=by
  have hl:l.length=n:=by have:=ho.1;rw [flat_len celV 3 celV_length] at this;omega
  have HL:=Lib.hid hl
  have HO:=Lib.hid ho
  have HV:=Lib.hid hv
  have HB:=Lib.hid hbase
  have HN:=Lib.hid hn
  have HNW:Hid (∀ (j:Nat) (u:Value),(celV x)[j]?=some u→w.cell? ((⟨gv,0,none⟩:Addr).add j)=some u):=Lib.hid (cel_news hv)
  obtain ⟨i0,hi0,hz0,hz1,hz2⟩:=info_parts infoCell
  have hci:(n:Int)≤(c:Int):=by omega
  clear hl ho hv hbase hn
  by_cases hnc:c=n
  · have hcn:=hnc.symm
    clear hnc
    subst hcn
    go_enter Tryz.func40,Tryz.ntmps40
    go_wp2_with (at_builtin;go_loud (refine wpList_append_lies _ rfl (.tmp 23) (.tmp 24) 123 rfl base 129 i0 (.agg #[.string ⟨#[]⟩,.string ⟨#[]⟩,.int .i64 0]) 3 40 Tryz.underlying123 hi0 hz0 hz1 hz2 rfl (by decide) (.slice p n n) n _ rfl HO.out ⟨gv,0,none⟩ 1 1 (celV x) (by rfl) rfl HNW.out (celV_one x) (by omega) (by simp only [maxLen];have:=HN.out;omega) (by have:=HN.out;omega) HB.out w.heap.size rfl ?_))
    intro gg cap w7 hown7 hgrow7 hat7 hlt7
    have HO7:=Lib.hid hown7
    have HG7:=Lib.hid hgrow7
    have HA7:=Lib.hid hat7
    clear hown7 hgrow7 hat7 hlt7
    go_wp2
    go_ret
    refine ⟨some ⟨gg,0,none⟩,cap,rfl,?_,Upd.of_grown HG7.out,fun k hk=>?_⟩
    · rw [insC_flat,List.take_of_length_le (by rw [HL.out];exact Nat.le_refl _),List.drop_of_length_le (by rw [HL.out];exact Nat.le_refl _)]
      simp only [List.flatMap_nil,List.append_nil]
      exact HO7.out
    · cases hk
      rcases HA7.out with h | h
      · exact .inl h
      · exact .inr (by rw [h];exact Nat.le_refl _)
  · have hnc':(c=n)=False:=eq_false hnc
    go_enter Tryz.func40,Tryz.ntmps40
    go_wp2_with (at_builtin;go_loud (refine wpList_append_lies _ rfl (.tmp 23) (.tmp 24) 123 rfl base 129 i0 (.agg #[.string ⟨#[]⟩,.string ⟨#[]⟩,.int .i64 0]) 3 40 Tryz.underlying123 hi0 hz0 hz1 hz2 rfl (by decide) (.slice p n c) n _ rfl HO.out ⟨gv,0,none⟩ 1 1 (celV x) (by rfl) rfl HNW.out (celV_one x) (by omega) (by simp only [maxLen];have:=HN.out;omega) (by have:=HN.out;omega) HB.out w.heap.size rfl ?_))
    intro gg cap w7 hown7 hgrow7 hat7 hlt7
    have HO7:=Lib.hid hown7
    have HG7:=Lib.hid hgrow7
    have HA7:=Lib.hid hat7
    clear hown7 hgrow7 hat7 hlt7
    go_wp2
    go_ret
    refine ⟨some ⟨gg,0,none⟩,cap,rfl,?_,Upd.of_grown HG7.out,fun k hk=>?_⟩
    · rw [insC_flat,List.take_of_length_le (by rw [HL.out];exact Nat.le_refl _),List.drop_of_length_le (by rw [HL.out];exact Nat.le_refl _)]
      simp only [List.flatMap_nil,List.append_nil]
      exact HO7.out
    · cases hk
      rcases HA7.out with h | h
      · exact .inl h
      · exact .inr (by rw [h];exact Nat.le_refl _)
set_option maxRecDepth 20000 in
set_option maxHeartbeats 4000000 in
theorem insert_room (g n c i:Nat) (l:List Cel) (cur:List Value) (x:Cel) (gv base:Nat) (w:World) (hg:w.heap[g]?=some (.cells (l.flatMap celV++cur).toArray 129 (0,0))) (hl:l.length=n) (hcc:n * 3+cur.length=c * 3) (hcm:c≤maxLen) (hv:w.heap[gv]?=some (.cells (celV x).toArray 129 (0,0))) (hne:gv ≠ g) (hbase:base≤g) (hn:n≤1000) (hi:i < n) (hc:n+1≤c) :
    Calls Tryz.prog 40 #[.slice (some ⟨g,0,none⟩) n c,.int .i64 i,.slice (some ⟨gv,0,none⟩) 1 1] w (InsQ base w (.slice (some ⟨g,0,none⟩) n c) n (insC l i x)):=by
  have hfl:=flat_len celV 3 celV_length l
  have hov:∀ d o m,(callFunc 88 #[.slice (some ⟨gv,0,none⟩) 1 1,.slice (some ⟨g,o,none⟩) m d]).run Tryz.prog w=.ok (.value (.bool false)) w:=fun d o m=>overlapsC hv hg hne (by rw [List.size_toArray,List.length_append,hfl,hl];omega)
  have HL:=Lib.hid hl
  have HG:=Lib.hid hg
  have HV:=Lib.hid hv
  have HB:=Lib.hid hbase
  have HCC:=Lib.hid hcc
  have HCM:=Lib.hid hcm
  have HNE:=Lib.hid hne
  have HN:=Lib.hid hn
  obtain ⟨D,hD⟩:∃ D,D=(l.drop i).flatMap celV:=⟨_,rfl⟩
  obtain ⟨A,hA⟩:∃ A,A=(l.take i).flatMap celV:=⟨_,rfl⟩
  have hAl:A.length=i * 3:=by rw [hA,flat_len celV 3 celV_length,List.length_take,hl];omega
  have hDl:D.length=(n - i) * 3:=by rw [hD,flat_len celV 3 celV_length,List.length_drop,hl]
  have hAD:l.flatMap celV++cur=A++(D++cur):=by
    rw [hA,hD,← List.append_assoc,← List.flatMap_append,List.take_append_drop]
  have HG':Hid (w.drew.heap[g]?=some (.cells (A++(D++cur)).toArray 129 (0,0))):=Lib.hid (by rw [← hAD];exact hg)
  obtain ⟨j,hj⟩:∃ j,j=i+1:=⟨_,rfl⟩
  have hjI:(i:Int)+1=(j:Int):=by omega
  have hjn:j≤n+1:=by omega
  have hjn':(j:Int)≤(n:Int)+1:=by omega
  have hin:(i:Int)≤(n:Int):=by omega
  have hin1:(i:Int)≤(n:Int)+1:=by omega
  have hic:i≤c:=by omega
  have hci0:(c=i)=False:=eq_false (by omega)
  have hcj0:(c=j)=False:=eq_false (by omega)
  have hncI:(n:Int)+1≤(c:Int):=by omega
  have hncd:decide ((n:Int)+1 > (c:Int))=false:=decide_eq_false (by omega)
  have hine:((i:Int) == (n:Int))=false:=by rw [beq_eq_false_iff_ne];omega
  have hwj:IntKind.i64.wrap (j:Int)=(j:Int):=by rw [IntKind.wrap_i64];omega
  have hwn:IntKind.i64.wrap ((n:Int)+1)=(n:Int)+1:=by rw [IntKind.wrap_i64];omega
  have HJ:=Lib.hid hj
  have HAL:=Lib.hid hAl
  have HDL:=Lib.hid hDl
  have HI:=Lib.hid hi
  have HC:=Lib.hid hc
  have HAD:Hid (A++(celV x++(D++cur.drop 3))=(insC l i x).flatMap celV++cur.drop 3):=Lib.hid (by rw [insC_flat,← hA,← hD];simp only [List.append_assoc])
  have hDone:Hid (∀ v∈D,v.oneCell'=true):=Lib.hid (by rw [hD];exact flatV_one _)
  clear hfl hl hg hv hbase hcc hne hn hD hA hAl hDl hAD hj hi hc
  go_enter Tryz.func40,Tryz.ntmps40
  go_wp2
  have HSRC:Hid (∀ (k:Nat) (v:Value),D[k]?=some v→w.drew.cell? ((⟨g,i * 3,none⟩:Addr).add k)=some v):=Lib.hid (fun k v hk=>by
    have e:((⟨g,i * 3,none⟩:Addr).add k)=⟨g,i * 3+k,none⟩:=by simp [Addr.add]
    rw [e]
    simp only [World.cell?,HG'.out]
    have:(A++(D++cur))[i * 3+k]?=some v:=by
      rw [List.getElem?_append_right (by rw [HAL.out];omega),HAL.out]
      have hk':=(List.getElem?_eq_some_iff.1 hk).1
      rw [List.getElem?_append_left (by omega)]
      simpa using hk
    simpa using this)
  have HMIN:Hid (D.length=Nat.min (n+1 - i) (n+1 - j) * 3):=Lib.hid (by rw [HDL.out];have h1:=HJ.out;have:Nat.min (n+1 - i) (n+1 - j)=n - i:=(by show min _ _=_;omega);rw [this])
  have HFIT:Hid (j * 3+D.length≤(A++(D++cur)).length):=Lib.hid (by rw [List.length_append,List.length_append,HAL.out,HDL.out];have h1:=HJ.out;have h2:=HCC.out;have h3:=HC.out;have h4:=HI.out;omega)
  go_region_law (refine step_copyK rfl (.tmp 73) (.tmp 76) 123 123 rfl 129 3 Tryz.underlying123 szC g (j * 3) (n+1 - j) (c - j) ⟨g,i * 3,none⟩ (n+1 - i) (c - i) (by simp [Act.eval,Act.put]) (by simp [Act.eval,Act.put]) (A++(D++cur)) 129 (by exact HG'.out) D HMIN.out HSRC.out HFIT.out hDone.out ?_;intro w1 hh1 hu1)
  have HLS:Hid ((splice (A++(D++cur)) (j * 3) D).length=(A++(D++cur)).length):=Lib.hid (length_splice _ _ _ HFIT.out)
  have hv1:w1.heap[gv]?=some (.cells (celV x).toArray 129 (0,0)):=(hu1.out.block gv (Array.getElem?_eq_some_iff.1 HV.out).1 HNE.out).trans HV.out
  have HSRC2:=Lib.hid (cel_news hv1)
  have HFIT2:Hid (i * 3+(celV x).length≤(splice (A++(D++cur)) (j * 3) D).length):=Lib.hid (by rw [HLS.out,List.length_append,List.length_append,HAL.out,HDL.out,celV_length];have h2:=HCC.out;have h3:=HC.out;have h4:=HI.out;omega)
  have HMIN2:Hid ((celV x).length=Nat.min 1 (n+1 - i) * 3):=Lib.hid (by rw [celV_length];have h4:=HI.out;have:Nat.min 1 (n+1 - i)=1:=(by show min _ _=_;omega);rw [this])
  have HONE:=Lib.hid (celV_one x)
  clear hv1
  go_wp2_with (with_reducible (refine wpList_copyK rfl (.tmp 80) (.tmp 81) 123 123 rfl 129 3 Tryz.underlying123 szC g (i * 3) (n+1 - i) (c - i) ⟨gv,0,none⟩ 1 1 rfl rfl (splice (A++(D++cur)) (j * 3) D) 129 hh1.out (celV x) HMIN2.out HSRC2.out HFIT2.out HONE.out ?_))
  intro w2 hh2 hu2
  have HE:Hid (splice (splice (A++(D++cur)) (j * 3) D) (i * 3) (celV x)=A++(celV x++(D++cur.drop 3))):=Lib.hid (by
    have h1:=HJ.out
    have:j * 3=i * 3+3:=by omega
    rw [this]
    exact splice_ins HAL.out (celV_length x) (by have h2:=HCC.out;have h3:=HC.out;omega))
  go_wp2
  go_ret
  have h9:=hh2.out
  rw [HE.out,HAD.out] at h9
  refine ⟨some ⟨g,0,none⟩,c,rfl,own3_mk HB.out h9 ?_ ?_ HCM.out,?_,fun k hk=>.inl hk⟩
  · unfold insC;rw [List.length_append,List.length_cons,List.length_take,List.length_drop,HL.out];have:=HI.out;omega
  · rw [List.length_drop];have h2:=HCC.out;have h3:=HC.out;omega
  · have hu:Upd (fun k=>some k=(Value.slice (some ⟨g,0,none⟩) n c).ownBlock) w w1:=⟨hu1.out.os,hu1.out.tape,hu1.out.output,hu1.out.size,fun k hk hn=>hu1.out.block k hk (fun e=>hn (by rw [e];rfl))⟩
    exact hu.trans' hu2.out (fun k _ e=>by rw [e];rfl)
set_option maxRecDepth 20000 in
set_option maxHeartbeats 4000000 in
theorem insert_grow (g n i:Nat) (l:List Cel) (x:Cel) (gv base:Nat) (w:World) (hg:w.heap[g]?=some (.cells (l.flatMap celV).toArray 129 (0,0))) (hl:l.length=n) (hv:w.heap[gv]?=some (.cells (celV x).toArray 129 (0,0))) (hbase:base≤w.heap.size) (hn:n≤1000) (hi:i < n) :
    Calls Tryz.prog 40 #[.slice (some ⟨g,0,none⟩) n n,.int .i64 i,.slice (some ⟨gv,0,none⟩) 1 1] w (InsQ base w (.slice (some ⟨g,0,none⟩) n n) n (insC l i x)):=by
  have hfl:=flat_len celV 3 celV_length l
  have HL:=Lib.hid hl
  have HG:=Lib.hid hg
  have HV:=Lib.hid hv
  have HB:=Lib.hid hbase
  have HN:=Lib.hid hn
  obtain ⟨D,hD⟩:∃ D,D=(l.drop i).flatMap celV:=⟨_,rfl⟩
  obtain ⟨A,hA⟩:∃ A,A=(l.take i).flatMap celV:=⟨_,rfl⟩
  have hAl:A.length=i * 3:=by rw [hA,flat_len celV 3 celV_length,List.length_take,hl];omega
  have hDl:D.length=(n - i) * 3:=by rw [hD,flat_len celV 3 celV_length,List.length_drop,hl]
  have hAD:l.flatMap celV=A++D:=by
    rw [hA,hD,← List.flatMap_append,List.take_append_drop]
  rw [hAD] at hg
  obtain ⟨i0,hi0,hz0,hz1,hz2⟩:=info_parts infoCell
  obtain ⟨m,hm⟩:∃ m,m=n+1 - i:=⟨_,rfl⟩
  have hrun:=fun ty=>Lib.run_append_grow_zeros (P:=Tryz.prog) w 123 3 ty 129 i0 (.agg #[.string ⟨#[]⟩,.string ⟨#[]⟩,.int .i64 0]) .i64 .i64 Tryz.underlying123 Tryz.underlying3 hi0 hz0 (some ⟨g,0,none⟩) i n A
    (by rw [hz1];exact run_firstCells_some w.drew 3 i ⟨g,0,none⟩ i n A (by rw [hAl]) (fun k v hk=>by
      have e:((⟨g,0,none⟩:Addr).add k)=⟨g,k,none⟩:=by simp [Addr.add];omega
      rw [e]
      have:w.drew.heap[g]?=some (.cells (A++D).toArray 129 (0,0)):=hg
      simp only [World.cell?,this]
      have hk':=(List.getElem?_eq_some_iff.1 hk).1
      have h5:(A++D)[k]?=some v:=by rw [List.getElem?_append_left hk'];exact hk
      simpa using h5)) m (by omega) (by rw [hz1];decide) (by omega) (by omega) (by rw [hz2];omega) (by rw [hz2];exact growslice_fits (by omega) (by omega))
  have him:i+m=n+1:=by omega
  rw [him] at hrun
  have hge:=grownCap_ge w (n+1) n 129
  have hle:=grownCap_le_maxLen w (n+1) n 129 (by unfold maxLen;omega)
  obtain ⟨C,hC⟩:∃ C,C=grownCap w (n+1) n 129:=⟨_,rfl⟩
  rw [← hC] at hrun hge hle
  obtain ⟨Z,hZ⟩:∃ Z:Array Value,Z=Builtin.zeroCells (Value.agg #[.string ⟨#[]⟩,.string ⟨#[]⟩,.int .i64 0]).cells m++Builtin.zeroCells (Value.agg #[.string ⟨#[]⟩,.string ⟨#[]⟩,.int .i64 0]).cells (C - (n+1)):=⟨_,rfl⟩
  obtain ⟨L,hL⟩:∃ L:Array Value,L=A.toArray++Builtin.zeroCells (Value.agg #[.string ⟨#[]⟩,.string ⟨#[]⟩,.int .i64 0]).cells m++Builtin.zeroCells (Value.agg #[.string ⟨#[]⟩,.string ⟨#[]⟩,.int .i64 0]).cells (C - (n+1)):=⟨_,rfl⟩
  have hLZ:L=A.toArray++Z:=by rw [hL,hZ,Array.append_assoc]
  have hzl:(Value.agg #[.string ⟨#[]⟩,.string ⟨#[]⟩,.int .i64 0]).cells.size=3:=rfl
  have hZs:Z.size=(C - i) * 3:=by
    rw [hZ,Array.size_append,size_zeroCells,size_zeroCells,hzl]
    omega
  have hLs:L.toList.length=C * 3:=by
    rw [Array.length_toList,hLZ,Array.size_append,hZs,List.size_toArray,hAl]
    omega
  have hLA:L.toList.take (i * 3)=A:=by
    rw [hLZ,Array.toList_append,List.toList_toArray,← hAl,List.take_left]
  rw [← hL] at hrun
  have HR:=Lib.hid hrun
  have HLS:=Lib.hid hLs
  have HLA:=Lib.hid hLA
  have HAL:=Lib.hid hAl
  have HDL:=Lib.hid hDl
  have HGE:=Lib.hid hge
  have HLE:=Lib.hid hle
  have HI:=Lib.hid hi
  have HG':=Lib.hid hg
  have HM:=Lib.hid hm
  have hDone:Hid (∀ v∈D,v.oneCell'=true):=Lib.hid (by rw [hD];exact flatV_one _)
  have HADX:Hid (∀ R:List Value,A++(celV x++(D++R))=(insC l i x).flatMap celV++R):=Lib.hid (fun R=>by rw [insC_flat,← hA,← hD];simp only [List.append_assoc])
  obtain ⟨j,hj⟩:∃ j,j=i+1:=⟨_,rfl⟩
  have HJ:=Lib.hid hj
  have hjI:(i:Int)+1=(j:Int):=by omega
  have HWM:Hid (IntKind.i64.wrap ((n:Int)+1 - (i:Int))=(m:Int)):=Lib.hid (by rw [IntKind.wrap_i64];omega)
  have hin:(i:Int)≤(n:Int):=by omega
  have hni0:(n=i)=False:=eq_false (by omega)
  have hCi0:(C=i)=False:=eq_false (by omega)
  have hCj0:(C=j)=False:=eq_false (by omega)
  have hiC:(i:Int)≤(n:Int)+1:=by omega
  have hncd:decide ((n:Int)+1 > (n:Int))=true:=decide_eq_true (by omega)
  have hine:((i:Int) == (n:Int))=false:=by rw [beq_eq_false_iff_ne];omega
  have hwj:IntKind.i64.wrap (j:Int)=(j:Int):=by rw [IntKind.wrap_i64];omega
  have hwn:IntKind.i64.wrap ((n:Int)+1)=(n:Int)+1:=by rw [IntKind.wrap_i64];omega
  have hjn':(j:Int)≤(n:Int)+1:=by omega
  clear hL hC hZ hLZ hzl hZs hLs hLA hAl hDl hge hle hi hfl hl hg hv hbase hn hD hA hAD him hrun hm hj
  go_enter Tryz.func40,Tryz.ntmps40
  have HWM2:Hid (wrap64 ((n:Int)+1 - (i:Int))=(m:Int)):=Lib.hid (by have h1:=HM.out;have h2:=HN.out;have h3:=HI.out;unfold wrap64;omega)
  have HA0:Hid ((w.alloc (.cells L 129)).drew.heap[w.heap.size]?=some (.cells L.toList.toArray 129 (0,0))):=Lib.hid (by rw [Array.toArray_toList];exact heap_alloc_new w _)
  have HAB:Hid (Below w.heap.size w (w.alloc (.cells L 129)).drew):=Lib.hid ((Below.refl _ w).alloc (Nat.le_refl _) _).drew
  have HSRC:=Lib.hid (cel_news (met_old HV.out HAB.out))
  have HFIT:Hid (i * 3+(celV x).length≤L.toList.length):=Lib.hid (by rw [HLS.out,celV_length];have h1:=HGE.out;have h2:=HI.out;omega)
  have HMIN:Hid ((celV x).length=Nat.min 1 (n+1 - i) * 3):=Lib.hid (by
    rw [celV_length]
    have h4:=HI.out
    have:Nat.min 1 (n+1 - i)=1:=(by show min _ _=_;omega);rw [this])
  have HONE:=Lib.hid (celV_one x)
  go_upto_region 9 with fail
  go_wp2_with (first | (at_builtin;(first | rw [HWM2.out] | rw [HWM.out]);refine Lib.wpList_append_run _ rfl (.tmp 34) (.tmp 39) 123 3 rfl _ _ rfl rfl _ _ (HR.out _) ?_) | (with_reducible (refine wpList_copyK rfl (.tmp 43) (.tmp 44) 123 123 rfl 129 3 Tryz.underlying123 szC w.heap.size (i * 3) (n+1 - i) (C - i) ⟨gv,0,none⟩ 1 1 rfl rfl L.toList 129 HA0.out (celV x) HMIN.out HSRC.out HFIT.out HONE.out ?_)))
  intro w2 hh2 hu2
  have HL2:Hid ((splice L.toList (i * 3) (celV x)).length=C * 3):=Lib.hid (by rw [length_splice _ _ _ HFIT.out,HLS.out])
  have hgw:g < w.heap.size:=(Array.getElem?_eq_some_iff.1 HG'.out).1
  have hg2:w2.heap[g]?=some (.cells (A++D).toArray 129 (0,0)):=(hu2.out.block g (Nat.lt_of_lt_of_le hgw HAB.out.size) (by omega)).trans (met_old HG'.out HAB.out)
  have HSRC2:Hid (∀ (k:Nat) (v:Value),D[k]?=some v→w2.drew.cell? ((⟨g,i * 3,none⟩:Addr).add k)=some v):=Lib.hid (fun k v hk=>by
    have e:((⟨g,i * 3,none⟩:Addr).add k)=⟨g,i * 3+k,none⟩:=by simp [Addr.add]
    rw [e]
    have h0:w2.drew.heap[g]?=some (.cells (A++D).toArray 129 (0,0)):=hg2
    simp only [World.cell?,h0]
    have:(A++D)[i * 3+k]?=some v:=by
      rw [List.getElem?_append_right (by rw [HAL.out];omega),HAL.out]
      simpa using hk
    simpa using this)
  have HMIN2:Hid (D.length=Nat.min (n - i) (n+1 - j) * 3):=Lib.hid (by
    rw [HDL.out]
    have h1:=HJ.out
    have:Nat.min (n - i) (n+1 - j)=n - i:=(by show min _ _=_;omega);rw [this])
  have HFIT2:Hid (j * 3+D.length≤(splice L.toList (i * 3) (celV x)).length):=Lib.hid (by rw [HL2.out,HDL.out];have h1:=HJ.out;have h2:=HGE.out;have h4:=HI.out;omega)
  have HH2:Hid (w2.drew.heap[w.heap.size]?=some (.cells (splice L.toList (i * 3) (celV x)).toArray 129 (0,0))):=Lib.hid hh2.out
  clear hgw hg2
  go_wp2
  go_region_law (refine step_copyK rfl (.tmp 50) (.tmp 53) 123 123 rfl 129 3 Tryz.underlying123 szC w.heap.size (j * 3) (n+1 - j) (C - j) ⟨g,i * 3,none⟩ (n - i) (n - i) (by simp [Act.eval,Act.put]) (by simp [Act.eval,Act.put]) (splice L.toList (i * 3) (celV x)) 129 (by exact HH2.out) D HMIN2.out HSRC2.out HFIT2.out hDone.out ?_;intro w3 hh3 hu3)
  go_wp2
  go_ret
  have hE:splice (splice L.toList (i * 3) (celV x)) (j * 3) D=A++(celV x++(D++L.toList.drop (j * 3+D.length))):=splice_ins2 HAL.out (by rw [celV_length];have:=HJ.out;omega) HLA.out (by rw [HLS.out,HDL.out];have h1:=HJ.out;have h2:=HGE.out;have h4:=HI.out;omega)
  have h9:=hh3.out
  rw [hE,HADX.out] at h9
  refine ⟨some ⟨w.heap.size,0,none⟩,C,rfl,own3_mk HB.out h9 ?_ ?_ HLE.out,?_,fun k hk=>?_⟩
  · unfold insC;rw [List.length_append,List.length_cons,List.length_take,List.length_drop,HL.out];have:=HI.out;omega
  · rw [List.length_drop,HLS.out,HDL.out];have h1:=HJ.out;have h2:=HGE.out;have h4:=HI.out;omega
  · have h1:Upd (fun k=>some k=(Value.slice (some ⟨g,0,none⟩) n n).ownBlock) w (w.alloc (.cells L 129)).drew:=Upd.of_below' HAB.out _
    have h2:Upd (fun k=>some k=(Value.slice (some ⟨g,0,none⟩) n n).ownBlock) w w2:=h1.trans' hu2.out (fun k hk e=>by omega)
    have h3:Upd (fun j=>j=w.heap.size) w2 w3:=⟨hu3.out.os,hu3.out.tape,hu3.out.output,hu3.out.size,hu3.out.block⟩
    exact h2.trans' h3 (fun k hk e=>by omega)
  · cases hk;exact .inr (Nat.le_refl _)
theorem insert_any (p:Option Addr) (n c i:Nat) (l:List Cel) (x:Cel) (gv base:Nat) (w:World) (ho:w.ownsRow base 129 3 (.slice p n c) n (l.flatMap celV)) (hv:w.heap[gv]?=some (.cells (celV x).toArray 129 (0,0))) (hne:(Value.slice p n c).ownBlock ≠ some gv) (hbase:base≤w.heap.size) (hn:n≤1000) (hi:i≤n) :
    Calls Tryz.prog 40 #[.slice p n c,.int .i64 i,.slice (some ⟨gv,0,none⟩) 1 1] w (InsQ base w (.slice p n c) n (insC l i x)):=by
  rcases Nat.eq_or_lt_of_le hi with rfl | hlt
  · have hcap:i≤c∧c≤maxLen:=by
      obtain ⟨-,⟨e,h0⟩ | ⟨g,cap,cur,e,-,-,h1,h2,-⟩⟩:=ho
      · cases e;exact ⟨Nat.le_refl _,Nat.zero_le _⟩
      · cases e;exact ⟨h1,h2⟩
    exact insert_end p i c l x gv base w ho hv hbase hn hcap.1 hcap.2
  · obtain ⟨g,cap,cur,e,hb,hg,hl,hcc,hc,hcm⟩:=own3 ho (by omega)
    cases e
    by_cases hroom:n+1≤c
    · exact insert_room g n c i l cur x gv base w hg hl hcc hcm hv (fun e=>hne (by rw [e];rfl)) hb hn hlt hroom
    · have hcn:c=n:=by omega
      subst hcn
      have:cur=[]:=List.eq_nil_of_length_eq_zero (by omega)
      subst this
      rw [List.append_nil] at hg
      exact insert_grow g c i l x gv base w hg hl hv hbase hn hlt
end Go.Proofs.YtheeomjfpnijbaaGreatDoor
end
section
namespace Go.Proofs.YtheeomjfpnijbaaGreatDoor
open Go.RowKit Go.Shelf
structure NdW (P:Nat) (d:Nd):Prop where
  page:1≤d.page∧d.page < P
  cells:∀ c∈d.cells,CelOk d.leaf c
  first:d.first < 65536
  size:nb d≤if d.leaf then 136 else 123
theorem CelOk.sz {b:Bool} {c:Cel} (h:CelOk b c):CelSz c:=⟨h.key.2,h.val,h.child⟩
theorem NdW.len {P:Nat} {d:Nd} (h:NdW P d):d.cells.length≤68:=by
  have h1:=cells_few h.cells
  have h2:=h.size
  unfold nb at h2
  split at h2 <;> omega
theorem half_szW {d:Nd} (hd:∀ c∈d.cells,CelOk d.leaf c) (h1:112 < d.load.length) (h2:nb d≤if d.leaf then 136 else 123) (p:Nat):1≤d.half∧d.half < d.cells.length∧d.left.load.length≤112∧(d.right p).load.length≤112:=by
  have hl:=load_nb d
  have hm:∀ c∈d.cells,(celB d.leaf c).length≤(if d.leaf then 26 else 15):=fun c hc=>(celB_sz (hd c hc)).1
  obtain ⟨a,b,x,y⟩:=halfL_spec d.leaf _ d.cells 0 hm (by omega) (by unfold nb at hl;split at hl <;> omega)
  have e1:nb d.left=((d.cells.take d.half).flatMap (celB d.leaf)).length:=rfl
  have hhalf:halfL d.leaf d.cells 0=d.half:=rfl
  rw [hhalf] at a b x y
  have hlt:d.half < d.cells.length:=by
    refine Nat.lt_of_le_of_ne b fun e=>?_
    rw [e,List.take_length] at y
    unfold nb at hl
    cases hc:d.leaf <;> rw [hc] at hl y <;> simp at hl y <;> omega
  have hs':=congrArg List.length (flatMap_at (celB d.leaf) hlt)
  simp only [List.length_append] at hs'
  have hck:=celB_sz (hd _ (List.getElem_mem hlt))
  have el:d.left.leaf=d.leaf:=rfl
  have l1:=load_nb d.left
  have l2:=load_nb (d.right p)
  rw [el] at l1
  cases hlf:d.leaf with
  | true =>
    have er:d.right p={ page:=p,leaf:=true,first:=0,cells:=d.cells.drop d.half }:=by unfold Nd.right;rw [hlf];rfl
    have e2:nb (d.right p)=((d.cells.drop d.half).flatMap (celB true)).length:=by rw [er];rfl
    have e3:((d.cells.drop d.half).flatMap (celB true)).length+nb d.left=nb d:=by
      rw [e1]
      unfold nb
      conv=>rhs;rw [← List.take_append_drop d.half d.cells,List.flatMap_append,List.length_append]
      rw [hlf,Nat.add_comm]
    rw [hlf] at h2 hl y x hck l1
    simp only [if_true] at h2 hl y hck l1
    rw [hlf] at e1
    rw [er,if_pos rfl,← er] at l2
    exact ⟨a,hlt,by omega,by omega⟩
  | false =>
    have er:d.right p={ page:=p,leaf:=false,first:=d.cells[d.half].child,cells:=d.cells.drop (d.half+1) }:=by
      unfold Nd.right
      rw [hlf]
      simp only [Bool.false_eq_true,if_false]
      rw [List.getElem?_eq_getElem hlt]
      rfl
    have e2:nb (d.right p)=((d.cells.drop (d.half+1)).flatMap (celB false)).length:=by rw [er];rfl
    rw [hlf] at h2 hl y x hck hs' e1 l1
    simp only [Bool.false_eq_true,if_false] at h2 hl y hck l1
    have e3:nb d=(d.cells.flatMap (celB false)).length:=by unfold nb;rw [hlf]
    rw [er] at l2
    simp only [Bool.false_eq_true,if_false] at l2
    rw [← er] at l2
    exact ⟨a,hlt,by omega,by omega⟩
theorem boxes9 {W:World} {N R U:Nat} {t1 t2 t3:TypeId} {a b c d e f x y z:Value} (h1:W.heap[N]?=some (.cells #[a,b] t1 (0,0))) (h2:W.heap[R]?=some (.cells #[c,d,e,f] t2 (0,0))) (h3:W.heap[U]?=some (.cells #[x,y,z] t3 (0,0))) :
    W.cell? ⟨N,0,none⟩=some a∧W.cell? ⟨N,1,none⟩=some b∧W.cell? ⟨R,0,none⟩=some c∧W.cell? ⟨R,1,none⟩=some d∧W.cell? ⟨R,2,none⟩=some e∧W.cell? ⟨R,3,none⟩=some f∧W.cell? ⟨U,0,none⟩=some x∧W.cell? ⟨U,1,none⟩=some y∧W.cell? ⟨U,2,none⟩=some z:=by
  simp [World.cell?,h1,h2,h3]
theorem three_cells {w:World} {X:Nat} {t:TypeId} {a b c:Value} (h:w.heap[X]?=some (.cells #[a,b,c] t (0,0))) :
    (w.cell? ⟨X,0,none⟩=some a∧w.cell? ⟨X,1,none⟩=some b∧w.cell? ⟨X,2,none⟩=some c)∧(w.frozen? ⟨X,0,none⟩=false∧w.frozen? ⟨X,1,none⟩=false∧w.frozen? ⟨X,2,none⟩=false)∧X < w.heap.size:=by
  refine ⟨⟨?_,?_,?_⟩,⟨frozenC h,frozenC h,frozenC h⟩,(Array.getElem?_eq_some_iff.1 h).1⟩ <;> simp [World.cell?,h]
theorem three_set {W:World} {X:Nat} {t:TypeId} {a b c a' b' c':Value} (h:W.heap[X]?=some (.cells #[a,b,c] t (0,0))) :
    (((W.setCell ⟨X,0,none⟩ a').setCell ⟨X,1,none⟩ b').setCell ⟨X,2,none⟩ c').heap[X]?=some (.cells #[a',b',c'] t (0,0)):=by
  have h1:=(heap_setCell_same W X 0 _ _ a' h).trans rfl
  have h2:=(heap_setCell_same _ X 1 _ _ b' h1).trans rfl
  exact (heap_setCell_same _ X 2 _ _ c' h2).trans rfl
theorem three_upd (W:World) (X:Nat) (a b c:Value):Upd (fun j=>j=X) W (((W.setCell ⟨X,0,none⟩ a).setCell ⟨X,1,none⟩ b).setCell ⟨X,2,none⟩ c) :=
  ((Upd.setC W X 0 a).tr (Upd.setC _ X 1 b)).tr (Upd.setC _ X 2 c)
theorem three_keep {W:World} {Y:Nat} {o:Obj} (X:Nat) (a b c:Value) (h:W.heap[Y]?=some o) (hne:¬ Y=X):(((W.setCell ⟨X,0,none⟩ a).setCell ⟨X,1,none⟩ b).setCell ⟨X,2,none⟩ c).heap[Y]?=some o :=
  ((three_upd W X a b c).block Y (Array.getElem?_eq_some_iff.1 h).1 hne).trans h
theorem alloc2_fst (w:World) (cs cs':Array Value) (t t':TypeId):((w.alloc (.cells cs t)).alloc (.cells cs' t')).drew.heap[w.heap.size]?=some (.cells cs t (0,0)):=alloc_at (heap_alloc_new w _)
theorem alloc2_snd (w:World) (cs cs':Array Value) (t t':TypeId):((w.alloc (.cells cs t)).alloc (.cells cs' t')).drew.heap[w.heap.size+1]?=some (.cells cs' t' (0,0)):=by
  have:=heap_alloc_new (w.alloc (.cells cs t)) (.cells cs' t')
  rw [World.size_alloc] at this
  exact this
theorem cels_drop {w:World} {g o:Nat} {l:List Cel} (h:CelsAt w (some ⟨g,o,none⟩) l) (k:Nat):CelsAt w (some ⟨g,o+k * 3,none⟩) (l.drop k):=by
  rcases Nat.lt_or_ge k l.length with hk | hk
  · intro hne
    obtain ⟨b,o',e,hc⟩:=h (fun e=>by
      have:=List.flatMap_eq_nil_iff.1 e l[k] (List.getElem_mem hk)
      simp [celV] at this)
    cases e
    refine ⟨g,o+k * 3,rfl,fun i v hv=>?_⟩
    have:(l.flatMap celV)[k * 3+i]?=some v:=by
      have e2:l.flatMap celV=(l.take k).flatMap celV++(l.drop k).flatMap celV:=by rw [← List.flatMap_append,List.take_append_drop]
      rw [e2,List.getElem?_append_right (by rw [flat_len celV 3 celV_length,List.length_take];omega),flat_len celV 3 celV_length,List.length_take,Nat.min_eq_left (by omega)]
      simpa using hv
    have:=hc _ v this
    rwa [← Nat.add_assoc] at this
  · intro hne
    rw [List.drop_of_length_le hk] at hne
    exact absurd rfl hne
theorem cels_take {w:World} {g o:Nat} {l:List Cel} (h:CelsAt w (some ⟨g,o,none⟩) l) (k:Nat):CelsAt w (some ⟨g,o,none⟩) (l.take k):=by
  intro hne
  have hl:l.flatMap celV ≠ []:=fun e=>hne (List.flatMap_eq_nil_iff.2 (fun x hx=>List.flatMap_eq_nil_iff.1 e x (List.mem_of_mem_take hx)))
  obtain ⟨b,o',e,hc⟩:=h hl
  cases e
  refine ⟨g,o,rfl,fun i v hv=>hc i v ?_⟩
  have e2:l.flatMap celV=(l.take k).flatMap celV++(l.drop k).flatMap celV:=by rw [← List.flatMap_append,List.take_append_drop]
  rw [e2,List.getElem?_append_left (List.getElem?_eq_some_iff.1 hv).1]
  exact hv
def celA' (c:Cel):Value:=.agg #[.string (bstr c.key),.string (bstr c.val),.int .i64 c.child]
set_option maxRecDepth 20000 in
set_option maxHeartbeats 8000000 in
theorem tpart_any {p:Par} {tx cap:Nat} {s:ASt} (d:Nd) (pg:Nat) (q:Option Addr) (c base:Nat) (w:World) (h:TM p tx cap w s) (ht:s.t≤600000) (hd:NdW p.pages d) (hl:112 < d.load.length) (hp:1≤pg∧pg < p.pages) (ho:w.ownsRow base 129 3 (.slice q d.cells.length c) d.cells.length (d.cells.flatMap celV)) :
    Calls Tryz.prog 90 #[treeV p tx,ndV d q c,.int .i64 pg] w fun e w'=>∃ (ux uy:ByteArray) (un:Nat) (c:Nat) (s':ASt),e=.returned (.tuple #[.agg #[.string ux,.string uy,.int .i64 un],.int .i64 c])∧(c=0→Value.agg #[.string ux,.string uy,.int .i64 un]=celA' (d.up pg))∧PartR cap (pst s) d pg c (pst s')∧TM p tx cap w' s'∧s'.t≤s.t+20∧Step p s.N w s'.N w':=by
  have H:=Lib.hid h
  have HT:=Lib.hid ht
  have HD:=Lib.hid hd
  have HP:=Lib.hid hp
  have HO:=Lib.hid ho
  have HP40:=Lib.hid h.pages
  obtain ⟨s1,s2,s3,s4⟩:=half_szW hd.cells hl hd.size pg
  have hlen:=hd.len
  obtain ⟨Ld,hLd⟩:∃ L,L=d.cells.length:=⟨_,rfl⟩
  have hndv:ndV d q c=.agg #[.int .i64 d.page,.bool d.leaf,.int .i64 d.first,.slice q Ld c]:=by rw [hLd];rfl
  rw [hndv]
  obtain ⟨g,cp,cur,eq,-,hg,hln,hcc,hlc,hcm⟩:=own3 ho (by omega)
  cases eq
  have HGT:=Lib.hid hg
  obtain ⟨K,hK⟩:∃ K,K=d.half:=⟨_,rfl⟩
  have hca:=own_cells ho
  obtain ⟨b0,o0,eb,e0,e1,e2⟩:=hca.cell s2
  cases eb
  obtain ⟨ck,hck⟩:∃ x,x=d.cells[d.half]:=⟨_,rfl⟩
  rw [← hck,← hK,Nat.zero_add] at e0 e2
  have HCK:Hid (d.up pg=⟨ck.key,[],pg⟩∧d.cells[d.half]?=some ck):=Lib.hid ⟨by unfold Nd.up;rw [List.getElem?_eq_getElem s2,← hck];rfl,by rw [hck];exact List.getElem?_eq_getElem s2⟩
  obtain ⟨ckk,hckk⟩:∃ x,x=bstr ck.key:=⟨_,rfl⟩
  obtain ⟨ckc,hckc⟩:∃ x,x=ck.child:=⟨_,rfl⟩
  rw [← hckk] at e0
  rw [← hckc] at e2
  have HND:=Lib.hid hndv
  have HLN:=Lib.hid hLd
  have HKE:=Lib.hid hK
  have HS:=Lib.hid (And.intro s1 (And.intro s2 (And.intro s3 (And.intro s4 hlen))))
  have HCC:=Lib.hid (And.intro hcc (And.intro hlc hcm))
  have HKC:=Lib.hid (And.intro hckk hckc)
  have HE0:=Lib.hid e0
  have HE2:=Lib.hid e2
  have HCA:=Lib.hid hca
  have HL112:=Lib.hid hl
  obtain ⟨lf,hlf⟩:∃ b,b=d.leaf:=⟨_,rfl⟩
  rw [← hlf]
  have HLF:=Lib.hid hlf
  unfold treeV
  clear h ht hd hp ho s1 s2 s3 s4 hlen hLd hndv hg hln hcc hlc hcm hK hca hck hckk hckc e0 e1 e2 hl hlf
  go_enter Tryz.func90,Tryz.ntmps90
  go_upto_region 1 with fail
  obtain ⟨N,hN⟩:∃ N,N=w.heap.size:=⟨_,rfl⟩
  rw [← hN]
  obtain ⟨W1,hW1⟩:∃ W1,W1=((w.alloc (.cells #[.pointer (some ⟨p.bg,0,none⟩),.int .i64 tx] 117)).alloc (.cells #[.int .i64 d.page,.bool lf,.int .i64 d.first,.slice (some ⟨g,0,none⟩) Ld c] 125)).alloc (.cells #[.string ⟨#[]⟩,.string ⟨#[]⟩,.int .i64 0] 129):=⟨_,rfl⟩
  have n0:W1.heap[N]?=some (.cells #[.pointer (some ⟨p.bg,0,none⟩),.int .i64 tx] 117 (0,0)):=by rw [hW1,hN];exact alloc_at (alloc_at (heap_alloc_new w _))
  have n1:W1.heap[N+1]?=some (.cells #[.int .i64 d.page,.bool lf,.int .i64 d.first,.slice (some ⟨g,0,none⟩) Ld c] 125 (0,0)):=by
    rw [hW1,hN]
    have:=heap_alloc_new (w.alloc (.cells #[.pointer (some ⟨p.bg,0,none⟩),.int .i64 tx] 117)) (.cells #[.int .i64 d.page,.bool lf,.int .i64 d.first,.slice (some ⟨g,0,none⟩) Ld c] 125)
    rw [World.size_alloc] at this
    exact alloc_at this
  have n2:W1.heap[N+2]?=some (.cells #[.string ⟨#[]⟩,.string ⟨#[]⟩,.int .i64 0] 129 (0,0)):=by
    rw [hW1,hN]
    have:=heap_alloc_new ((w.alloc (.cells #[.pointer (some ⟨p.bg,0,none⟩),.int .i64 tx] 117)).alloc (.cells #[.int .i64 d.page,.bool lf,.int .i64 d.first,.slice (some ⟨g,0,none⟩) Ld c] 125)) (.cells #[.string ⟨#[]⟩,.string ⟨#[]⟩,.int .i64 0] 129)
    rw [World.size_alloc,World.size_alloc] at this
    exact this
  have HB1:Hid (Below w.heap.size w W1):=Lib.hid (by rw [hW1];exact (((Below.refl _ w).alloc (Nat.le_refl _) _).alloc (by simp) _).alloc (by simp;omega) _)
  have hz1:W1.heap.size=N+3:=by rw [hW1,hN];simp
  rw [← hW1]
  have HNW:=Lib.hid hN
  have N0:=Lib.hid n0
  have N1:=Lib.hid n1
  have N2:=Lib.hid n2
  have HZ1:=Lib.hid hz1
  obtain ⟨⟨a0,a1,a2,a3⟩,-,hNl1⟩:=four_cells n1
  clear hW1 hN n0 n1 n2 hz1
  go_wp2_with fail
  rw [show Value.agg #[.int .i64 d.page,.bool lf,.int .i64 d.first,.slice (some ⟨g,0,none⟩) Ld c]=ndV d (some ⟨g,0,none⟩) c from by rw [HND.out,HLF.out]]
  refine (half_any d (some ⟨g,0,none⟩) c W1 (by have:=HS.out.2.2.2.2;omega) (fun x hx=>(HD.out.cells x hx).sz) (HCA.out.below HB1.out)).mono ?_
  rintro e w2 ⟨rfl,hb2⟩
  rw [← HKE.out,show ndV d (some ⟨g,0,none⟩) c=Value.agg #[.int .i64 d.page,.bool lf,.int .i64 d.first,.slice (some ⟨g,0,none⟩) Ld c] from by rw [HND.out,HLF.out]]
  have M0:=Lib.hid (met_old N0.out hb2)
  have M1:=Lib.hid (met_old N1.out hb2)
  have M2:=Lib.hid (met_old N2.out hb2)
  have HB2:=Lib.hid (chainC HB1.out hb2)
  have HM2:=Lib.hid (H.out.below HB2.out)
  have HZ2:Hid (N+3≤w2.heap.size):=Lib.hid (by rw [← HZ1.out];exact hb2.size)
  clear hb2 a0 a1 a2 a3 hNl1
  obtain ⟨⟨a0,a1,a2,a3⟩,⟨f0,f1,f2,f3⟩,hNl1⟩:=four_cells M1.out
  have hKL:K < Ld:=by rw [HKE.out,HLN.out];exact HS.out.2.1
  have hKc:(K:Int)≤(Ld:Int):=by omega
  have hKc':(K:Int)≤(c:Int):=by have:=HCC.out.2.1;rw [← HLN.out] at this;omega
  have hLc:(Ld:Int)≤(c:Int):=by have:=HCC.out.2.1;rw [← HLN.out] at this;omega
  have hcK:(c=K)=False:=eq_false (by have:=HCC.out.2.1;rw [← HLN.out] at this;omega)
  have HBZ:Hid (∀ o o',Below w2.heap.size w2 ((w2.alloc o).alloc o').drew):=Lib.hid (fun o o'=>(((Below.refl _ w2).alloc (Nat.le_refl _) _).alloc (by simp) _).drew)
  go_upto_region 2 with fail
  go_cut [9,10] (fun u v wx=>∃ BL BR:Nat,u=.pointer (some ⟨BL,0,none⟩)∧v=.pointer (some ⟨BR,0,none⟩)∧BL ≠ BR∧w2.heap.size≤BL∧w2.heap.size≤BR∧Hid (wx.heap[BL]?=some (.cells #[.int .i64 d.page,.bool lf,.int .i64 d.first,.slice (some ⟨g,0,none⟩) Ld c] 125 (0,0))) ∧
      Hid (wx.heap[BR]?=some (.cells #[.int .i64 pg,.bool lf,.int .i64 0,.slice (some ⟨g,K * 3,none⟩) (Ld - K) (c - K)] 125 (0,0)))∧Hid (Below w2.heap.size w2 wx))
  case first =>
    have y0:∀ o o',((w2.alloc o).alloc o').drew.cell? ⟨N+1,0,none⟩=some (.int .i64 d.page):=fun o o'=>keepC (HBZ.out o o') a0
    have y1:∀ o o',((w2.alloc o).alloc o').drew.cell? ⟨N+1,1,none⟩=some (.bool lf):=fun o o'=>keepC (HBZ.out o o') a1
    have y2:∀ o o',((w2.alloc o).alloc o').drew.cell? ⟨N+1,2,none⟩=some (.int .i64 d.first):=fun o o'=>keepC (HBZ.out o o') a2
    have y3:∀ o o',((w2.alloc o).alloc o').drew.cell? ⟨N+1,3,none⟩=some (.slice (some ⟨g,0,none⟩) Ld c):=fun o o'=>keepC (HBZ.out o o') a3
    go_region
    all_goals go_wp2
    all_goals go_meet
    all_goals first
      | exact ⟨w2.heap.size,w2.heap.size+1,rfl,rfl,by omega,Nat.le_refl _,by omega,Lib.hid (alloc2_fst w2 _ _ _ _),Lib.hid (alloc2_snd w2 _ _ _ _),Lib.hid (HBZ.out _ _)⟩
      | exact ⟨w2.heap.size+1,w2.heap.size,rfl,rfl,by omega,by omega,Nat.le_refl _,Lib.hid (alloc2_snd w2 _ _ _ _),Lib.hid (alloc2_fst w2 _ _ _ _),Lib.hid (HBZ.out _ _)⟩
  case rest =>
    obtain ⟨BL,BR,rfl,rfl,hne,hbl,hbr,HLB,HRB,HBC⟩:=hcut
    have HBB:=Lib.hid (And.intro hne (And.intro hbl hbr))
    have C0:=Lib.hid (met_old M0.out HBC.out)
    have C1:=Lib.hid (met_old M1.out HBC.out)
    have C2:=Lib.hid (met_old M2.out HBC.out)
    have HBWC:=Lib.hid (chainC HB2.out HBC.out)
    have e0:=keepC HBWC.out HE0.out
    have e2:=keepC HBWC.out HE2.out
    clear a0 a1 a2 a3 f0 f1 f2 f3 hNl1
    obtain ⟨⟨a0,a1,a2,a3⟩,-,hNl1⟩:=four_cells C1.out
    obtain ⟨-,⟨f0,f1,f2,f3⟩,hBLl⟩:=four_cells HLB.out
    have l3:wc.cell? ⟨BL,3,none⟩=some (.slice (some ⟨g,0,none⟩) Ld c):=by simp [World.cell?,HLB.out]
    have hNB:¬ N+1=BL:=by have:=HZ2.out;omega
    have hgB:¬ g=BL:=fun e=>by
      have h1:Typed wc g 125:=⟨_,by rw [e];exact HLB.out⟩
      have h2:=cell_lt HE0.out
      have h3:=HB2.out.size
      have h4:g < w.heap.size:=h2
      omega
    have hgl:g < wc.heap.size:=cell_lt e0
    go_upto_region 4 with fail
    obtain ⟨W3,hW3⟩:∃ W,W=wc.setCell ⟨BL,3,none⟩ (.slice (some ⟨g,0,none⟩) K c):=⟨_,rfl⟩
    rw [← hW3]
    have u3:Upd (fun j=>j=BL) wc W3:=by rw [hW3];exact Upd.setC wc BL 3 _
    have L3:Hid (W3.heap[BL]?=some (.cells #[.int .i64 d.page,.bool lf,.int .i64 d.first,.slice (some ⟨g,0,none⟩) K c] 125 (0,0))):=Lib.hid (by rw [hW3];exact (heap_setCell_same wc BL 3 _ _ _ HLB.out).trans rfl)
    have R3:Hid (W3.heap[BR]?=some (.cells #[.int .i64 pg,.bool lf,.int .i64 0,.slice (some ⟨g,K * 3,none⟩) (Ld - K) (c - K)] 125 (0,0))):=Lib.hid ((u3.block BR (Array.getElem?_eq_some_iff.1 HRB.out).1 (fun e=>HBB.out.1 e.symm)).trans HRB.out)
    have T3:Hid (W3.heap[N]?=some (.cells #[.pointer (some ⟨p.bg,0,none⟩),.int .i64 tx] 117 (0,0))):=Lib.hid ((u3.block N (Array.getElem?_eq_some_iff.1 C0.out).1 (by have h1:=HZ2.out;have h2:=HBB.out.2.1;omega)).trans C0.out)
    have D3:Hid (W3.heap[N+1]?=some (.cells #[.int .i64 d.page,.bool lf,.int .i64 d.first,.slice (some ⟨g,0,none⟩) Ld c] 125 (0,0))):=Lib.hid ((u3.block (N+1) (Array.getElem?_eq_some_iff.1 C1.out).1 (by have h1:=HZ2.out;have h2:=HBB.out.2.1;omega)).trans C1.out)
    have S3:Hid (W3.heap[N+2]?=some (.cells #[.string ⟨#[]⟩,.string ⟨#[]⟩,.int .i64 0] 129 (0,0))):=Lib.hid ((u3.block (N+2) (Array.getElem?_eq_some_iff.1 C2.out).1 (by have h1:=HZ2.out;have h2:=HBB.out.2.1;omega)).trans C2.out)
    have HB3:Hid (Below w.heap.size w W3):=Lib.hid (by rw [hW3];exact HBWC.out.setCell (p:=⟨BL,3,none⟩) (by have h2:=HBB.out.2.1;have:=HB2.out.size;show w.heap.size≤BL;omega) _)
    have x0:=keepC HB3.out HE0.out
    have x2:=keepC HB3.out HE2.out
    clear hW3 u3 e0 e2 a0 a1 a2 a3 f0 f1 f2 f3 hNl1 hBLl l3 hgl hNB hgB hne hbl hbr
    obtain ⟨⟨a0,a1,a2,a3⟩,-,hNl1⟩:=four_cells D3.out
    have hgl:g < W3.heap.size:=cell_lt x0
    have hKLi:(K:Int) < (Ld:Int):=by omega
    go_upto_region 5 with fail
    obtain ⟨U,hU⟩:∃ U,U=W3.heap.size:=⟨_,rfl⟩
    obtain ⟨W4,hW4⟩:∃ W,W=W3.alloc (.cells #[.string ckk,.string ⟨#[]⟩,.int .i64 pg] 129):=⟨_,rfl⟩
    have u4:W4.heap[U]?=some (.cells #[.string ckk,.string ⟨#[]⟩,.int .i64 pg] 129 (0,0)):=by rw [hW4,hU];exact heap_alloc_new W3 _
    have HB4:Hid (Below W3.heap.size W3 W4):=Lib.hid (by rw [hW4];exact (Below.refl _ W3).alloc (Nat.le_refl _) _)
    rw [← hW4,← hU]
    have U4:=Lib.hid u4
    have L4:=Lib.hid (met_old L3.out HB4.out)
    have R4:=Lib.hid (met_old R3.out HB4.out)
    have T4:=Lib.hid (met_old T3.out HB4.out)
    have D4:=Lib.hid (met_old D3.out HB4.out)
    have S4:Hid (W4.heap[N+1+1]?=some (.cells #[.string ⟨#[]⟩,.string ⟨#[]⟩,.int .i64 0] 129 (0,0))):=Lib.hid (met_old S3.out HB4.out)
    have HBW4:=Lib.hid (chainC HB3.out HB4.out)
    have x0':=keepC HB4.out x0
    have x2':=keepC HB4.out x2
    have HUN:Hid (¬ U=BR∧¬ U=BL∧¬ U=N∧¬ U=N+1+1∧¬ BR=N∧¬ BR=N+1+1):=Lib.hid (by
      have h1:=(Array.getElem?_eq_some_iff.1 R3.out).1
      have h2:=(Array.getElem?_eq_some_iff.1 L3.out).1
      have h3:=(Array.getElem?_eq_some_iff.1 S3.out).1
      have h4:=HZ2.out
      have h5:=HBB.out.2.2
      omega)
    clear hW4 hU u4 a0 a1 a2 a3 hNl1 hgl x0 x2
    obtain ⟨⟨a0,a1,a2,a3⟩,-,hNl1⟩:=four_cells D4.out
    obtain ⟨⟨r0,r1,r2,r3⟩,⟨f0,f1,f2,f3⟩,hRl⟩:=four_cells R4.out
    go_upto_if 39 with fail
    go_cut [] (fun wx=>∃ qR nR cR,Hid (nR=(d.right pg).cells.length∧Upd (fun j=>j=BR) W4 wx∧wx.heap[BR]?=some (.cells #[.int .i64 pg,.bool lf,.int .i64 (d.right pg).first,.slice qR nR cR] 125 (0,0))∧CelsAt w qR (d.right pg).cells∧∃ oR,qR=some ⟨g,oR,none⟩))
    case first =>
      have hgl:g < W4.heap.size:=cell_lt x0'
      cases lf
      · have hr:d.right pg={ page:=pg,leaf:=false,first:=ck.child,cells:=d.cells.drop (d.half+1) }:=by
          unfold Nd.right
          rw [← HLF.out]
          simp only [Bool.false_eq_true,if_false]
          rw [HCK.out.2]
          rfl
        have HRT:=Lib.hid hr
        have hNBR:¬ N+1=BR:=by have h4:=HZ2.out;have h5:=HBB.out.2.2;omega
        have hK1:(K:Int)+1≤(Ld:Int):=by omega
        have hK1w:IntKind.i64.wrap ((K:Int)+1)=(K:Int)+1:=by rw [IntKind.wrap_i64];have:=HS.out.2.2.2.2;rw [← HLN.out] at this;omega
        clear hr
        by_cases hc1:c=K+1
        · have hc1:c=K+1:=hc1
          go_wp2
          go_meet
          obtain ⟨E1,hE1⟩:∃ E,E=(W4.setCell ⟨BR,2,none⟩ (.int .i64 ckc)).setCell ⟨BR,3,none⟩ (.slice (some ⟨g,0,none⟩) (Ld - (K+1)) 0):=⟨_,rfl⟩
          refine ⟨some ⟨g,0,none⟩,Ld - (K+1),0,Lib.hid ⟨?_,(Upd.setC W4 BR 2 _).tr (Upd.setC _ BR 3 _),?_,?_,_,rfl⟩⟩
          · rw [HRT.out];show _=(d.cells.drop (d.half+1)).length;rw [List.length_drop,HLN.out,HKE.out]
          · rw [HRT.out]
            have h1:=(heap_setCell_same W4 BR 2 _ _ (.int .i64 ckc) R4.out).trans rfl
            exact (heap_setCell_same _ BR 3 _ _ _ h1).trans (by rw [HKC.out.2];rfl)
          · rw [HRT.out]
            show CelsAt w _ (d.cells.drop (d.half+1))
            have h0:d.cells.drop (d.half+1)=[]:=List.drop_of_length_le (by rw [← HKE.out,← HLN.out];have:=HCC.out.2.1;rw [← HLN.out] at this;omega)
            rw [h0]
            intro h;exact absurd rfl h
        · have hc1':(c=K+1)=False:=eq_false hc1
          go_wp2
          go_meet
          obtain ⟨E1,hE1⟩:∃ E,E=(W4.setCell ⟨BR,2,none⟩ (.int .i64 ckc)).setCell ⟨BR,3,none⟩ (.slice (some ⟨g,(K+1) * 3,none⟩) (Ld - (K+1)) (c - (K+1))):=⟨_,rfl⟩
          refine ⟨some ⟨g,(K+1) * 3,none⟩,Ld - (K+1),c - (K+1),Lib.hid ⟨?_,(Upd.setC W4 BR 2 _).tr (Upd.setC _ BR 3 _),?_,?_,_,rfl⟩⟩
          · rw [HRT.out];show _=(d.cells.drop (d.half+1)).length;rw [List.length_drop,HLN.out,HKE.out]
          · rw [HRT.out]
            have h1:=(heap_setCell_same W4 BR 2 _ _ (.int .i64 ckc) R4.out).trans rfl
            exact (heap_setCell_same _ BR 3 _ _ _ h1).trans (by rw [HKC.out.2];rfl)
          · rw [HRT.out]
            have:=cels_drop HCA.out (d.half+1)
            rw [Nat.zero_add,← HKE.out] at this
            rw [← HKE.out]
            exact this
      · have hr:d.right pg={ page:=pg,leaf:=true,first:=0,cells:=d.cells.drop d.half }:=by unfold Nd.right;rw [← HLF.out];rfl
        have HRT:=Lib.hid hr
        clear hr
        go_wp2
        go_meet
        refine ⟨some ⟨g,K * 3,none⟩,Ld - K,c - K,Lib.hid ⟨?_,⟨rfl,rfl,rfl,Nat.le_refl _,fun _ _ _=>rfl⟩,?_,?_,_,rfl⟩⟩
        · rw [HRT.out];show _=(d.cells.drop d.half).length;rw [List.length_drop,HLN.out,HKE.out]
        · rw [HRT.out];exact R4.out
        · rw [HRT.out,HKE.out]
          have:=cels_drop HCA.out d.half
          rwa [Nat.zero_add] at this
    case rest =>
      obtain ⟨qR,nR,cR,HRR⟩:=hcut
      clear a0 a1 a2 a3 hNl1 r0 r1 r2 r3 f0 f1 f2 f3 hRl x0' x2'
      have u5:=HRR.out.2.1
      have hk:∀ j,j < W4.heap.size→¬ j=BR→wc.heap[j]?=W4.heap[j]?:=fun j h1 h2=>u5.block j h1 h2
      have U5:Hid (wc.heap[U]?=some (.cells #[.string ckk,.string ⟨#[]⟩,.int .i64 pg] 129 (0,0))):=Lib.hid ((hk U (Array.getElem?_eq_some_iff.1 U4.out).1 HUN.out.1).trans U4.out)
      have L5:Hid (wc.heap[BL]?=some (.cells #[.int .i64 d.page,.bool lf,.int .i64 d.first,.slice (some ⟨g,0,none⟩) K c] 125 (0,0))):=Lib.hid ((hk BL (Array.getElem?_eq_some_iff.1 L4.out).1 HBB.out.1).trans L4.out)
      have T5:Hid (wc.heap[N]?=some (.cells #[.pointer (some ⟨p.bg,0,none⟩),.int .i64 tx] 117 (0,0))):=Lib.hid ((hk N (Array.getElem?_eq_some_iff.1 T4.out).1 (by have:=HUN.out;omega)).trans T4.out)
      have S5:Hid (wc.heap[N+1+1]?=some (.cells #[.string ⟨#[]⟩,.string ⟨#[]⟩,.int .i64 0] 129 (0,0))):=Lib.hid ((hk (N+1+1) (Array.getElem?_eq_some_iff.1 S4.out).1 (by have:=HUN.out;omega)).trans S4.out)
      have HBW5:Hid (Below w.heap.size w wc):=Lib.hid (HBW4.out.trans (u5.below (B:=w.heap.size) (by have:=HBW4.out.size;exact this) (fun k hk=>by have h1:=HBB.out.2.2;have h2:=HB2.out.size;omega)))
      have HM5:=Lib.hid (H.out.below HBW5.out)
      have HCL:Hid (∀ W,Below w.heap.size w W→CelsAt W (some ⟨g,0,none⟩) d.left.cells):=Lib.hid (fun W hW=>(cels_take HCA.out d.half).below hW)
      have HCR:Hid (∀ W,Below w.heap.size w W→CelsAt W qR (d.right pg).cells):=Lib.hid (fun W hW=>HRR.out.2.2.2.1.below hW)
      clear hk u5
      have HNL:Hid (ndV d.left (some ⟨g,0,none⟩) c=.agg #[.int .i64 d.page,.bool lf,.int .i64 d.first,.slice (some ⟨g,0,none⟩) K c]):=Lib.hid (by
        have:d.left.cells.length=K:=by show (d.cells.take d.half).length=K;rw [List.length_take,HKE.out];have:=HS.out.2.1;omega
        unfold ndV
        rw [this,HLF.out]
        rfl)
      have HNR:Hid (ndV (d.right pg) qR cR=.agg #[.int .i64 pg,.bool lf,.int .i64 (d.right pg).first,.slice qR nR cR]):=Lib.hid (by
        unfold ndV
        rw [← HRR.out.1,HLF.out]
        have h1:(d.right pg).page=pg:=by unfold Nd.right;split <;> rfl
        have h2:(d.right pg).leaf=d.leaf:=by unfold Nd.right;split <;> simp [*]
        rw [h1,h2])
      obtain ⟨LL,hLL⟩:∃ n,n=d.left.load.length:=⟨_,rfl⟩
      obtain ⟨LR,hLR⟩:∃ n,n=(d.right pg).load.length:=⟨_,rfl⟩
      have LA:Hid (∀ W,Below w.heap.size w W→Calls Tryz.prog 46 #[.agg #[.int .i64 d.page,.bool lf,.int .i64 d.first,.slice (some ⟨g,0,none⟩) K c]] W fun e w'=>∃ v,e=.returned v∧w'.ownsRow W.heap.size 5 1 v LL (B8s d.left.load)∧Below W.heap.size W w'):=Lib.hid (fun W hW=>by
        rw [← HNL.out,hLL]
        exact load_any d.left _ c W (by show (d.cells.take d.half).length≤200;rw [List.length_take];have:=HS.out.2.2.2.2;omega) (fun x hx=>(HD.out.cells x (List.mem_of_mem_take hx)).sz) HD.out.first (HCL.out W hW))
      have hrc:∀ x∈(d.right pg).cells,x∈d.cells:=fun x hx=>by unfold Nd.right at hx;split at hx <;> exact List.mem_of_mem_drop hx
      have RA:Hid (∀ W,CelsAt W qR (d.right pg).cells→Calls Tryz.prog 46 #[.agg #[.int .i64 pg,.bool lf,.int .i64 (d.right pg).first,.slice qR nR cR]] W fun e w'=>∃ v,e=.returned v∧w'.ownsRow W.heap.size 5 1 v LR (B8s (d.right pg).load)∧Below W.heap.size W w'):=Lib.hid (fun W hW=>by
        rw [← HNR.out,hLR]
        refine load_any (d.right pg) _ cR W ?_ (fun x hx=>(HD.out.cells x (hrc x hx)).sz) ?_ hW
        · unfold Nd.right;split <;> simp only [List.length_drop] <;> have:=HS.out.2.2.2.2 <;> omega
        · unfold Nd.right
          split
          · show 0 < 65536;decide
          · show (d.cells[d.half]?.getD ⟨[],[],0⟩).child < 65536
            rw [HCK.out.2]
            exact (HD.out.cells ck (List.mem_of_getElem? HCK.out.2)).child)
      have HLL:=Lib.hid hLL
      have HLR:=Lib.hid hLR
      have S0:=Lib.hid (boxes8 T5.out L5.out)
      have HT0:Hid (Below wc.heap.size wc wc.drew):=Lib.hid (below_drewN' wc 1)
      have HW0:=Lib.hid (chainC HBW5.out HT0.out)
      clear hLL hLR hrc
      go_wp2_with fail
      go_region_held3 (fun w'=>w'.cell? ⟨N,0,none⟩=some (.pointer (some ⟨p.bg,0,none⟩))∧w'.cell? ⟨N,1,none⟩=some (.int .i64 tx)∧w'.cell? ⟨BL,0,none⟩=some (.int .i64 d.page)∧w'.cell? ⟨BL,1,none⟩=some (.bool lf)∧w'.cell? ⟨BL,2,none⟩=some (.int .i64 d.first)∧w'.cell? ⟨BL,3,none⟩=some (.slice (some ⟨g,0,none⟩) K c))
        (first | exact S0.out | exact S1.out | exact S2.out)
        (first
          | (go_at_call 46;(with_reducible refine (LA.out _ ?_).mono ?_);(first | exact HW0.out);rintro e w6 ⟨v6,rfl,ho6,hb6⟩;obtain ⟨q6,c6,rfl,-⟩:=own_slice ho6;have HR6:=Lib.hid (own_rdv ho6);have HB6:Hid (Below wc.heap.size wc w6):=Lib.hid (chainC HT0.out hb6);have HM6:=Lib.hid (HM5.out.below HB6.out);have S1:=Lib.hid (boxes8 (met_old T5.out HB6.out) (met_old L5.out HB6.out));clear ho6 hb6)
          | (go_at_call 45;refine (twrite_any d.page LL c6 q6 d.left.load _ HM6.out HD.out.page.2 (by have:=HT.out;omega) HLL.out.symm (by rw [HLL.out];exact HS.out.2.2.1) HR6.out).mono ?_;rintro e w7 ⟨c7,s7,rfl,hw7,hm7,ht7,hs7⟩;have HW7:=Lib.hid hw7;have HM7:=Lib.hid hm7;have HT7:=Lib.hid ht7;have HS7:=Lib.hid hs7;have S2:=Lib.hid (boxes8 (HM6.out.keep hs7 (met_old T5.out HB6.out) (by decide)) (HM6.out.keep hs7 (met_old L5.out HB6.out) (by decide)));clear hw7 hm7 ht7 hs7))
      have T7:=Lib.hid (HM6.out.keep HS7.out (met_old T5.out HB6.out) (by decide))
      have R7:=Lib.hid (HM6.out.keep HS7.out (met_old HRR.out.2.2.1 HB6.out) (by decide))
      have U7:=Lib.hid (HM6.out.keep HS7.out (met_old U5.out HB6.out) (by decide))
      have Z7:=Lib.hid (HM6.out.keep HS7.out (met_old S5.out HB6.out) (by decide))
      have HST7:Hid (Step p s.N w s7.N w7):=Lib.hid ((Step.of_below (HBW5.out.trans (HB6.out.mono HBW5.out.size))).trans HS7.out)
      by_cases h0:c7=0
      · subst h0
        have C7:=Lib.hid (boxes9 T7.out R7.out U7.out)
        obtain ⟨⟨z0,z1,z2⟩,⟨y0,y1,y2⟩,hZl⟩:=three_cells Z7.out
        have HT7':Hid (Below w7.heap.size w7 w7.drew):=Lib.hid (below_drewN' w7 1)
        have HC7:Hid (CelsAt w7 qR (d.right pg).cells):=Lib.hid (Cells.upd (HCR.out w6 (HBW5.out.trans (HB6.out.mono HBW5.out.size))) HS7.out.upd (fun b o sx e hS=>by
          obtain ⟨oR,e2⟩:=HRR.out.2.2.2.2
          rw [e2] at e
          cases e
          exact HM6.out.mr.free (by decide) ⟨_,met_old (met_old HGT.out HBW5.out) HB6.out⟩ hS))
        go_wp2_with fail
        go_region_held3 (fun w'=>w'.cell? ⟨N,0,none⟩=some (.pointer (some ⟨p.bg,0,none⟩))∧w'.cell? ⟨N,1,none⟩=some (.int .i64 tx)∧w'.cell? ⟨BR,0,none⟩=some (.int .i64 pg)∧w'.cell? ⟨BR,1,none⟩=some (.bool lf)∧w'.cell? ⟨BR,2,none⟩=some (.int .i64 (d.right pg).first)∧w'.cell? ⟨BR,3,none⟩=some (.slice qR nR cR)∧w'.cell? ⟨U,0,none⟩=some (.string ckk)∧w'.cell? ⟨U,1,none⟩=some (.string ⟨#[]⟩)∧w'.cell? ⟨U,2,none⟩=some (.int .i64 pg))
          (first | exact C7.out | exact C8.out | exact C9.out | exact C10.out)
          (first
            | (go_at_call 46;(with_reducible refine (RA.out _ ?_).mono ?_);(first | exact HC7.out.below HT7'.out);rintro e w8 ⟨v8,rfl,ho8,hb8⟩;obtain ⟨q8,c8,rfl,-⟩:=own_slice ho8;have HR8:=Lib.hid (own_rdv ho8);have HB8:Hid (Below w7.heap.size w7 w8):=Lib.hid (chainC HT7'.out hb8);have HM8:=Lib.hid (HM7.out.below HB8.out);have C8:=Lib.hid (boxes9 (met_old T7.out HB8.out) (met_old R7.out HB8.out) (met_old U7.out HB8.out));clear ho8 hb8)
            | (go_at_call 45;refine (twrite_any pg LR c8 q8 (d.right pg).load _ HM8.out HP.out.2 (by have:=HT.out;have:=HT7.out;omega) HLR.out.symm (by rw [HLR.out];exact HS.out.2.2.2.1) HR8.out).mono ?_;rintro e w9 ⟨c9,s9,rfl,hw9,hm9,ht9,hs9⟩;have HW9:=Lib.hid hw9;have HM9:=Lib.hid hm9;have HT9:=Lib.hid ht9;have HS9:=Lib.hid hs9;have C9:=Lib.hid (boxes9 (HM8.out.keep hs9 (met_old T7.out HB8.out) (by decide)) (HM8.out.keep hs9 (met_old R7.out HB8.out) (by decide)) (HM8.out.keep hs9 (met_old U7.out HB8.out) (by decide)));have C10:=Lib.hid (boxes9 (three_keep (N+1+1) (.string ckk) (.string ⟨#[]⟩) (.int .i64 pg) (HM8.out.keep hs9 (met_old T7.out HB8.out) (by decide)) (by omega)) (three_keep (N+1+1) (.string ckk) (.string ⟨#[]⟩) (.int .i64 pg) (HM8.out.keep hs9 (met_old R7.out HB8.out) (by decide)) HUN.out.2.2.2.2.2) (three_keep (N+1+1) (.string ckk) (.string ⟨#[]⟩) (.int .i64 pg) (HM8.out.keep hs9 (met_old U7.out HB8.out) (by decide)) HUN.out.2.2.2.1));have Z9:=Lib.hid (HM8.out.keep hs9 (met_old Z7.out HB8.out) (by decide));obtain ⟨⟨zz0,zz1,zz2⟩,⟨yy0,yy1,yy2⟩,hZl9⟩:=three_cells Z9.out;clear hw9 hm9 ht9 hs9))
        go_wp2
        have hx9:=three_set (a':=.string ckk) (b':=.string ⟨#[]⟩) (c':=.int .i64 pg) Z9.out
        have hu9:=three_upd w9 (N+1+1) (.string ckk) (.string ⟨#[]⟩) (.int .i64 pg)
        revert hx9 hu9
        generalize (((w9.setCell ⟨N+1+1,0,none⟩ (.string ckk)).setCell ⟨N+1+1,1,none⟩ (.string ⟨#[]⟩)).setCell ⟨N+1+1,2,none⟩ (.int .i64 pg))=W9
        intro hx9 hu9
        obtain ⟨⟨q0,q1,q2⟩,-⟩:=three_cells hx9
        have hNN:w.heap.size≤N+1+1:=by have:=HNW.out;omega
        have hst9:=(HST7.out.trans (Step.of_below HB8.out)).trans HS9.out
        refine bodyPost_ret (v:=.tuple #[.agg #[.string ckk,.string ⟨#[]⟩,.int .i64 pg],.int .i64 c9]) (by simp [results,Tryz.results90,go_sem,q0,q1,q2]) rfl ⟨ckk,⟨#[]⟩,pg,c9,s9,rfl,fun _=>by rw [HCK.out.1,HKC.out.1];rfl,.right c9 _ _ HW7.out HW9.out,HM9.out.turn hu9 (B:=w.heap.size) (by rw [hst9.B];exact H.out.base) (fun j hj=>by subst hj;exact ⟨hNN,129,by decide,⟨_,Z9.out⟩⟩),by have:=HT7.out;have:=HT9.out;omega,hst9.more hu9 (fun j hj=>by subst hj;exact hNN)⟩
      · have hcb:((c7:Int) != 0)=true:=by simp;omega
        have HC0:=Lib.hid h0
        obtain ⟨⟨z0,z1,z2⟩,⟨y0,y1,y2⟩,hZl⟩:=three_cells Z7.out
        go_wp2_with fail
        have hx9:=three_set (a':=.string ⟨#[]⟩) (b':=.string ⟨#[]⟩) (c':=.int .i64 0) Z7.out
        have hu9:=three_upd w7 (N+1+1) (.string ⟨#[]⟩) (.string ⟨#[]⟩) (.int .i64 0)
        revert hx9 hu9
        generalize (((w7.setCell ⟨N+1+1,0,none⟩ (.string ⟨#[]⟩)).setCell ⟨N+1+1,1,none⟩ (.string ⟨#[]⟩)).setCell ⟨N+1+1,2,none⟩ (.int .i64 0))=W9
        intro hx9 hu9
        obtain ⟨⟨q0,q1,q2⟩,-⟩:=three_cells hx9
        have hNN:w.heap.size≤N+1+1:=by have:=HNW.out;omega
        refine bodyPost_ret (v:=.tuple #[.agg #[.string ⟨#[]⟩,.string ⟨#[]⟩,.int .i64 0],.int .i64 c7]) (by simp [results,Tryz.results90,go_sem,q0,q1,q2]) rfl ⟨⟨#[]⟩,⟨#[]⟩,0,c7,s7,rfl,fun h=>absurd h HC0.out,.left c7 _ HW7.out HC0.out,HM7.out.turn hu9 (B:=w.heap.size) (Nat.le_trans (by rw [HST7.out.B];exact Nat.le_refl _) H.out.base) (fun j hj=>by subst hj;exact ⟨hNN,129,by decide,⟨_,Z7.out⟩⟩),by have:=HT7.out;omega,HST7.out.more hu9 (fun j hj=>by subst hj;exact hNN)⟩
end Go.Proofs.YtheeomjfpnijbaaGreatDoor
end
