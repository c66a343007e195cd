/- Lemmas: BeginM. -/
import Derived.Test.YtheeomjfpnijbaaGreatDoorTouchP
import Derived.Test.YtheeomjfpnijbaaGreatDoorRecEP
import Derived.Test.YtheeomjfpnijbaaGreatDoorZMg
import Derived.Test.YtheeomjfpnijbaaGreatDoorWithP
set_option linter.unusedVariables false
namespace Go.Proofs.YtheeomjfpnijbaaGreatDoor
open Go.RowKit Go.Shelf
open Go.MuLone
section
variable {p:Par} {w:World} {s:ASt}
theorem mheld_mr (h:MR 0 p w s) :
    Calls Tryz.prog 97 #[.pointer (some ⟨p.bg,0,none⟩)] w fun e w'=>e=.returned (.bool true)∧MR 1 p w' s∧Step p s.N w s.N w':=by
  refine (mheld_some p.bg _ w h.load.2.1 h.load.1 (frozenC h.cells)).mono ?_
  rintro e w' ⟨rfl,rfl⟩
  exact ⟨rfl,h.lock 1,h.lock_step 1⟩
theorem unlock_mr (u:FrameMode) (h:MR 1 p w s) :
    CallsD Tryz.prog 98 #[.pointer (some ⟨p.bg,0,none⟩)] u w fun e u' w'=>u'=u∧(e=.returned (.tuple #[])∧MR 0 p w' s∧Step p s.N w s.N w'∧Upd (fun j=>j=p.bg) w w'):=by
  refine (unlock_deferred muLib ⟨p.bg,0,none⟩ u w h.load.1 (frozenC h.cells)).mono ?_
  rintro e u' w' ⟨rfl,rfl,rfl⟩
  exact ⟨rfl,rfl,h.lock 0,h.lock_step 0,Upd.setC w p.bg 0 _⟩
end
def ReadMQ (p:Par) (s:ASt) (tx n:Int) (w:World) (e:Ending) (w':World):Prop :=
  (∃ c:Nat,c=readE s.A p.pages tx n∧c ≠ 0∧e=.returned (.tuple #[.slice none 0 0,.int .i64 c])∧MR 0 p w' s∧Step p s.N w s.N w') ∨
  (readE s.A p.pages tx n=0∧∃ (q:Option Addr) (d:Nat) (s':ASt),e=.returned (.tuple #[.slice q 112 d,.int .i64 0])∧w'.ownsRow w.heap.size 5 1 (.slice q 112 d) 112 (B8s (s.C n).2)∧MR 0 p w' s'∧Like s s' 1∧Step p s.N w s'.N w')
set_option maxRecDepth 20000 in
set_option maxHeartbeats 1000000 in
theorem rread_any (p:Par) (s:ASt) (tx n:Int) (w:World) (h:MR 0 p w s) (ht:s.t≤900000) :
    Calls Tryz.prog 51 #[.pointer (some ⟨p.bg,0,none⟩),.int .i64 tx,.int .i64 n] w (ReadMQ p s tx n w):=by
  have H:=Lib.hid h
  have HT:=Lib.hid ht
  clear h ht
  go_enter_defers Tryz.func51,Tryz.ntmps51
  go_wp2_with fail
  refine (mheld_mr H.out).mono ?_
  rintro e w1 ⟨rfl,hm1,hs1⟩
  have HM1:=Lib.hid hm1
  have HS1:=Lib.hid hs1
  clear hm1 hs1
  go_wp2_with fail
  refine (mread_any 1 p s tx n _ HM1.out HT.out).mono ?_
  rintro e w2 (⟨c,hc,hc0,rfl,hm2,hs2⟩ | ⟨hc,q,d,s2,rfl,ho2,hm2,hl2,hs2⟩)
  · have HM2:=Lib.hid hm2
    have HS2:=Lib.hid (HS1.out.trans hs2)
    have HC:=Lib.hid (And.intro hc hc0)
    clear hm2 hs2 hc hc0
    go_wp2_with fail
    refine leaves_cons (f:=98) (args:=#[.pointer (some ⟨p.bg,0,none⟩)]) (by simp) (by simp [go_sem]) ?_
    refine (unlock_mr .returning HM2.out).mono ?_
    rintro e u' w3 ⟨rfl,rfl,hm3,hs3,-⟩
    refine ⟨_,results_tmp2 rfl _ _ _,?_⟩
    change ReadMQ p s tx n w (.returned (.tuple #[.slice none 0 0,.int .i64 c])) _
    exact .inl ⟨c,HC.out.1,HC.out.2,rfl,hm3,HS2.out.trans hs3⟩
  · have HM2:=Lib.hid hm2
    have HS2:=Lib.hid (HS1.out.trans hs2)
    have HO2:=Lib.hid ho2
    have HC:=Lib.hid hc
    have HL2:=Lib.hid hl2
    clear hm2 hs2 hc ho2 hl2
    go_wp2_with fail
    refine leaves_cons (f:=98) (args:=#[.pointer (some ⟨p.bg,0,none⟩)]) (by simp) (by simp [go_sem]) ?_
    refine (unlock_mr .returning HM2.out).mono ?_
    rintro e u' w3 ⟨rfl,rfl,hm3,hs3,hu3⟩
    refine ⟨_,results_tmp2 rfl _ _ _,?_⟩
    change ReadMQ p s tx n w (.returned (.tuple #[.slice q 112 d,.int .i64 0])) _
    refine .inr ⟨HC.out,q,d,s2,rfl,own_upd (own_mono HO2.out HS1.out.upd.size) hu3 (fun j hj h8=>?_),hm3,HL2.out,HS2.out.trans hs3⟩
    subst hj
    exact absurd (h8.one HM2.out.typed) (by decide)
def TopA (s:ASt) (m:Nat):Prop:=s.last≤m∧(∀ x∈s.A,x.1≤m)∧((m:Int)=s.last ∨ (m:Int)∈s.A.map (·.1))
structure Begun (s s':ASt) (m b:Nat):Prop where
  N:s'.N=s.N
  C:s'.C=s.C
  A:s'.A=s.A++[((m:Int)+1,⟨b,.slice none 0 0,[]⟩)]
  last:s'.last=s.last
  recs:s'.recs=s.recs
  log:s'.L.last=s.L.last∧s'.L.sectors=s.L.sectors∧s'.L.xs=s.L.xs
  t:s'.t=s.t
def BeginQ (p:Par) (s:ASt) (w:World) (e:Ending) (w':World):Prop :=
  (e=.returned (.tuple #[.int .i64 0,.int .i64 4])∧(16≤s.A.length ∨ ∃ m,TopA s m∧1099511627776≤m)∧MR 0 p w' s∧Step p s.N w s.N w') ∨
  (s.A.length < 16∧∃ m b s',TopA s m∧m < 1099511627776∧e=.returned (.tuple #[.int .i64 (m+1:Nat),.int .i64 0])∧MR 0 p w' s'∧Begun s s' m b∧Step p s.N w s'.N w')
section
variable {k:Int} {p:Par} {w w2 w':World} {s:ASt}
theorem MR.begun (h:MR k p w s) (hb:Below w.heap.size w w2) {b m:Nat} (hbs:w.heap.size≤b) (h2:w2.heap[b]?=some (.cells #[.slice none 0 0] 236 (0,0))) (hu:Upd (fun i=>i=p.ba) w2 w') (hm:MapZ w' p.ba (mapA s.A++[((m:Int)+1,.pointer (some ⟨b,0,none⟩))])) (hf:s.A.length < 16) (hM:m < 1099511627776) :
    MR k p w' { s with A:=s.A++[((m:Int)+1,⟨b,.slice none 0 0,[]⟩)] }∧Step p s.N w s.N w':=by
  have h':=h.below hb
  have hnt:∀ {t:TypeId} (j:Nat),Typed w2 j t→¬ j=p.ba:=fun j ht e=>h'.map.notTyped ht e
  have hblt:∀ x∈s.A,x.2.blk < w.heap.size:=fun x hx=>(Array.getElem?_eq_some_iff.1 (h.txs x hx).cells).1
  refine ⟨{
    cells:=(hu.block _ (Array.getElem?_eq_some_iff.1 h'.cells).1 (hnt _ h'.typed)).trans h'.cells
    run:=h'.run.upd hu (fun j hj=>by subst hj;exact h.low.2.1) (fun j hj=>by
      subst hj
      refine ⟨fun hf=>?_,fun h8=>hnt _ h8 rfl⟩
      obtain ⟨-,hf⟩:=hf
      rcases hf with hf | ⟨hf,-⟩ | hf | hf | hf | hf | hf
      · exact hnt _ hf rfl
      · exact hnt _ hf rfl
      · exact hnt _ hf rfl
      · exact hnt _ hf rfl
      · exact hnt _ hf rfl
      · exact hnt _ hf rfl
      · exact h.low.2.2.1 hf)
    map:=by
      have:mapA (s.A++[((m:Int)+1,(⟨b,.slice none 0 0,[]⟩:Tx))])=mapA s.A++[((m:Int)+1,.pointer (some ⟨b,0,none⟩))]:=by simp [mapA]
      show MapZ w' p.ba (mapA (s.A++[((m:Int)+1,⟨b,.slice none 0 0,[]⟩)]))
      rw [this]
      exact hm
    txs:=fun x hx=>by
      rcases List.mem_append.1 hx with hx | hx
      · have hx':=h'.txs x hx
        exact ⟨(hu.block _ (Array.getElem?_eq_some_iff.1 hx'.cells).1 (hnt _ ⟨_,hx'.cells⟩)).trans hx'.cells,own_upd hx'.row hu (fun j hj ht=>hnt j ht hj)⟩
      · rw [List.mem_singleton] at hx
        subst hx
        exact ⟨(hu.block _ (Array.getElem?_eq_some_iff.1 h2).1 (hnt _ ⟨_,h2⟩)).trans h2,World.ownsRow_nil _ _ _ _⟩
    apart:=by
      show ((s.A++[((m:Int)+1,(⟨b,.slice none 0 0,[]⟩:Tx))]).map (·.2.blk)).Nodup
      rw [List.map_append,List.nodup_append]
      refine ⟨h.apart,by simp,fun x hx y hy=>?_⟩
      obtain ⟨z,hz,rfl⟩:=List.mem_map.1 hx
      have:=hblt z hz
      simp at hy
      omega
    rows:=by
      show (s.A++[((m:Int)+1,(⟨b,.slice none 0 0,[]⟩:Tx))]).Pairwise _
      rw [List.pairwise_append]
      refine ⟨h.rows,by simp,fun x hx y hy=>?_⟩
      rw [List.mem_singleton] at hy
      subst hy
      exact fun g _ hg=>by cases hg
    low:=⟨h.low.1,h.low.2.1,h.low.2.2.1,fun x hx=>by
      rcases List.mem_append.1 hx with hx | hx
      · exact h.low.2.2.2 x hx
      · rw [List.mem_singleton] at hx
        subst hx
        exact Nat.le_trans h.run.st.base hbs⟩
    pins:=h.pins
    few:=by simp;omega
    keys:=fun x hx=>by
      rcases List.mem_append.1 hx with hx | hx
      · exact h.keys x hx
      · rw [List.mem_singleton] at hx
        subst hx
        exact ⟨by show 1≤(m:Int)+1;omega,by show (m:Int)+1≤_;omega⟩
    last:=h.last
    cnt:=h.cnt
    ups:=fun x hx=>by
      rcases List.mem_append.1 hx with hx | hx
      · exact h.ups x hx
      · rw [List.mem_singleton] at hx
        subst hx
        exact fun r hr=>by cases hr
    ulen:=fun x hx=>by
      rcases List.mem_append.1 hx with hx | hx
      · exact h.ulen x hx
      · rw [List.mem_singleton] at hx
        subst hx
        exact Nat.zero_le _
    sect:=h.sect },(Step.of_below hb).trans ⟨rfl,rfl,hu.mono fun j _ hj=>.inr ⟨by subst hj;exact h.low.2.1,.inl hj⟩,fun _ _ h=>h⟩⟩
end
set_option maxRecDepth 20000 in
set_option maxHeartbeats 2000000 in
theorem mbegin_any (p:Par) (s:ASt) (w:World) (h:MR 0 p w s) :
    Calls Tryz.prog 81 #[.pointer (some ⟨p.bg,0,none⟩)] w (BeginQ p s w):=by
  have H:=Lib.hid h
  clear h
  go_enter_defers Tryz.func81,Tryz.ntmps81
  go_wp2_with fail
  refine (mheld_mr H.out).mono ?_
  rintro e w1 ⟨rfl,hm1,hs1⟩
  have HM1:=Lib.hid hm1
  have HS1:=Lib.hid hs1
  have hlen:=hm1.map.len (P:=Tryz.prog) Tryz.underlying61 3
  obtain ⟨-,-,-,-,k5,-,k7,hlt⟩:=hm1.load
  obtain ⟨a,ha⟩:∃ a,a=(mapA s.A).length:=⟨_,rfl⟩
  rw [← ha] at hlen
  have HA:Hid (a=s.A.length):=Lib.hid (by rw [ha];simp [mapA])
  clear hm1 hs1 ha
  by_cases hfull:(16:Int)≤(a:Int)
  · go_wp2_with fail
    refine leaves_cons (f:=98) (args:=#[.pointer (some ⟨p.bg,0,none⟩)]) (by simp) (by simp [go_sem]) ?_
    refine (unlock_mr .returning HM1.out).mono ?_
    rintro e u' w3 ⟨rfl,rfl,hm3,hs3,-⟩
    refine ⟨_,results_tmp2 rfl _ _ _,?_⟩
    change BeginQ p s w (.returned (.tuple #[.int .i64 0,.int .i64 4])) _
    exact .inl ⟨rfl,.inl (by have:=HA.out;omega),hm3,HS1.out.trans hs3⟩
  · have hd:decide ((16:Int)≤(a:Int))=false:=decide_eq_false hfull
    have HF:Hid (s.A.length < 16):=Lib.hid (by have:=HA.out;omega)
    clear hfull
    go_wp2_with (at_range;refine wpList_rangeZ rfl _ 61 rfl 234 Tryz.underlying61 Tryz.underlying3 rfl HM1.out.map ?_;intro w2 todo1 hit1 htd1 hb1 hsz1)
    have HI1:=Lib.hid hit1
    have HD1:=Lib.hid htd1
    have HB1:=Lib.hid hb1
    clear hit1 htd1 hb1 hsz1
    go_frame
    go_loopw [4] (fun v wr=>∃ (m:Nat) (todo:Int→Bool) (cnt:Nat),v=.int .i64 m∧Hid (s.last≤m∧m≤1099511627776∧(∀ x∈s.A,todo x.1=false→x.1≤m)∧((m:Int)=s.last ∨ (m:Int)∈s.A.map (·.1)))∧Hid (ItZ Tryz.prog 3 wr p.ba w1.heap.size (mapA s.A) todo cnt)∧Hid (Below w1.heap.size w1 wr)) (fun _ wr=>wr.rangeLeft p.ba w1.heap.size)
    case atStart=>exact ⟨s.last,todo1,_,rfl,Lib.hid ⟨Nat.le_refl _,H.out.last,(fun x hx hf=>by rw [HD1.out x.1 (by simp only [mapA,List.map_map];exact List.mem_map.2 ⟨x,hx,rfl⟩)] at hf;cases hf),.inl rfl⟩,HI1,HB1⟩
    case round =>
      obtain ⟨m,todo,cnt,rfl,HN,HI,HB⟩:=hrel
      go_wp2_with (at_next;refine wpList_nextZ rfl _ rfl Tryz.underlying3 rfl HI.out ?_ ?_)
      · intro hall
        have HT:Hid (TopA s m):=Lib.hid ⟨HN.out.1,fun x hx=>HN.out.2.2.1 x hx (hall x.1),HN.out.2.2.2⟩
        have HR:=Lib.hid (HM1.out.below HB.out)
        obtain ⟨-,-,-,-,-,-,r7,hlt2⟩:=HR.out.load
        clear hall k5 k7
        by_cases hmx:(1099511627776:Int)≤(m:Int)
        · go_wp2_with fail
          refine leaves_cons (f:=98) (args:=#[.pointer (some ⟨p.bg,0,none⟩)]) (by simp) (by simp [go_sem]) ?_
          refine (unlock_mr .returning HR.out).mono ?_
          rintro e u' w3 ⟨rfl,rfl,hm3,hs3,-⟩
          refine ⟨_,results_tmp2 rfl _ _ _,?_⟩
          change BeginQ p s w (.returned (.tuple #[.int .i64 0,.int .i64 4])) _
          exact .inl ⟨rfl,.inr ⟨m,HT.out,by omega⟩,hm3,(HS1.out.trans (Step.of_below HB.out)).trans hs3⟩
        · have hd2:decide ((1099511627776:Int)≤(m:Int))=false:=decide_eq_false hmx
          have hm0:(m:Int) < 1099511627776:=by omega
          have HNK:Hid (look (mapA s.A) ((m:Int)+1)=none):=Lib.hid (by
            rw [look_none_iff]
            intro hx
            simp only [mapA,List.map_map] at hx
            obtain ⟨x,hx,hxe⟩:=List.mem_map.1 hx
            have:=HT.out.2.1 x hx
            simp only [Function.comp_apply] at hxe
            omega)
          have HA2:=Lib.hid ((Below.refl wr.heap.size wr).alloc (Nat.le_refl _) (.cells #[.slice none 0 0] 236))
          clear hmx
          go_wp2_with (at_mapUpdate;refine wpList_insertZ rfl _ _ _ 61 rfl 3 234 Tryz.underlying61 Tryz.underlying3 ((m:Int)+1) (.pointer (some ⟨wr.heap.size,0,none⟩)) rfl rfl rfl (HR.out.below HA2.out).map HNK.out (by have:=HF.out;simp [mapA];omega) (by omega) (by omega) ?_;intro w4 hmz4 hu4)
          have HE:=Lib.hid (HR.out.begun HA2.out (Nat.le_refl _) (heap_alloc_new _ _) hu4 hmz4 HF.out (by omega))
          clear hmz4 hu4
          go_wp2_with fail
          refine leaves_cons (f:=98) (args:=#[.pointer (some ⟨p.bg,0,none⟩)]) (by simp) (by simp [go_sem]) ?_
          refine (unlock_mr .returning HE.out.1).mono ?_
          rintro e u' w5 ⟨rfl,rfl,hm5,hs5,-⟩
          refine ⟨_,results_tmp2 rfl _ _ _,?_⟩
          change BeginQ p s w (.returned (.tuple #[.int .i64 (m+1:Nat),.int .i64 0])) _
          exact .inr ⟨HF.out,m,wr.heap.size,_,HT.out,by omega,rfl,hm5,⟨rfl,rfl,rfl,rfl,rfl,⟨rfl,rfl,rfl⟩,rfl⟩,((HS1.out.trans (Step.of_below HB.out)).trans HE.out.2).trans hs5⟩
      · intro x v w3 cnt2 hlook htodo hit2 hcnt hu2 hs2 hen
        rw [look_mapA] at hlook
        obtain ⟨t,hlt3,rfl⟩:=Option.map_eq_some_iff.1 hlook
        have hm:=look_mem hlt3
        obtain ⟨hx1,hx2⟩:=H.out.keys _ hm
        simp only at hx1 hx2
        obtain ⟨y,rfl⟩:=Int.eq_ofNat_of_zero_le (show 0≤x by omega)
        have hBB:Below w1.heap.size w1 w3:=⟨hu2.os.trans HB.out.os,hu2.tape.trans HB.out.tape,hu2.output.trans HB.out.output,by rw [hs2];exact HB.out.size,fun j hj=>(hu2.block j (Nat.lt_of_lt_of_le hj HB.out.size) (by omega)).trans (HB.out.block j hj)⟩
        obtain ⟨z,hz⟩:∃ z,z=max m y:=⟨_,rfl⟩
        have hmax1:max (m:Int) (y:Int)=(z:Int):=by omega
        have hmax2:(if (m:Int) < (y:Int) then (y:Int) else (m:Int))=(z:Int):=by split <;> omega
        have hmax3:(if m < y then (y:Int) else (m:Int))=(z:Int):=by split <;> omega
        have HZ:Hid (s.last≤z∧z≤1099511627776∧(∀ x∈s.A,(todo x.1 && !decide (x.1=(y:Int)))=false→x.1≤z)∧((z:Int)=s.last ∨ (z:Int)∈s.A.map (·.1))):=Lib.hid (by
          obtain ⟨n1,n2,n3,n4⟩:=HN.out
          refine ⟨by omega,by omega,fun u hu hf=>?_,?_⟩
          · by_cases e:u.1=(y:Int)
            · omega
            · have:=n3 u hu (by simpa [e] using hf)
              omega
          · by_cases e:y≤m
            · rw [show z=m by omega];exact n4
            · rw [show z=y by omega];exact .inr (List.mem_map.2 ⟨_,hm,rfl⟩))
        have HB3:=Lib.hid hBB
        have HI3:=Lib.hid hit2
        have HC3:=Lib.hid hcnt
        clear hlook hlt3 hm hBB hit2 hcnt hu2 hs2 htodo hx1 hx2 hz k5 k7 hlen
        go_wp2_with fail
        go_roundw
        case rel=>exact ⟨z,_,cnt2,rfl,HZ,HI3,HB3⟩
        case measure=>rw [HI3.out.left_eq,HI.out.left_eq];exact HC3.out
end Go.Proofs.YtheeomjfpnijbaaGreatDoor
namespace Go.Proofs.YtheeomjfpnijbaaGreatDoor
open Go.RowKit Go.Shelf
def setA (A:List (Int × Tx)) (tx:Int) (t':Tx):List (Int × Tx):=A.map fun x=>if x.1=tx then (tx,t') else x
theorem mem_setA {A:List (Int × Tx)} {tx:Int} {t':Tx} {x:Int × Tx} (h:x∈setA A tx t'):x=(tx,t') ∨ (x∈A∧x.1 ≠ tx):=by
  unfold setA at h
  obtain ⟨y,hy,rfl⟩:=List.mem_map.1 h
  by_cases hn:y.1=tx
  · simp [hn]
  · simp [hn,hy]
theorem one_tx {A:List (Int × Tx)} (hn:(A.map (·.1)).Nodup) {n:Int} {b c:Tx} (h1:(n,b)∈A) (h2:(n,c)∈A):b=c:=by
  have e1:=look_of_mem hn h1
  have e2:=look_of_mem hn h2
  rw [e1] at e2
  exact Option.some.inj e2
theorem setA_map {γ:Type} (f:Tx→γ) {A:List (Int × Tx)} (hn:(A.map (·.1)).Nodup) {tx:Int} {t t':Tx} (hm:(tx,t)∈A) (hb:f t'=f t):(setA A tx t').map (fun x=>(x.1,f x.2))=A.map fun x=>(x.1,f x.2):=by
  unfold setA
  rw [List.map_map]
  refine List.map_congr_left fun x hx=>?_
  simp only [Function.comp_apply]
  split
  · rename_i h
    have:x.2=t:=one_tx hn (n:=tx) (by rw [← h];exact hx) hm
    rw [this,hb,h]
  · rfl
section
variable {k:Int} {p:Par} {w w':World} {s:ASt}
theorem MR.updated (h:MR k p w s) {tx:Int} {t:Tx} {row':Value} {us':List Rec} {m:Nat} (hm:(tx,t)∈s.A) (hu:Upd (fun j=>j=t.blk ∨ some j=t.row.ownBlock) w w') (hc:w'.heap[t.blk]?=some (.cells #[row'] 236 (0,0)))
    (hr:w'.ownsRow s.N.B 218 8 row' us'.length (us'.flatMap recCells)) (hb:row'.ownBlock=t.row.ownBlock ∨ ∃ g,row'.ownBlock=some g∧w.heap.size≤g) (hok:∀ r∈us',UpdOk p tx r) (hl:us'.length≤m) (ht:s.t≤m) :
    MR k p w' { s with A:=setA s.A tx ⟨t.blk,row',us'⟩,t:=m }∧Step p s.N w s.N w':=by
  have htx:=h.txs _ hm
  have htt:Typed w t.blk 236:=⟨_,htx.cells⟩
  have hT:∀ j u,(j=t.blk ∨ some j=t.row.ownBlock)→Typed w j u→u=236 ∨ u=218:=fun j u hj ht=>by
    rcases hj with rfl | hj
    · exact .inl (ht.one htt)
    · exact .inr (ht.one (own_typed htx.row hj))
  have hge:∀ j,(j=t.blk ∨ some j=t.row.ownBlock)→s.N.B≤j:=fun j hj=>by
    rcases hj with rfl | hj
    · exact h.low.2.2.2 _ hm
    · exact own_ge htx.row hj
  have hty:∀ j,(j=t.blk ∨ some j=t.row.ownBlock)→Typed w j 236 ∨ Typed w j 218:=fun j hj=>by
    rcases hj with rfl | hj
    · exact .inl htt
    · exact .inr (own_typed htx.row hj)
  have hfs:∀ j,(j=t.blk ∨ some j=t.row.ownBlock)→¬ FS s.N p.bm w j∧¬ Typed w j 5:=fun j hj=>by
    refine ⟨fun hf=>?_,fun h8=>by rcases hT j _ hj h8 with e | e <;> exact absurd e (by decide)⟩
    rcases hty j hj with h1 | h1
    · exact h.not8 (.inr (.inr (.inr (by decide)))) _ hf h1
    · exact h.not8 (.inr (.inr (.inr (by decide)))) _ hf h1
  have hba:¬ (p.ba=t.blk ∨ some p.ba=t.row.ownBlock):=fun hj=>by
    rcases hty _ hj with h1 | h1 <;> exact h.map.notTyped h1 rfl
  have hnd:=h.nodup
  have hoth:∀ x∈s.A,x.1 ≠ tx→x.2.blk ≠ t.blk∧∀ g,x.2.row.ownBlock=some g→t.row.ownBlock ≠ some g:=by
    intro x hx hne
    have aux:∀ (A:List (Int × Tx)),(A.map (·.2.blk)).Nodup→(A.Pairwise fun x y=>∀ g,x.2.row.ownBlock=some g→y.2.row.ownBlock ≠ some g)→x∈A→(tx,t)∈A→x.2.blk ≠ t.blk∧∀ g,x.2.row.ownBlock=some g→t.row.ownBlock ≠ some g:=by
      intro A
      induction A with
      | nil=>intro _ _ hx;cases hx
      | cons y A ih =>
        intro h1 h2 hx ht
        rw [List.map_cons,List.nodup_cons] at h1
        rw [List.pairwise_cons] at h2
        rcases List.mem_cons.1 hx with e1 | e1
        · rcases List.mem_cons.1 ht with e2 | e2
          · exact absurd (by rw [e1,← e2]) hne
          · subst e1
            exact ⟨fun e=>h1.1 (List.mem_map.2 ⟨_,e2,e.symm⟩),h2.1 _ e2⟩
        · rcases List.mem_cons.1 ht with e2 | e2
          · rw [← e2] at h1 h2
            exact ⟨fun e=>h1.1 (List.mem_map.2 ⟨_,e1,e⟩),fun g hg hg'=>h2.1 _ e1 g hg' hg⟩
          · exact ih h1.2 h2.2 e1 e2
    exact aux s.A h.apart h.rows hx hm
  refine ⟨{
    cells:=(hu.block _ (Array.getElem?_eq_some_iff.1 h.cells).1 (fun hj=>by rcases hT _ _ hj h.typed with e | e <;> exact absurd e (by decide))).trans h.cells
    run:=h.run.upd hu hge hfs
    map:=by
      show MapZ w' p.ba (mapA (setA s.A tx ⟨t.blk,row',us'⟩))
      have e1:=setA_map (t':=⟨t.blk,row',us'⟩) (fun t:Tx=>(Value.pointer (some ⟨t.blk,0,none⟩))) hnd hm rfl
      unfold mapA
      rw [e1]
      exact h.map.upd hu hba
    txs:=fun x hx=>by
      rcases mem_setA hx with rfl | ⟨hx,hne⟩
      · exact ⟨hc,hr⟩
      · obtain ⟨o1,o2⟩:=hoth x hx hne
        have hx':=h.txs x hx
        refine ⟨(hu.block _ (Array.getElem?_eq_some_iff.1 hx'.cells).1 (fun hj=>?_)).trans hx'.cells,?_⟩
        · rcases hj with hj | hj
          · exact o1 hj
          · exact absurd (Typed.one ⟨_,hx'.cells⟩ (own_typed htx.row hj)) (by decide)
        · rcases hx'.row.2 with hnil | ⟨g,cap,cur,e1,g1,g2,g3⟩
          · exact ⟨hx'.row.1,.inl hnil⟩
          · refine ⟨hx'.row.1,.inr ⟨g,cap,cur,e1,g1,(hu.block g (Array.getElem?_eq_some_iff.1 g2).1 (fun hj=>?_)).trans g2,g3⟩⟩
            rcases hj with hj | hj
            · exact absurd (Typed.one ⟨_,g2⟩ (by rw [hj];exact htt)) (by decide)
            · exact o2 g (by rw [e1];rfl) hj.symm
    apart:=by
      show ((setA s.A tx ⟨t.blk,row',us'⟩).map (·.2.blk)).Nodup
      have e1:=congrArg (List.map Prod.snd) (setA_map (t':=⟨t.blk,row',us'⟩) (fun t:Tx=>t.blk) hnd hm rfl)
      simp only [List.map_map,Function.comp_def] at e1
      rw [e1]
      exact h.apart
    rows:=by
      show (setA s.A tx ⟨t.blk,row',us'⟩).Pairwise _
      unfold setA
      rw [List.pairwise_map]
      have hnk:s.A.Pairwise fun x y=>x.1 ≠ y.1:=by
        have:=hnd
        rwa [List.Nodup,List.pairwise_map] at this
      have hlt:∀ x∈s.A,∀ g,x.2.row.ownBlock=some g→g < w.heap.size:=fun x hx g hg=>by
        rcases (h.txs x hx).row.2 with ⟨e1,-⟩ | ⟨g',cap,cur,e1,-,g2,-⟩
        · rw [e1] at hg;cases hg
        · rw [e1] at hg
          cases hg
          exact (Array.getElem?_eq_some_iff.1 g2).1
      have hnew:∀ x∈s.A,x.1 ≠ tx→∀ g,x.2.row.ownBlock=some g→row'.ownBlock ≠ some g:=fun x hx hne g hg hg'=>by
        rcases hb with e | ⟨g',e,hle⟩
        · exact (hoth x hx hne).2 g hg (by rw [← e];exact hg')
        · rw [e] at hg'
          cases hg'
          have:=hlt x hx _ hg
          omega
      refine List.Pairwise.imp_of_mem ?_ (h.rows.and hnk)
      intro x y hx hy hxy g
      by_cases e1:x.1=tx
      · by_cases e2:y.1=tx
        · exact absurd (e1.trans e2.symm) hxy.2
        · rw [if_pos e1,if_neg e2]
          exact fun hg hg'=>hnew y hy e2 g hg' hg
      · by_cases e2:y.1=tx
        · rw [if_neg e1,if_pos e2]
          exact fun hg=>hnew x hx e1 g hg
        · rw [if_neg e1,if_neg e2]
          exact hxy.1 g
    low:=⟨h.low.1,h.low.2.1,h.low.2.2.1,fun x hx=>by
      rcases mem_setA hx with rfl | ⟨hx,-⟩
      · exact h.low.2.2.2 (tx,t) hm
      · exact h.low.2.2.2 x hx⟩
    pins:=h.pins
    few:=by simp only [setA,List.length_map];exact h.few
    keys:=fun x hx=>by
      rcases mem_setA hx with rfl | ⟨hx,-⟩
      · exact h.keys (tx,t) hm
      · exact h.keys x hx
    last:=h.last
    cnt:=⟨Nat.le_trans h.cnt.1 ht,Nat.le_trans h.cnt.2.1 ht,Nat.le_trans h.cnt.2.2.1 ht,Nat.le_trans h.cnt.2.2.2 ht⟩
    ups:=fun x hx=>by
      rcases mem_setA hx with rfl | ⟨hx,-⟩
      · exact hok
      · exact h.ups x hx
    ulen:=fun x hx=>by
      rcases mem_setA hx with rfl | ⟨hx,-⟩
      · exact hl
      · exact Nat.le_trans (h.ulen x hx) ht
    sect:=h.sect },⟨rfl,rfl,hu.mono fun j _ hj=>?_,fun _ _ h=>h⟩⟩
  refine .inr ⟨hge j hj,?_⟩
  rcases hty j hj with h1 | h1
  · exact .inr (.inr (.inl h1))
  · exact .inr (.inr (.inr (.inl h1)))
theorem MR.alien (h:MR k p w s) {g:Nat} (hg:∀ x∈s.A,x.2.row.ownBlock ≠ some g) (ht:Typed w g 218) (hu:Upd (fun j=>j=g) w w') (hB:s.N.B≤g):MR k p w' s∧Step p s.N w s.N w':=by
  have hT:∀ j u,j=g→Typed w j u→u=218:=fun j u hj h1=>by subst hj;exact h1.one ht
  refine ⟨{
    cells:=(hu.block _ (Array.getElem?_eq_some_iff.1 h.cells).1 (fun hj=>absurd (hT _ _ hj h.typed) (by decide))).trans h.cells
    run:=h.run.upd hu (fun j hj=>by subst hj;exact hB) (fun j hj=>by
      subst hj
      exact ⟨fun hf=>h.not8 (.inr (.inr (.inr (by decide)))) _ hf ht,fun h8=>absurd (h8.one ht) (by decide)⟩)
    map:=h.map.upd hu (fun hj=>h.map.notTyped ht hj.symm)
    txs:=fun x hx=>by
      have hx':=h.txs x hx
      refine ⟨(hu.block _ (Array.getElem?_eq_some_iff.1 hx'.cells).1 (fun hj=>absurd (hT _ _ hj ⟨_,hx'.cells⟩) (by decide))).trans hx'.cells,?_⟩
      rcases hx'.row.2 with hnil | ⟨g',cap,cur,e1,g1,g2,g3⟩
      · exact ⟨hx'.row.1,.inl hnil⟩
      · refine ⟨hx'.row.1,.inr ⟨g',cap,cur,e1,g1,(hu.block g' (Array.getElem?_eq_some_iff.1 g2).1 (fun hj=>?_)).trans g2,g3⟩⟩
        exact hg x hx (by rw [e1,← hj];rfl)
    apart:=h.apart
    rows:=h.rows
    low:=h.low
    pins:=h.pins
    few:=h.few
    keys:=h.keys
    last:=h.last
    cnt:=h.cnt
    ups:=h.ups
    ulen:=h.ulen
    sect:=h.sect },⟨rfl,rfl,hu.mono fun j _ hj=>?_,fun _ _ h=>h⟩⟩
  subst hj
  exact .inr ⟨hB,.inr (.inr (.inr (.inl ht)))⟩
theorem MR.row_lt (h:MR k p w s) {x:Int × Tx} (hx:x∈s.A) {g:Nat} (hg:x.2.row.ownBlock=some g):g < w.heap.size:=by
  rcases (h.txs x hx).row.2 with ⟨e1,-⟩ | ⟨g',cap,cur,e1,-,g2,-⟩
  · rw [e1] at hg;cases hg
  · rw [e1] at hg
    cases hg
    exact (Array.getElem?_eq_some_iff.1 g2).1
theorem MR.more (h:MR k p w s) {tx:Int} {t:Tx} {r:Rec} {W w3:World} {gg cap L:Nat} (hm:(tx,t)∈s.A) (hL:L=t.us.length) (hb:Below w.heap.size w W) (ho:w3.ownsRow s.N.B 218 8 (.slice (some ⟨gg,0,none⟩) (L+1) cap) (L+1) (t.us.flatMap recCells++recCells r)) (hg:W.grownBy w3 t.row.ownBlock)
    (hat:t.row.ownBlock=some gg ∨ gg=W.heap.size) (hok:UpdOk p tx r) :
    MR k p (w3.setCell ⟨t.blk,0,none⟩ (.slice (some ⟨gg,0,none⟩) (L+1) cap)) { s with A:=setA s.A tx ⟨t.blk,.slice (some ⟨gg,0,none⟩) (L+1) cap,t.us++[r]⟩,t:=s.t+1 }∧Step p s.N w s.N (w3.setCell ⟨t.blk,0,none⟩ (.slice (some ⟨gg,0,none⟩) (L+1) cap)) ∧
    Upd (fun j=>j=t.blk ∨ some j=t.row.ownBlock) w (w3.setCell ⟨t.blk,0,none⟩ (.slice (some ⟨gg,0,none⟩) (L+1) cap)):=by
  have htx:=h.txs _ hm
  have hbl:t.blk < w.heap.size:=(Array.getElem?_eq_some_iff.1 htx.cells).1
  have hW:=(hb.block _ hbl).trans htx.cells
  have hne:some t.blk ≠ t.row.ownBlock:=fun e=>absurd (Typed.one ⟨_,htx.cells⟩ (own_typed htx.row e)) (by decide)
  have h3:=(hg.block t.blk (Nat.lt_of_lt_of_le hbl hb.size) (fun e=>hne e)).trans hW
  have ht3:Typed w3 t.blk 236:=⟨_,h3⟩
  have hu:Upd (fun j=>j=t.blk ∨ some j=t.row.ownBlock) w (w3.setCell ⟨t.blk,0,none⟩ (.slice (some ⟨gg,0,none⟩) (L+1) cap)) :=
    ((Upd.of_below' hb _).trans' (Upd.of_grown hg) (fun j _ hj=>.inr hj)).trans' (Upd.setC w3 t.blk 0 _) (fun j _ hj=>.inl hj)
  have hlen:(t.us++[r]).length=L+1:=by simp [hL]
  obtain ⟨q1,q2⟩:=h.updated (t:=t) (row':=.slice (some ⟨gg,0,none⟩) (L+1) cap) (us':=t.us++[r]) (m:=s.t+1) hm hu ((heap_setCell_same w3 t.blk 0 _ _ _ h3).trans rfl) (by
      rw [hlen,List.flatMap_append,List.flatMap_singleton]
      exact own_upd ho (Upd.setC w3 t.blk 0 _) (fun j hj hr=>by subst hj;exact absurd (hr.one ht3) (by decide)))
    (by rcases hat with e | e
        · exact .inl e.symm
        · exact .inr ⟨gg,rfl,by rw [e];exact hb.size⟩)
    (fun u hu'=>by
      rcases List.mem_append.1 hu' with h1 | h1
      · exact h.ups _ hm u h1
      · rw [List.mem_singleton] at h1
        subst h1
        exact hok)
    (by rw [hlen];have:=h.ulen _ hm;simp only at this;omega) (Nat.le_succ _)
  exact ⟨q1,q2,hu⟩
end
theorem infoRec:(Tryz.prog.info? 218).map (fun i=>(i.zero,i.size,i.bytes))=some (some (.agg #[.int .i64 0,.int .i64 0,.int .i64 0,.int .i64 0,.string ⟨#[]⟩,.string ⟨#[]⟩,.int .i64 0,.int .i64 0]),8,80):=by kernel_rfl
end Go.Proofs.YtheeomjfpnijbaaGreatDoor
