/- Lemmas: Bt23, Bt24, Bt25, PutLaw, TreeLaws, Unfit. -/
import Derived.Test.YtheeomjfpnijbaaGreatDoorZBf
import Derived.Test.YtheeomjfpnijbaaGreatDoorZTs
import Derived.Test.YtheeomjfpnijbaaGreatDoorZBe
import Derived.Test.YtheeomjfpnijbaaGreatDoorZBd
set_option linter.unusedVariables false
section
namespace Go.Proofs.YtheeomjfpnijbaaGreatDoor
open Go.RowKit Go.Shelf
def MetaOk (P:Nat) (F:Nat→List UInt8):Prop:=∃ z:Met,F 0=pad z.load∧MetOk P z
theorem TakeR.meta0 {cap P p e:Nat} {a b:PSt} (h:TakeR cap P a p e b) (he:e=0):MetaOk P b.F∧1≤p∧p < P:=by
  cases h with
  | full z hz ho h0 hu=>cases he
  | new z e b hz ho h0 hu hw =>
    rcases hw with ⟨-,hF,-⟩ | ⟨h,-⟩
    · have h1:=ho.unused;have h2:=ho.root;have h3:=ho.free;have h4:=ho.levels
      exact ⟨⟨{ z with unused:=z.unused+1 },by rw [hF];exact if_pos rfl,⟨⟨by show 1≤z.unused+1;omega,by show z.unused+1≤P;omega⟩,⟨h2.1,by show z.root < z.unused+1;omega⟩,by show z.free < z.unused+1;omega,h4⟩⟩,h1.1,hu⟩
    · omega
  | old z f tl e b hz ho h0 hf hlt hw =>
    rcases hw with ⟨-,hF,-⟩ | ⟨h,-⟩
    · exact ⟨⟨{ z with free:=f },by rw [hF];exact if_pos rfl,⟨ho.unused,ho.root,hlt,ho.levels⟩⟩,h0,by have h1:=ho.unused;have h3:=ho.free;omega⟩
    · omega
  | bad z f tl hz ho h0 hf hb hlt=>cases he
theorem TakeR.meta' {cap P p:Nat} {a b:PSt} (h:TakeR cap P a p 0 b) (hP:P≤4096):MetaOk P b.F∧1≤p∧p < P:=h.meta0 rfl
theorem WriteR.meta' {cap P n e:Nat} {a b:PSt} {xs:List UInt8} (h:WriteR cap a n xs e b) (hn:n ≠ 0) (hm:MetaOk P a.F):MetaOk P b.F:=by
  rcases h with ⟨-,hF,-⟩ | ⟨-,hb,-⟩
  · obtain ⟨z,h1,h2⟩:=hm
    exact ⟨z,by rw [hF];exact (if_neg (fun e=>hn e.symm)).trans h1,h2⟩
  · rw [hb];exact hm
theorem PartR.meta' {cap P p e:Nat} {a b:PSt} {d:Nd} (h:PartR cap a d p e b) (hd:d.page ≠ 0) (hp:p ≠ 0) (hm:MetaOk P a.F):MetaOk P b.F:=by
  cases h with
  | left _ hw _=>exact hw.meta' hd hm
  | right b1 _ hw hw'=>exact hw'.meta' hp (hw.meta' hd hm)
theorem boxes5 {W:World} {N U:Nat} {t1 t2:TypeId} {a b x y z:Value} (h1:W.heap[N]?=some (.cells #[a,b] t1 (0,0))) (h2:W.heap[U]?=some (.cells #[x,y,z] t2 (0,0))) :
    W.cell? ⟨N,0,none⟩=some a∧W.cell? ⟨N,1,none⟩=some b∧W.cell? ⟨U,0,none⟩=some x∧W.cell? ⟨U,1,none⟩=some y∧W.cell? ⟨U,2,none⟩=some z:=by
  simp [World.cell?,h1,h2]
set_option maxRecDepth 20000 in
set_option maxHeartbeats 8000000 in
theorem troot_any {p:Par} {tx cap:Nat} {s:ASt} (first:Nat) (up:Cel) (w:World) (h:TM p tx cap w s) (ht:s.t≤590000) (hm:MetaOk p.pages (pst s).F) (hf:first < 65536) (hu:CelOk false up) :
    Calls Tryz.prog 91 #[treeV p tx,.int .i64 first,celA' up] w fun e w'=>∃ (c:Nat) (s':ASt),e=.returned (.int .i64 c)∧RootR cap p.pages (pst s) first up c (pst s')∧TM p tx cap w' s'∧s'.t≤s.t+30∧Step p s.N w s'.N w':=by
  obtain ⟨z,hz,ho⟩:=hm
  have H:=Lib.hid h
  have HT:=Lib.hid ht
  have HZ:=Lib.hid hz
  have HO:=Lib.hid ho
  have HF:=Lib.hid hf
  have HU:=Lib.hid hu
  have HPG:=Lib.hid h.pages
  unfold treeV celA'
  obtain ⟨uk,huk⟩:∃ x,x=bstr up.key:=⟨_,rfl⟩
  obtain ⟨uv,huv⟩:∃ x,x=bstr up.val:=⟨_,rfl⟩
  rw [← huk,← huv]
  have HCV:Hid (celV up=[.string uk,.string uv,.int .i64 up.child]):=Lib.hid (by rw [huk,huv];rfl)
  clear h ht hz ho hf hu huk huv
  go_enter Tryz.func91,Tryz.ntmps91
  go_upto_region 1 with fail
  obtain ⟨N,hN⟩:∃ N,N=w.heap.size:=⟨_,rfl⟩
  obtain ⟨W1,hW1⟩:∃ W1,W1=(w.alloc (.cells #[.pointer (some ⟨p.bg,0,none⟩),.int .i64 tx] 117)).alloc (.cells #[.string uk,.string uv,.int .i64 up.child] 129):=⟨_,rfl⟩
  have n0:W1.heap[N]?=some (.cells #[.pointer (some ⟨p.bg,0,none⟩),.int .i64 tx] 117 (0,0)):=by rw [hW1,hN];exact alloc_at (heap_alloc_new w _)
  have n1:W1.heap[N+1]?=some (.cells #[.string uk,.string uv,.int .i64 up.child] 129 (0,0)):=by
    rw [hW1,hN]
    have:=heap_alloc_new (w.alloc (.cells #[.pointer (some ⟨p.bg,0,none⟩),.int .i64 tx] 117)) (.cells #[.string uk,.string uv,.int .i64 up.child] 129)
    rwa [World.size_alloc] at this
  have HB1:Hid (Below w.heap.size w W1):=Lib.hid (by rw [hW1];exact ((Below.refl _ w).alloc (Nat.le_refl _) _).alloc (by simp) _)
  rw [← hW1,← hN]
  have HM1:=Lib.hid (H.out.below HB1.out)
  have k0:W1.cell? ⟨N,0,none⟩=some (.pointer (some ⟨p.bg,0,none⟩)):=by simp [World.cell?,n0]
  have k1:W1.cell? ⟨N,1,none⟩=some (.int .i64 tx):=by simp [World.cell?,n0]
  have hNl:=cell_lt k0
  have HNW:=Lib.hid hN
  have N0:=Lib.hid n0
  have N1:=Lib.hid n1
  clear hN hW1 n0 n1
  go_wp2_with fail
  refine (ttake_any z _ HM1.out (by have:=HT.out;omega) HZ.out HO.out).mono ?_
  rintro e w2 ⟨at_,c2,s2,rfl,hw2,hm2,ht2,hs2⟩
  have T2:=Lib.hid (HM1.out.keep hs2 N0.out (by decide))
  have U2:=Lib.hid (HM1.out.keep hs2 N1.out (by decide))
  have HM2:=Lib.hid hm2
  have HT2:=Lib.hid ht2
  have HW2:=Lib.hid hw2
  have HS2:=Lib.hid ((Step.of_below HB1.out).trans hs2)
  clear hm2 ht2 hw2 hs2 k0 k1 hNl
  by_cases h0:c2=0
  · subst h0
    obtain ⟨hmeta,hp1,hp2⟩:=HW2.out.meta' HPG.out.2
    have HME:=Lib.hid hmeta
    have HPP:=Lib.hid (And.intro hp1 hp2)
    clear hmeta hp1 hp2
    obtain ⟨dn,hdn⟩:∃ d:Nd,d=⟨at_,false,first,[up]⟩:=⟨_,rfl⟩
    have HDN:=Lib.hid hdn
    have hdl:dn.load.length≤112:=by rw [hdn];have h1:=HU.out.key;have h2:=HU.out.val;simp [Nd.load,le2,celB];omega
    have HDL:=Lib.hid hdl
    obtain ⟨LN,hLN⟩:∃ n,n=dn.load.length:=⟨_,rfl⟩
    have HLN:=Lib.hid hLN
    obtain ⟨W3,hW3⟩:∃ W,W=(w2.alloc (.cells #[.string uk,.string uv,.int .i64 up.child] 129)).drew:=⟨_,rfl⟩
    have HB3:Hid (Below w2.heap.size w2 (w2.alloc (.cells #[.string uk,.string uv,.int .i64 up.child] 129)).drew):=Lib.hid ((Below.refl _ w2).alloc (Nat.le_refl _) _).drew
    have LA:Hid (Calls Tryz.prog 46 #[.agg #[.int .i64 0,.bool false,.int .i64 first,.slice (some ⟨w2.heap.size,0,none⟩) 1 1]] (w2.alloc (.cells #[.string uk,.string uv,.int .i64 up.child] 129)).drew fun e w'=>∃ v,e=.returned v∧w'.ownsRow (w2.alloc (.cells #[.string uk,.string uv,.int .i64 up.child] 129)).drew.heap.size 5 1 v LN (B8s dn.load)∧Below (w2.alloc (.cells #[.string uk,.string uv,.int .i64 up.child] 129)).drew.heap.size (w2.alloc (.cells #[.string uk,.string uv,.int .i64 up.child] 129)).drew w'):=Lib.hid (by
      rw [hLN,hdn]
      have:=load_any ⟨0,false,first,[up]⟩ (some ⟨w2.heap.size,0,none⟩) 1 (w2.alloc (.cells #[.string uk,.string uv,.int .i64 up.child] 129)).drew (by simp) (fun x hx=>by rw [List.mem_singleton.1 hx];exact HU.out.sz) HF.out (fun _=>⟨_,0,rfl,fun i v hv=>by
        simp only [List.flatMap_cons,List.flatMap_nil,List.append_nil,HCV.out] at hv
        have h9:(w2.alloc (.cells #[.string uk,.string uv,.int .i64 up.child] 129)).drew.heap[w2.heap.size]?=some (.cells #[.string uk,.string uv,.int .i64 up.child] 129 (0,0)):=heap_alloc_new w2 _
        simp only [World.cell?,h9]
        simpa using hv⟩)
      exact this)
    have S0:Hid (w2.drew.cell? ⟨N,0,none⟩=some (.pointer (some ⟨p.bg,0,none⟩))∧w2.drew.cell? ⟨N,1,none⟩=some (.int .i64 tx)∧w2.drew.cell? ⟨N+1,0,none⟩=some (.string uk)∧w2.drew.cell? ⟨N+1,1,none⟩=some (.string uv)∧w2.drew.cell? ⟨N+1,2,none⟩=some (.int .i64 up.child)):=Lib.hid (boxes5 T2.out U2.out)
    have S1:=Lib.hid (boxes5 (met_old T2.out HB3.out) (met_old U2.out HB3.out))
    clear hdn hdl hLN hW3
    go_wp2_with fail
    go_region_held3 (fun w'=>w'.cell? ⟨N,0,none⟩=some (.pointer (some ⟨p.bg,0,none⟩))∧w'.cell? ⟨N,1,none⟩=some (.int .i64 tx)∧w'.cell? ⟨N+1,0,none⟩=some (.string uk)∧w'.cell? ⟨N+1,1,none⟩=some (.string uv)∧w'.cell? ⟨N+1,2,none⟩=some (.int .i64 up.child))
      (first | exact S0.out | exact S1.out | exact S2.out | exact S3.out)
      (first
        | (go_at_call 46;(with_reducible refine LA.out.mono ?_);rintro e w4 ⟨v4,rfl,ho4,hb4⟩;obtain ⟨q4,c4,rfl,-⟩:=own_slice ho4;have HR4:=Lib.hid (own_rdv ho4);have HB4:Hid (Below w2.heap.size w2 w4):=Lib.hid (chainC HB3.out hb4);have HM4:=Lib.hid (HM2.out.below HB4.out);have S2:=Lib.hid (boxes5 (met_old T2.out HB4.out) (met_old U2.out HB4.out));clear ho4 hb4)
        | (go_at_call 45;refine (twrite_any at_ LN c4 q4 dn.load _ HM4.out HPP.out.2 (by have:=HT.out;have:=HT2.out;omega) HLN.out.symm (by rw [HLN.out];exact HDL.out) HR4.out).mono ?_;rintro e w5 ⟨c5,s5,rfl,hw5,hm5,ht5,hs5⟩;have HW5:=Lib.hid hw5;have HM5:=Lib.hid hm5;have HT5:=Lib.hid ht5;have HS5:=Lib.hid hs5;have T5:=Lib.hid (HM4.out.keep hs5 (met_old T2.out HB4.out) (by decide));have S3:=Lib.hid (boxes5 T5.out (HM4.out.keep hs5 (met_old U2.out HB4.out) (by decide)));clear hw5 hm5 ht5 hs5))
    have HS5':Hid (Step p s.N w s5.N w5):=Lib.hid ((HS2.out.trans (Step.of_below HB4.out)).trans HS5.out)
    by_cases h5:c5=0
    · subst h5
      obtain ⟨z5,hz5,ho5⟩:=HW5.out.meta' (by have:=HPP.out.1;omega) HME.out
      have HZ5:=Lib.hid hz5
      have HO5:=Lib.hid ho5
      have k0:w5.cell? ⟨N,0,none⟩=some (.pointer (some ⟨p.bg,0,none⟩)):=by simp [World.cell?,T5.out]
      have k1:w5.cell? ⟨N,1,none⟩=some (.int .i64 tx):=by simp [World.cell?,T5.out]
      have hNl:=cell_lt k0
      clear hz5 ho5
      go_wp2_with fail
      refine (tmeta_any z5 w5 HM5.out (by have:=HT.out;have:=HT2.out;have:=HT5.out;omega) HZ5.out HO5.out).mono ?_
      rintro e w6 ⟨s6,rfl,hm6,hp6,ht6,hn6,hs6⟩
      unfold metV
      have T6:=Lib.hid (HM5.out.keep hs6 T5.out (by decide))
      have HM6:=Lib.hid hm6
      have HP6:=Lib.hid hp6
      have HT6:=Lib.hid ht6
      have HS6:Hid (Step p s.N w s6.N w6):=Lib.hid (HS5'.out.trans hs6)
      clear hm6 hp6 ht6 hn6 hs6 k0 k1 hNl
      go_upto_region 8 with fail
      obtain ⟨X,hX⟩:∃ X,X=w6.heap.size:=⟨_,rfl⟩
      obtain ⟨W7,hW7⟩:∃ W3,W3=w6.alloc (.cells #[.int .i64 z5.root,.int .i64 z5.unused,.int .i64 z5.free,.int .i64 z5.levels] 133):=⟨_,rfl⟩
      have x7:W7.heap[X]?=some (.cells #[.int .i64 z5.root,.int .i64 z5.unused,.int .i64 z5.free,.int .i64 z5.levels] 133 (0,0)):=by rw [hW7,hX];exact heap_alloc_new w6 _
      have HB7:Hid (Below w6.heap.size w6 W7):=Lib.hid (by rw [hW7];exact (Below.refl _ w6).alloc (Nat.le_refl _) _)
      rw [← hW7,← hX]
      obtain ⟨⟨a0,a1,a2,a3⟩,⟨f0,f1,f2,f3⟩,hXl⟩:=four_cells x7
      have T7:=Lib.hid (met_old T6.out HB7.out)
      have X7:=Lib.hid x7
      have HX:=Lib.hid hX
      have HM7:=Lib.hid (HM6.out.below HB7.out)
      have HS7:=Lib.hid (HS6.out.trans (Step.of_below HB7.out))
      have k0:W7.cell? ⟨N,0,none⟩=some (.pointer (some ⟨p.bg,0,none⟩)):=by simp [World.cell?,T7.out]
      have k1:W7.cell? ⟨N,1,none⟩=some (.int .i64 tx):=by simp [World.cell?,T7.out]
      have hNl:=cell_lt k0
      clear hW7 hX x7
      by_cases hl:20≤z5.levels
      · have hld:decide ((z5.levels:Int) ≥ 20)=true:=decide_eq_true (by omega)
        have hld':decide (20≤z5.levels)=true:=decide_eq_true hl
        have HLV:=Lib.hid hl
        clear hl
        go_wp2
        go_ret
        refine ⟨71,rfl,s6,?_,HM7.out,by have:=HT2.out;have:=HT5.out;have:=HT6.out;omega,HS7.out⟩
        rw [HP6.out]
        have hw5:=HW5.out
        rw [HDN.out] at hw5
        exact .high at_ z5 _ _ HW2.out hw5 HZ5.out HO5.out HLV.out
      · have hld:decide ((z5.levels:Int) ≥ 20)=false:=decide_eq_false (by omega)
        have hld':decide (20≤z5.levels)=false:=decide_eq_false hl
        have HLV:=Lib.hid hl
        have hwl:IntKind.i64.wrap ((z5.levels:Int)+1)=(z5.levels:Int)+1:=by rw [IntKind.wrap_i64];omega
        have hwl2:wrap64 ((z5.levels:Int)+1)=(z5.levels:Int)+1:=by unfold wrap64;omega
        have HV:Hid (metV { z5 with root:=at_,levels:=z5.levels+1 }=.agg #[.int .i64 at_,.int .i64 z5.unused,.int .i64 z5.free,.int .i64 ((z5.levels:Int)+1)]):=Lib.hid (by simp [metV])
        have hNX:¬ N=X:=by have h1:=(Array.getElem?_eq_some_iff.1 T6.out).1;have:=HX.out;omega
        have HWL:=Lib.hid hwl2
        clear hl hwl hwl2
        go_upto_region 13 with fail
        rw [HWL.out]
        have hx9:((W7.setCell ⟨X,0,none⟩ (.int .i64 at_)).setCell ⟨X,3,none⟩ (.int .i64 ((z5.levels:Int)+1))).heap[X]?=some (.cells #[.int .i64 at_,.int .i64 z5.unused,.int .i64 z5.free,.int .i64 ((z5.levels:Int)+1)] 133 (0,0)):=by
          have h1:=(heap_setCell_same W7 X 0 _ _ (.int .i64 at_) X7.out).trans rfl
          exact (heap_setCell_same _ X 3 _ _ (.int .i64 ((z5.levels:Int)+1)) h1).trans rfl
        have hu9:=(Upd.setC W7 X 0 (.int .i64 at_)).tr (Upd.setC _ X 3 (.int .i64 ((z5.levels:Int)+1)))
        revert hx9 hu9
        generalize ((W7.setCell ⟨X,0,none⟩ (.int .i64 at_)).setCell ⟨X,3,none⟩ (.int .i64 ((z5.levels:Int)+1)))=W9
        intro hx9 hu9
        have hXw:w.heap.size≤X:=by have:=HX.out;have:=HS6.out.upd.size;omega
        have hm9:=HM7.out.turn hu9 (B:=w.heap.size) (by rw [HS7.out.B];exact H.out.base) (fun j hj=>by subst hj;exact ⟨hXw,133,by decide,⟨_,X7.out⟩⟩)
        have hs9:=HS7.out.more hu9 (fun j hj=>by subst hj;exact hXw)
        have t9:=(hu9.block N (Array.getElem?_eq_some_iff.1 T7.out).1 hNX).trans T7.out
        have HM9:=Lib.hid hm9
        have HS9:=Lib.hid hs9
        clear a0 a1 a2 a3 f0 f1 f2 f3 hXl k0 k1 hNl hm9 hs9 hu9 hXw
        obtain ⟨⟨a0,a1,a2,a3⟩,-,hXl⟩:=four_cells hx9
        have k0:W9.cell? ⟨N,0,none⟩=some (.pointer (some ⟨p.bg,0,none⟩)):=by simp [World.cell?,t9]
        have k1:W9.cell? ⟨N,1,none⟩=some (.int .i64 tx):=by simp [World.cell?,t9]
        have hNl:=cell_lt k0
        go_wp2_with fail
        rw [← HV.out]
        refine (tsetmeta_any { z5 with root:=at_,levels:=z5.levels+1 } W9 HM9.out (by have:=HT.out;have:=HT2.out;have:=HT5.out;have:=HT6.out;omega) ⟨by have:=HPP.out.2;have:=HPG.out.2;show at_ < 65536;omega,by have:=HO5.out.unused;have:=HPG.out.2;show z5.unused < 65536;omega,by have:=HO5.out.free;have:=HO5.out.unused;have:=HPG.out.2;show z5.free < 65536;omega,by have:=HLV.out;show z5.levels+1 < 256;omega⟩).mono ?_
        rintro e w10 ⟨c10,s10,rfl,hw10,hm10,ht10,hs10⟩
        go_wp2
        go_ret
        refine ⟨c10,s10,rfl,?_,hm10,by have:=HT2.out;have:=HT5.out;have:=HT6.out;omega,HS9.out.trans hs10⟩
        rw [HP6.out] at hw10
        have hw5:=HW5.out
        rw [HDN.out] at hw5
        exact .meta_ at_ c10 z5 _ _ _ HW2.out hw5 HZ5.out HO5.out (by have:=HLV.out;omega) hw10
    · have hcb:((c5:Int) != 0)=true:=by simp;omega
      have HC0:=Lib.hid h5
      go_wp2_with fail
      go_ret
      have hw5:=HW5.out
      rw [HDN.out] at hw5
      exact ⟨c5,s5,rfl,.page at_ c5 _ _ HW2.out hw5 HC0.out,HM5.out,by have:=HT2.out;have:=HT5.out;omega,HS5'.out⟩
  · have hcb:((c2:Int) != 0)=true:=by simp;omega
    have HC0:=Lib.hid h0
    go_wp2_with fail
    go_ret
    exact ⟨c2,s2,rfl,.take at_ c2 _ HW2.out HC0.out,HM2.out,by have:=HT2.out;omega,HS2.out⟩
end Go.Proofs.YtheeomjfpnijbaaGreatDoor
end
section
namespace Go.Proofs.YtheeomjfpnijbaaGreatDoor
open Go.RowKit Go.Shelf
structure NdI (P:Nat) (d:Nd):Prop where
  page:1≤d.page∧d.page < P
  leaf:d.leaf=false
  cells:∀ c∈d.cells,CelOk false c
  first:d.first < 65536
  size:nb d≤108
def stpOf (key:Key) (x:StepRow):Stp:=⟨x.1,x.1.at_ key,false⟩
def stps (key:Key) (rows:List StepRow):List Stp:=(rows.map (stpOf key)).reverse
theorem stps_snoc (key:Key) (rows:List StepRow) (x:StepRow):stps key (rows++[x])=stpOf key x :: stps key rows:=by unfold stps;simp
def StepsAt (w:World) (g:Nat) (key:Key) (rows:List StepRow):Prop:=∃ cur:Array Value,w.heap[g]?=some (.cells cur 127 (0,0))∧cur.toList.take (rows.length * 6)=rows.flatMap (stepV key)
theorem StepsAt.snoc {w:World} {g:Nat} {key:Key} {rows:List StepRow} {x:StepRow} (h:StepsAt w g key (rows++[x])):StepsAt w g key rows∧∀ j v,(stepV key x)[j]?=some v→w.cell? ⟨g,rows.length * 6+j,none⟩=some v:=by
  obtain ⟨cur,h1,h2⟩:=h
  have hl:=flat_len (stepV key) 6 (stepV_length key) rows
  rw [List.flatMap_append,List.length_append] at h2
  refine ⟨⟨cur,h1,?_⟩,fun j v hv=>?_⟩
  · have:=congrArg (List.take (rows.length * 6)) h2
    rw [List.take_take,Nat.min_eq_left (by simp;omega),List.take_left' hl] at this
    exact this
  · have hj:j < 6:=(List.getElem?_eq_some_iff.1 hv).1
    have:((rows.flatMap (stepV key))++[x].flatMap (stepV key))[rows.length * 6+j]?=some v:=by
      rw [List.getElem?_append_right (by rw [hl];omega),hl]
      simpa using hv
    rw [← h2,List.getElem?_take_of_lt (by simp;omega)] at this
    simp only [World.cell?,h1]
    simpa using this
theorem ins_W {P:Nat} {d:Nd} {u:Cel} (h:NdI P d) (hu:CelOk false u) (i:Nat):NdW P { d with cells:=insC d.cells i u }:=by
  refine ⟨h.page,fun c hc=>?_,h.first,?_⟩
  · show CelOk d.leaf c
    rw [h.leaf]
    rcases List.mem_append.1 hc with hc | hc
    · exact h.cells c (List.mem_of_mem_take hc)
    · rcases List.mem_cons.1 hc with rfl | hc
      · exact hu
      · exact h.cells c (List.mem_of_mem_drop hc)
  · show nb { d with cells:=insC d.cells i u }≤if d.leaf then 136 else 123
    have h1:=(celB_sz hu).1
    have h2:=h.size
    have e:nb { d with cells:=insC d.cells i u }=nb d+(celB d.leaf u).length:=by
      show ((d.cells.take i++u :: d.cells.drop i).flatMap (celB d.leaf)).length=_
      unfold nb
      conv=>rhs;rw [← List.take_append_drop i d.cells,List.flatMap_append,List.length_append]
      rw [List.flatMap_append,List.flatMap_cons,List.length_append,List.length_append]
      omega
    rw [e,h.leaf]
    simp only [Bool.false_eq_true,if_false] at h1 ⊢
    omega
theorem up_ok {d:Nd} (hd:∀ c∈d.cells,CelOk d.leaf c) (hk:d.half < d.cells.length) {p:Nat} (hp:p < 65536):CelOk false (d.up p):=by
  unfold Nd.up
  rw [List.getElem?_eq_getElem hk]
  exact ⟨(hd _ (List.getElem_mem hk)).key,by simp,hp,fun h=>(by cases h),fun _=>rfl⟩
theorem StepsAt.keep {p:Par} {tx cap:Nat} {s:ASt} {w w':World} {N':Zone} {g:Nat} {key:Key} {rows:List StepRow} (h:StepsAt w g key rows) (hm:TM p tx cap w s) (hs:Step p s.N w N' w'):StepsAt w' g key rows:=by
  obtain ⟨cur,h1,h2⟩:=h
  exact ⟨cur,hm.keep hs h1 (by decide),h2⟩
theorem StepsAt.below {w w':World} {g:Nat} {key:Key} {rows:List StepRow} (h:StepsAt w g key rows) (hb:Below w.heap.size w w'):StepsAt w' g key rows:=by
  obtain ⟨cur,h1,h2⟩:=h
  exact ⟨cur,met_old h1 hb,h2⟩
theorem RowsAt.keep {p:Par} {tx cap:Nat} {s:ASt} {w w':World} {N':Zone} {base:Nat} {rows:List StepRow} (h:RowsAt w base rows) (hm:TM p tx cap w s) (hs:Step p s.N w N' w'):RowsAt w' base rows :=
  ⟨fun x hx=>own_step hm hs (by decide) (h.own x hx),h.apart⟩
theorem RowsAt.below {w w':World} {base:Nat} {rows:List StepRow} (h:RowsAt w base rows) (hb:Below w.heap.size w w'):RowsAt w' base rows :=
  ⟨fun x hx=>own_later (h.own x hx) hb,h.apart⟩
set_option maxRecDepth 20000 in
set_option maxHeartbeats 8000000 in
theorem tstore_any {p:Par} {tx cap:Nat} {s:ASt} (key:Key) (d:Nd) (q:Option Addr) (c base:Nat) (rows:List StepRow) (g m ca:Nat) (W0 w:World) (h:TM p tx cap w s) (ht:s.t≤500000) (hm:MetaOk p.pages (pst s).F) (hd:NdW p.pages d)
    (ho:w.ownsRow base 129 3 (.slice q d.cells.length c) d.cells.length (d.cells.flatMap celV)) (hrl:m=rows.length) (hr20:m≤20) (hca:m≤ca) (hcm:ca≤maxLen) (hst:StepsAt w g key rows) (hrows:RowsAt w base rows) (hri:∀ x∈rows,NdI p.pages x.1)
    (hs:Step p s.N W0 s.N w) (hB0:W0.heap.size≤base) (hbase:base≤w.heap.size) (hNB:s.N.B≤base) :
    Calls Tryz.prog 41 #[treeV p tx,ndV d q c,.slice (some ⟨g,0,none⟩) m ca] w fun e w'=>∃ (c:Nat) (s':ASt),e=.returned (.int .i64 c)∧StoreR cap p.pages (pst s) d (stps key rows) c (pst s')∧TM p tx cap w' s'∧s'.t≤s.t+30 * m+60∧Step p s.N W0 s'.N w':=by
  have H:=Lib.hid h
  have HT:=Lib.hid ht
  have HME:=Lib.hid hm
  have HD:=Lib.hid hd
  have HO:=Lib.hid ho
  have HRL:=Lib.hid hrl
  have HM20:=Lib.hid (And.intro hr20 (And.intro hca hcm))
  have HSA:=Lib.hid hst
  have HRW:=Lib.hid hrows
  have HRI:=Lib.hid hri
  have HS:=Lib.hid hs
  have HBS:=Lib.hid (And.intro hB0 (And.intro hbase hNB))
  have HPG:=Lib.hid h.pages
  obtain ⟨Ld,hLd⟩:∃ L,L=d.cells.length:=⟨_,rfl⟩
  have hndv:ndV d q c=.agg #[.int .i64 d.page,.bool d.leaf,.int .i64 d.first,.slice q Ld c]:=by rw [hLd];rfl
  rw [hndv]
  have HLD:=Lib.hid hLd
  unfold treeV
  clear h ht hm hd ho hrl hr20 hca hcm hst hrows hri hs hB0 hbase hNB hLd hndv
  go_enter Tryz.func41,Tryz.ntmps41
  go_upto_region 1 with fail
  obtain ⟨N,hN⟩:∃ N,N=w.heap.size:=⟨_,rfl⟩
  obtain ⟨W1,hW1⟩:∃ W1,W1=(w.alloc (.cells #[.pointer (some ⟨p.bg,0,none⟩),.int .i64 tx] 117)).alloc (.cells #[.int .i64 d.page,.bool d.leaf,.int .i64 d.first,.slice q Ld c] 125):=⟨_,rfl⟩
  have n0:W1.heap[N]?=some (.cells #[.pointer (some ⟨p.bg,0,none⟩),.int .i64 tx] 117 (0,0)):=by rw [hW1,hN];exact alloc_at (heap_alloc_new w _)
  have n1:W1.heap[N+1]?=some (.cells #[.int .i64 d.page,.bool d.leaf,.int .i64 d.first,.slice q Ld c] 125 (0,0)):=by
    rw [hW1,hN]
    have:=heap_alloc_new (w.alloc (.cells #[.pointer (some ⟨p.bg,0,none⟩),.int .i64 tx] 117)) (.cells #[.int .i64 d.page,.bool d.leaf,.int .i64 d.first,.slice q Ld c] 125)
    rwa [World.size_alloc] at this
  have HB1:Hid (Below w.heap.size w W1):=Lib.hid (by rw [hW1];exact ((Below.refl _ w).alloc (Nat.le_refl _) _).alloc (by simp) _)
  rw [← hW1,← hN]
  have HNB:Hid (base≤N):=Lib.hid (by rw [hN];exact HBS.out.2.1)
  have N0:=Lib.hid n0
  have N1:=Lib.hid n1
  clear hN hW1 n0 n1
  go_loopw [2] (fun v wr=>∃ (k:Nat) (rk:List StepRow) (d1:Nd) (q1:Option Addr) (c1 L1:Nat) (s1:ASt),v=.slice (some ⟨g,0,none⟩) k ca∧Hid (k=rk.length∧k≤m∧L1=d1.cells.length)∧Hid (∃ rr,rows=rk++rr) ∧
      Hid (wr.heap[N]?=some (.cells #[.pointer (some ⟨p.bg,0,none⟩),.int .i64 tx] 117 (0,0)))∧Hid (wr.heap[N+1]?=some (.cells #[.int .i64 d1.page,.bool d1.leaf,.int .i64 d1.first,.slice q1 L1 c1] 125 (0,0))) ∧
      Hid (NdW p.pages d1)∧Hid (wr.ownsRow base 129 3 (.slice q1 L1 c1) L1 (d1.cells.flatMap celV))∧Hid (StepsAt wr g key rk)∧Hid (RowsAt wr base rk) ∧
      Hid (TM p tx cap wr s1∧s1.t≤s.t+30 * (m - k)∧Step p s.N W0 s1.N wr∧MetaOk p.pages (pst s1).F∧(∀ e b,StoreR cap p.pages (pst s1) d1 (stps key rk) e b→StoreR cap p.pages (pst s) d (stps key rows) e b))) (fun v _=>match v with | .slice _ n _=>n | _=>0)
  case atStart =>
    refine ⟨m,rows,d,q,c,Ld,s,rfl,Lib.hid ⟨HRL.out,Nat.le_refl _,HLD.out⟩,Lib.hid ⟨[],by simp⟩,N0,N1,HD,Lib.hid ?_,Lib.hid ?_,Lib.hid ⟨fun x hx=>own_later (HRW.out.own x hx) HB1.out,HRW.out.apart⟩,Lib.hid ⟨H.out.below HB1.out,by omega,HS.out.trans (Step.of_below HB1.out),HME.out,fun _ _ h=>h⟩⟩
    · rw [HLD.out];exact own_later HO.out HB1.out
    · obtain ⟨cur,h1,h2⟩:=HSA.out
      exact ⟨cur,met_old h1 HB1.out,h2⟩
  case round =>
    obtain ⟨k,rk,d1,q1,c1,L1,s1,rfl,HK,HRR,HN0,HN1,HD1,HO1,HSA1,HRW1,HX⟩:=hrel
    obtain ⟨⟨a0,a1,a2,a3⟩,-,hNl1⟩:=four_cells HN1.out
    obtain ⟨lf,hlf⟩:∃ b,b=d1.leaf:=⟨_,rfl⟩
    obtain ⟨fs,hfs⟩:∃ b,b=d1.first:=⟨_,rfl⟩
    obtain ⟨pgn,hpgn⟩:∃ b,b=d1.page:=⟨_,rfl⟩
    rw [← hpgn] at a0
    rw [← hlf] at a1
    rw [← hfs] at a2
    have HND:Hid (ndV d1 q1 c1=.agg #[.int .i64 pgn,.bool lf,.int .i64 fs,.slice q1 L1 c1]):=Lib.hid (by rw [hlf,hfs,hpgn,HK.out.2.2];rfl)
    have HPN:=Lib.hid hpgn
    have HN1':Hid (wr.heap[N+1]?=some (.cells #[.int .i64 pgn,.bool lf,.int .i64 fs,.slice q1 L1 c1] 125 (0,0))):=Lib.hid (by rw [hpgn,hlf,hfs];exact HN1.out)
    obtain ⟨LN,hLN⟩:∃ n,n=d1.load.length:=⟨_,rfl⟩
    have HLN:=Lib.hid hLN
    have HCA:=Lib.hid (own_cells HO1.out)
    have LA:Hid (∀ W,Below wr.heap.size wr W→Calls Tryz.prog 46 #[.agg #[.int .i64 pgn,.bool lf,.int .i64 fs,.slice q1 L1 c1]] W fun e w'=>∃ v,e=.returned v∧w'.ownsRow W.heap.size 5 1 v LN (B8s d1.load)∧Below W.heap.size W w'):=Lib.hid (fun W hW=>by
      rw [← HND.out,hLN]
      exact load_any d1 q1 c1 W (by have:=HD1.out.len;omega) (fun x hx=>(HD1.out.cells x hx).sz) HD1.out.first (HCA.out.below hW))
    clear hlf hfs hpgn hLN
    go_wp2_with fail
    (with_reducible refine (LA.out wr (Below.refl _ wr)).mono ?_)
    rintro e w2 ⟨v2,rfl,ho2,hb2⟩
    obtain ⟨q2,c2,rfl,-⟩:=own_slice ho2
    have HB2:=Lib.hid hb2
    have T2:=Lib.hid (met_old HN0.out hb2)
    have D2:=Lib.hid (met_old HN1'.out hb2)
    obtain ⟨hx1,hx2,hx3,hx4,hx5⟩:=HX.out
    have HM2:=Lib.hid (hx1.below hb2)
    have HT2:=Lib.hid hx2
    have HS2:=Lib.hid (hx3.trans (Step.of_below hb2))
    have HME2:=Lib.hid hx4
    have HR2:=Lib.hid hx5
    clear ho2 hb2 a0 a1 a2 a3 hNl1 hx1 hx2 hx3 hx4 hx5 HX
    have k0:w2.cell? ⟨N,0,none⟩=some (.pointer (some ⟨p.bg,0,none⟩)):=by simp [World.cell?,T2.out]
    have k1:w2.cell? ⟨N,1,none⟩=some (.int .i64 tx):=by simp [World.cell?,T2.out]
    have hNl:=cell_lt k0
    by_cases hl:112 < LN
    · have hld:decide ((LN:Int) > 112)=true:=decide_eq_true (by omega)
      have hld':decide (112 < LN)=true:=decide_eq_true hl
      have HL:=Lib.hid hl
      clear hl
      obtain ⟨z,hz,hzo⟩:=HME2.out
      have HZ:=Lib.hid hz
      have HZO:=Lib.hid hzo
      clear hz hzo
      go_wp2_with fail
      refine (ttake_any z w2 HM2.out (by have:=HT2.out;have:=HT.out;have:=HM20.out.1;have:=HK.out.2.1;omega) HZ.out HZO.out).mono ?_
      rintro e w3 ⟨at_,c3,s3,rfl,hw3,hm3,ht3,hs3⟩
      have T3:=Lib.hid (HM2.out.keep hs3 T2.out (by decide))
      have D3:=Lib.hid (HM2.out.keep hs3 D2.out (by decide))
      have O3:=Lib.hid (own_step HM2.out hs3 (by decide) (own_later HO1.out HB2.out))
      have SA3:=Lib.hid ((HSA1.out.below HB2.out).keep HM2.out hs3)
      have RW3:=Lib.hid ((HRW1.out.below HB2.out).keep HM2.out hs3)
      have HM3:=Lib.hid hm3
      have HT3:=Lib.hid ht3
      have HW3:=Lib.hid hw3
      have HS3:=Lib.hid (HS2.out.trans hs3)
      clear hm3 ht3 hw3 hs3 k0 k1 hNl
      have k0:w3.cell? ⟨N,0,none⟩=some (.pointer (some ⟨p.bg,0,none⟩)):=by simp [World.cell?,T3.out]
      have k1:w3.cell? ⟨N,1,none⟩=some (.int .i64 tx):=by simp [World.cell?,T3.out]
      have hNl:=cell_lt k0
      obtain ⟨⟨a0,a1,a2,a3⟩,-,hNl1⟩:=four_cells D3.out
      by_cases h3:c3=0
      · subst h3
        obtain ⟨hme3,hp1,hp2⟩:=HW3.out.meta' HPG.out.2
        have HME3:=Lib.hid hme3
        have HPP:=Lib.hid (And.intro hp1 hp2)
        clear hme3 hp1 hp2
        have hl1:112 < d1.load.length:=by have:=HL.out;have:=HLN.out;omega
        have HL1:=Lib.hid hl1
        obtain ⟨hf1,hf2,hf3,hf4⟩:=half_szW HD1.out.cells hl1 HD1.out.size at_
        have HUP:=Lib.hid (up_ok HD1.out.cells hf2 (p:=at_) (by have:=HPP.out.2;have:=HPG.out.2;omega))
        clear hl1 hf1 hf2 hf3 hf4
        go_wp2_with fail
        rw [← HND.out]
        refine (tpart_any d1 at_ q1 c1 base w3 HM3.out (by have:=HT.out;have:=HT2.out;have:=HT3.out;have:=HM20.out.1;omega) HD1.out HL1.out HPP.out (by have:=O3.out;rw [HK.out.2.2] at this;exact this)).mono ?_
        rintro e w4 ⟨ux,uy,un,c4,s4,rfl,hu4,hw4,hm4,ht4,hs4⟩
        rw [HND.out]
        have T4:=Lib.hid (HM3.out.keep hs4 T3.out (by decide))
        have D4:=Lib.hid (HM3.out.keep hs4 D3.out (by decide))
        have O4:=Lib.hid (own_step HM3.out hs4 (by decide) O3.out)
        have SA4:=Lib.hid (SA3.out.keep HM3.out hs4)
        have RW4:=Lib.hid (RW3.out.keep HM3.out hs4)
        have HM4:=Lib.hid hm4
        have HT4:=Lib.hid ht4
        have HW4:=Lib.hid hw4
        have HU4:=Lib.hid hu4
        have HS4:=Lib.hid (HS3.out.trans hs4)
        clear hm4 ht4 hw4 hs4 hu4 k0 k1 hNl a0 a1 a2 a3 hNl1
        by_cases h4:c4=0
        · subst h4
          have huq:=HU4.out rfl
          have HUV:Hid (celV (d1.up at_)=[.string ux,.string uy,.int .i64 un]):=Lib.hid (by
            unfold celA' at huq
            unfold celV
            simp only [Value.agg.injEq,Array.mk.injEq,List.cons.injEq,and_true] at huq
            rw [huq.1,huq.2.1,huq.2.2])
          have HUQ:=Lib.hid huq
          have HME4:=Lib.hid (HW4.out.meta' (by have:=HD1.out.page;omega) (by have:=HPP.out;omega) HME3.out)
          clear huq
          go_upto_region 8 with fail
          obtain ⟨B9,hB9⟩:∃ B,B=w4.heap.size:=⟨_,rfl⟩
          obtain ⟨W5,hW5⟩:∃ W,W=w4.alloc (.cells #[.string ux,.string uy,.int .i64 un] 129):=⟨_,rfl⟩
          have b5:W5.heap[B9]?=some (.cells #[.string ux,.string uy,.int .i64 un] 129 (0,0)):=by rw [hW5,hB9];exact heap_alloc_new w4 _
          have HB5:Hid (Below w4.heap.size w4 W5):=Lib.hid (by rw [hW5];exact (Below.refl _ w4).alloc (Nat.le_refl _) _)
          rw [← hW5,← hB9]
          have T5:=Lib.hid (met_old T4.out HB5.out)
          have D5:=Lib.hid (met_old D4.out HB5.out)
          have U5:=Lib.hid b5
          have SA5:=Lib.hid (SA4.out.below HB5.out)
          have RW5:=Lib.hid (RW4.out.below HB5.out)
          have HM5:=Lib.hid (HM4.out.below HB5.out)
          have HS5:=Lib.hid (HS4.out.trans (Step.of_below HB5.out))
          obtain ⟨⟨e0,e1,e2⟩,-,hBl⟩:=three_cells b5
          obtain ⟨⟨a0,a1,a2,a3⟩,⟨f0,f1,f2,f3⟩,hNl1⟩:=four_cells D5.out
          have k0:W5.cell? ⟨N,0,none⟩=some (.pointer (some ⟨p.bg,0,none⟩)):=by simp [World.cell?,T5.out]
          have k1:W5.cell? ⟨N,1,none⟩=some (.int .i64 tx):=by simp [World.cell?,T5.out]
          have hNl:=cell_lt k0
          clear hW5 hB9 b5
          cases k with
          | zero =>
            have hrk:rk=[]:=List.eq_nil_of_length_eq_zero HK.out.1.symm
            have HRK:=Lib.hid hrk
            clear hrk
            go_wp2_with fail
            rw [HUQ.out]
            refine (troot_any pgn (d1.up at_) W5 HM5.out (by have:=HT.out;have:=HT2.out;have:=HT3.out;have:=HT4.out;have:=HM20.out.1;omega) HME4.out (by rw [HPN.out];have:=HD1.out.page.2;have:=HPG.out.2;omega) HUP.out).mono ?_
            rintro e w6 ⟨c6,s6,rfl,hw6,hm6,ht6,hs6⟩
            go_wp2
            go_ret
            have hsr:=HR2.out c6 (pst s6)
            rw [HRK.out] at hsr
            rw [HPN.out] at hw6
            exact ⟨c6,s6,rfl,hsr (.root _ _ at_ c6 _ _ _ HL1.out HW3.out HW4.out hw6),hm6,by have:=HT2.out;have:=HT3.out;have:=HT4.out;omega,HS5.out.trans hs6⟩
          | succ k =>
            have hsn:rk=rk.dropLast++[rk.getLast (by intro e;have:=HK.out.1;rw [e] at this;simp at this)]:=(List.dropLast_concat_getLast _).symm
            obtain ⟨rl,x,hrx⟩:∃ rl x,rk=rl++[x]:=⟨_,_,hsn⟩
            clear hsn
            subst hrx
            have hkl:rl.length=k:=by have:=HK.out.1;rw [List.length_append] at this;simp at this;omega
            obtain ⟨hsa,hxc⟩:=SA5.out.snoc
            rw [hkl] at hxc
            have g0:=hxc 0 _ rfl
            have g1:=hxc 1 _ rfl
            have g2:=hxc 2 _ rfl
            have g3:=hxc 3 _ rfl
            have g4:=hxc 4 _ rfl
            have g5:=hxc 5 _ rfl
            obtain ⟨dx,qx,cx⟩:=x
            simp only [rowV,Nat.add_zero] at g0 g1 g2 g3 g4 g5
            obtain ⟨Lx,hLx⟩:∃ n,n=dx.cells.length:=⟨_,rfl⟩
            obtain ⟨px,hpx⟩:∃ n,n=dx.page:=⟨_,rfl⟩
            obtain ⟨lx,hlx⟩:∃ n,n=dx.leaf:=⟨_,rfl⟩
            obtain ⟨fx,hfx⟩:∃ n,n=dx.first:=⟨_,rfl⟩
            obtain ⟨hx,hhx⟩:∃ n,n=(dx.hits key && dx.leaf):=⟨_,rfl⟩
            obtain ⟨A,hA⟩:∃ A:Int,A=((dx.at_ key:Nat):Int) - 1:=⟨_,rfl⟩
            rw [← hpx] at g0
            rw [← hlx] at g1
            rw [← hfx] at g2
            rw [← hLx] at g3
            rw [← hA] at g4
            rw [← hhx] at g5
            obtain ⟨KK,hKK⟩:∃ n,n=k+1:=⟨_,rfl⟩
            rw [← hKK]
            have hdx:NdI p.pages dx:=HRI.out (dx,qx,cx) (by obtain ⟨rr,e⟩:=HRR.out;rw [e];simp)
            have hxl:dx.cells.length≤54:=by
              have h1:=cells_few hdx.cells
              have h2:=hdx.size
              unfold nb at h2
              rw [hdx.leaf] at h2
              omega
            have hat:dx.at_ key≤dx.cells.length:=by
              have hle:=nle_le key (dx.cells.map (·.key))
              rw [List.length_map] at hle
              exact hle
            have hwr:wrap64 ((KK:Int) - 1)=(k:Int):=by have:=HK.out.2.1;have:=HM20.out.1;unfold wrap64;omega
            have hkK:k < KK:=by omega
            have hkK':(k:Int) < (KK:Int):=by omega
            have hkca:(k:Int)≤(ca:Int):=by have:=HK.out.2.1;have:=HM20.out.2.1;omega
            have hKK0:((KK:Int) == 0)=false:=by rw [beq_eq_false_iff_ne];omega
            have HWA:Hid (wrap64 (A+1)=((dx.at_ key:Nat):Int)):=Lib.hid (by rw [hA];unfold wrap64;omega)
            have HXX:=Lib.hid (And.intro hdx (And.intro hxl hat))
            have HNX:=Lib.hid (And.intro hpx (And.intro hlx (And.intro hfx hLx)))
            have HKK:=Lib.hid (And.intro hKK hkl)
            have HSA9:=Lib.hid hsa
            have HRX:=Lib.hid (RW5.out.own (dx,qx,cx) (by simp))
            have hgl:=cell_lt g0
            clear hdx hxl hat hpx hlx hfx hLx hKK hkl hsa hxc hA hhx
            go_upto_region 13 with fail
            obtain ⟨X,hX⟩:∃ X,X=W5.heap.size:=⟨_,rfl⟩
            obtain ⟨W7,hW7⟩:∃ W,W=(W5.alloc (.cells #[.int .i64 px,.bool lx,.int .i64 fx,.slice qx Lx cx,.int .i64 A,.bool hx] 127)).alloc (.cells #[.int .i64 px,.bool lx,.int .i64 fx,.slice qx Lx cx] 125):=⟨_,rfl⟩
            have x6:W7.heap[X]?=some (.cells #[.int .i64 px,.bool lx,.int .i64 fx,.slice qx Lx cx,.int .i64 A,.bool hx] 127 (0,0)):=by rw [hW7,hX];exact alloc_at (heap_alloc_new W5 _)
            have x7:W7.heap[X+1]?=some (.cells #[.int .i64 px,.bool lx,.int .i64 fx,.slice qx Lx cx] 125 (0,0)):=by
              rw [hW7,hX]
              have:=heap_alloc_new (W5.alloc (.cells #[.int .i64 px,.bool lx,.int .i64 fx,.slice qx Lx cx,.int .i64 A,.bool hx] 127)) (.cells #[.int .i64 px,.bool lx,.int .i64 fx,.slice qx Lx cx] 125)
              rwa [World.size_alloc] at this
            have HB7:Hid (Below W5.heap.size W5 W7):=Lib.hid (by rw [hW7];exact ((Below.refl _ W5).alloc (Nat.le_refl _) _).alloc (by simp) _)
            rw [← hW7,← hX]
            have HXE:=Lib.hid hX
            have X7:=Lib.hid x7
            have T7:=Lib.hid (met_old T5.out HB7.out)
            have D7:=Lib.hid (met_old D5.out HB7.out)
            have U7:=Lib.hid (met_old U5.out HB7.out)
            have SA7:=Lib.hid (HSA9.out.below HB7.out)
            have RW7:=Lib.hid (RW5.out.below HB7.out)
            have HM7:=Lib.hid (HM5.out.below HB7.out)
            have HS7:=Lib.hid (HS5.out.trans (Step.of_below HB7.out))
            have x64:W7.cell? ⟨X,4,none⟩=some (.int .i64 A):=by simp [World.cell?,x6]
            have hXl:=cell_lt x64
            clear hW7 hX x6 x7 g0 g1 g2 g3 g4 g5 hgl a0 a1 a2 a3 f0 f1 f2 f3 hNl1 k0 k1 hNl e0 e1 e2 hBl
            obtain ⟨⟨y0,y1,y2,y3⟩,-,hX1l⟩:=four_cells X7.out
            obtain ⟨⟨e0,e1,e2⟩,-,hBl⟩:=three_cells U7.out
            go_wp2_with fail
            rw [HWA.out]
            obtain ⟨W8,hW8⟩:∃ W,W=W7.alloc (.cells #[.string ux,.string uy,.int .i64 un] 129):=⟨_,rfl⟩
            have v8:W8.heap[W7.heap.size]?=some (.cells (celV (d1.up at_)).toArray 129 (0,0)):=by rw [hW8,HUV.out];exact heap_alloc_new W7 _
            have HB8:Hid (Below W7.heap.size W7 W8):=Lib.hid (by rw [hW8];exact (Below.refl _ W7).alloc (Nat.le_refl _) _)
            rw [← hW8]
            have hrx7:W7.ownsRow base 129 3 (.slice qx Lx cx) Lx (dx.cells.flatMap celV):=by
              have:=RW7.out.own (dx,qx,cx) (by simp)
              rw [HNX.out.2.2.2]
              exact this
            have HRX8:=Lib.hid (own_later hrx7 HB8.out)
            have hne8:(Value.slice qx Lx cx).ownBlock ≠ some W7.heap.size:=fun e=>by have:=(hrx7.lt _ e).2;omega
            have hsz8:base≤W8.heap.size:=by have h1:=HB8.out.size;have h2:=HB7.out.size;have h3:=HB5.out.size;have h4:=(Array.getElem?_eq_some_iff.1 T4.out).1;have h5:=HNB.out;omega
            refine (insert_any qx Lx cx (dx.at_ key) dx.cells (d1.up at_) W7.heap.size base W8 HRX8.out v8 hne8 hsz8 (by rw [HNX.out.2.2.2];have:=HXX.out.2.1;omega) (by rw [HNX.out.2.2.2];exact HXX.out.2.2)).mono ?_
            rintro e w9 ⟨q9,c9,rfl,ho9,hu9,hb9⟩
            have hkp:∀ (j:Nat) (t:TypeId) (cs:Array Value),W7.heap[j]?=some (.cells cs t (0,0))→t ≠ 129→w9.heap[j]?=some (.cells cs t (0,0)):=fun j t cs hj hne=>by
              have h8:=met_old hj HB8.out
              exact (hu9.block j (Array.getElem?_eq_some_iff.1 h8).1 (own_ne HRX8.out h8 hne)).trans h8
            have T9:=Lib.hid (hkp _ _ _ T7.out (by decide))
            have D9:=Lib.hid (hkp _ _ _ D7.out (by decide))
            have X9:=Lib.hid (hkp _ _ _ X7.out (by decide))
            have SA9:Hid (StepsAt w9 g key rl):=Lib.hid (by obtain ⟨cur,h1,h2⟩:=SA7.out;exact ⟨cur,hkp _ _ _ h1 (by decide),h2⟩)
            have RW9:Hid (RowsAt w9 base rl):=Lib.hid (by
              have hap:=RW7.out.apart
              rw [List.pairwise_append] at hap
              refine ⟨fun y hy=>own_updO (own_later (RW7.out.own y (by simp [hy])) HB8.out) hu9 (fun j hj _ hj2=>absurd hj.symm ?_),hap.1⟩
              have h1:=hap.2.2 y hy (dx,qx,cx) (by simp) j hj2.symm
              intro h2
              exact h1 (by show (Value.slice qx dx.cells.length cx).ownBlock=some j;rw [← HNX.out.2.2.2];exact h2))
            have HO9:=Lib.hid ho9
            have hty:∀ j,some j=(Value.slice qx Lx cx).ownBlock→base≤j∧∃ t,FreeM t∧Typed W8 j t:=fun j hj=>⟨own_ge HRX8.out hj,129,by decide,own_ty HRX8.out hj⟩
            have HM9:=Lib.hid ((HM7.out.below HB8.out).turn hu9 (B:=base) (by have:=HS7.out.B;rw [this,← HS.out.B];exact HBS.out.2.2) hty)
            have HS9:=Lib.hid ((HS7.out.trans (Step.of_below HB8.out)).more hu9 (fun j hj=>Nat.le_trans HBS.out.1 (hty j hj).1))
            clear hW8 v8 hrx7 hne8 hsz8 ho9 hu9 hb9 hkp hty y0 y1 y2 y3 hX1l e0 e1 e2 hBl x64 hXl
            obtain ⟨⟨y0,y1,y2,y3⟩,⟨f0,f1,f2,f3⟩,hX1l⟩:=four_cells X9.out
            obtain ⟨⟨a0,a1,a2,a3⟩,⟨b0,b1,b2,b3⟩,hNl1⟩:=four_cells D9.out
            have hNX:¬ N+1=X+1:=by have h1:=HXE.out;have h2:=(Array.getElem?_eq_some_iff.1 D5.out).1;omega
            have hXN:¬ X+1=N+1:=fun e=>hNX e.symm
            have HNX1:=Lib.hid hNX
            have hx10:(((((w9.setCell ⟨X+1,3,none⟩ (.slice q9 (Lx+1) c9)).setCell ⟨N+1,0,none⟩ (.int .i64 px)).setCell ⟨N+1,1,none⟩ (.bool lx)).setCell ⟨N+1,2,none⟩ (.int .i64 fx)).setCell ⟨N+1,3,none⟩ (.slice q9 (Lx+1) c9)).heap[N+1]?=some (.cells #[.int .i64 px,.bool lx,.int .i64 fx,.slice q9 (Lx+1) c9] 125 (0,0)) :=
              four_set ((heap_setCell_other w9 ⟨X+1,3,none⟩ (N+1) _ hNX).trans D9.out)
            have hu10:=(Upd.setC w9 (X+1) 3 (.slice q9 (Lx+1) c9)).trans (four_upd (w9.setCell ⟨X+1,3,none⟩ (.slice q9 (Lx+1) c9)) (N+1) (.int .i64 px) (.bool lx) (.int .i64 fx) (.slice q9 (Lx+1) c9))
            have HX10:=Lib.hid hx10
            have HU10:=Lib.hid hu10
            clear hx10 hu10
            go_wp2
            go_roundw
            case rel =>
              have hne:∀ (j:Nat) (t:TypeId) (cs:Array Value),w9.heap[j]?=some (Obj.cells cs t (0,0))→t ≠ 125→¬ (j=X+1 ∨ j=N+1):=fun j t cs hj ht he=>by
                rcases he with rfl | rfl
                · rw [X9.out] at hj;cases hj;exact ht rfl
                · rw [D9.out] at hj;cases hj;exact ht rfl
              have hkp:∀ (j:Nat) (t:TypeId) (cs:Array Value),w9.heap[j]?=some (Obj.cells cs t (0,0))→t ≠ 125→(((((w9.setCell ⟨X+1,3,none⟩ (.slice q9 (Lx+1) c9)).setCell ⟨N+1,0,none⟩ (.int .i64 px)).setCell ⟨N+1,1,none⟩ (.bool lx)).setCell ⟨N+1,2,none⟩ (.int .i64 fx)).setCell ⟨N+1,3,none⟩ (.slice q9 (Lx+1) c9)).heap[j]?=some (Obj.cells cs t (0,0)):=fun j t cs hj ht=>(HU10.out.block j (Array.getElem?_eq_some_iff.1 hj).1 (hne j t cs hj ht)).trans hj
              have htyN:∀ j,(j=X+1 ∨ j=N+1)→Typed w9 j 125:=fun j hj=>by
                rcases hj with rfl | rfl
                · exact ⟨_,X9.out⟩
                · exact ⟨_,D9.out⟩
              have hbj:∀ j,(j=X+1 ∨ j=N+1)→base≤j:=fun j hj=>by
                have h1:=HNB.out
                have h2:=HXE.out
                have h3:=(Array.getElem?_eq_some_iff.1 D5.out).1
                omega
              refine ⟨k,rl,{ dx with cells:=insC dx.cells (dx.at_ key) (d1.up at_) },q9,c9,Lx+1,s4,rfl,Lib.hid ⟨HKK.out.2.symm,by have:=HK.out.2.1;omega,?_⟩,Lib.hid ?_,Lib.hid (hkp _ _ _ T9.out (by decide)),Lib.hid ?_,Lib.hid (ins_W HXX.out.1 HUP.out _),Lib.hid (own_upd HO9.out HU10.out (fun j hj ht=>absurd (ht.one (htyN j hj)) (by decide))),Lib.hid ?_,Lib.hid ⟨fun y hy=>own_upd (RW9.out.own y hy) HU10.out (fun j hj ht=>absurd (ht.one (htyN j hj)) (by decide)),RW9.out.apart⟩,Lib.hid ⟨?_,?_,?_,HME4.out,fun e b hsr=>?_⟩⟩
              · show Lx+1=(insC dx.cells (dx.at_ key) (d1.up at_)).length
                unfold insC
                rw [List.length_append,List.length_cons,List.length_take,List.length_drop,HNX.out.2.2.2]
                have:=HXX.out.2.2
                omega
              · obtain ⟨rr,e⟩:=HRR.out
                exact ⟨(dx,qx,cx) :: rr,by rw [e];simp⟩
              · have h1:=HX10.out
                rw [HNX.out.1,HNX.out.2.1,HNX.out.2.2.1] at h1
                rw [HNX.out.1,HNX.out.2.1,HNX.out.2.2.1]
                exact h1
              · obtain ⟨cur,h1,h2⟩:=SA9.out
                exact ⟨cur,hkp _ _ _ h1 (by decide),h2⟩
              · exact HM9.out.turn HU10.out (B:=base) (by have:=HS9.out.B;rw [this,← HS.out.B];exact HBS.out.2.2) (fun j hj=>⟨hbj j hj,125,by decide,htyN j hj⟩)
              · have h1:=HT2.out
                have h2:=HT3.out
                have h3:=HT4.out
                have h4:=HK.out.2.1
                omega
              · exact HS9.out.more HU10.out (fun j hj=>Nat.le_trans HBS.out.1 (hbj j hj))
              · have h1:=HR2.out e b
                rw [stps_snoc] at h1
                exact h1 (.up _ _ _ _ at_ e _ _ _ HL1.out HW3.out HW4.out hsr)
            case measure =>
              have:=HKK.out.1
              simp
              try omega
        · have hcb:((c4:Int) != 0)=true:=by simp;omega
          have HC0:=Lib.hid h4
          go_wp2_with fail
          go_ret
          have hb5:Below w4.heap.size w4 (w4.alloc (.cells #[.string ux,.string uy,.int .i64 un] 129)):=(Below.refl _ w4).alloc (Nat.le_refl _) _
          exact ⟨c4,s4,rfl,HR2.out _ _ (.part _ _ _ at_ c4 _ _ HL1.out HW3.out HW4.out HC0.out),HM4.out.below hb5,by have:=HT2.out;have:=HT3.out;have:=HT4.out;omega,HS4.out.trans (Step.of_below hb5)⟩
      · have hcb:((c3:Int) != 0)=true:=by simp;omega
        have HC0:=Lib.hid h3
        go_wp2_with fail
        go_ret
        exact ⟨c3,s3,rfl,HR2.out _ _ (.take _ _ _ at_ c3 _ (by have:=HL.out;have:=HLN.out;omega) HW3.out HC0.out),HM3.out,by have:=HT2.out;have:=HT3.out;omega,HS3.out⟩
    · have hld:decide ((LN:Int) > 112)=false:=decide_eq_false (by omega)
      have hld':decide (112 < LN)=false:=decide_eq_false hl
      have HL:=Lib.hid hl
      clear hl
      obtain ⟨⟨a0,a1,a2,a3⟩,-,hNl1⟩:=four_cells D2.out
      have S0:=Lib.hid (boxes8 T2.out D2.out)
      have HT0:Hid (Below w2.heap.size w2 w2.drew):=Lib.hid (below_drewN' w2 1)
      have HW0:=Lib.hid (chainC HB2.out HT0.out)
      go_wp2_with fail
      go_region_held3 (fun w'=>w'.cell? ⟨N,0,none⟩=some (.pointer (some ⟨p.bg,0,none⟩))∧w'.cell? ⟨N,1,none⟩=some (.int .i64 tx)∧w'.cell? ⟨N+1,0,none⟩=some (.int .i64 pgn)∧w'.cell? ⟨N+1,1,none⟩=some (.bool lf)∧w'.cell? ⟨N+1,2,none⟩=some (.int .i64 fs)∧w'.cell? ⟨N+1,3,none⟩=some (.slice q1 L1 c1))
        (first | exact S0.out | exact S1.out | exact S2.out)
        (first
          | (go_at_call 46;(with_reducible refine (LA.out _ ?_).mono ?_);(first | exact HW0.out);rintro e w6 ⟨v6,rfl,ho6,hb6⟩;obtain ⟨q6,c6,rfl,-⟩:=own_slice ho6;have HR6:=Lib.hid (own_rdv ho6);have HB6:Hid (Below w2.heap.size w2 w6):=Lib.hid (chainC HT0.out hb6);have HM6:=Lib.hid (HM2.out.below HB6.out);have S1:=Lib.hid (boxes8 (met_old T2.out HB6.out) (met_old D2.out HB6.out));clear ho6 hb6)
          | (go_at_call 45;refine (twrite_any pgn LN c6 q6 d1.load _ HM6.out (by rw [HPN.out];exact HD1.out.page.2) (by have:=HT.out;have:=HT2.out;have:=HM20.out.1;omega) HLN.out.symm (by have:=HL.out;omega) HR6.out).mono ?_;rintro e w7 ⟨c7,s7,rfl,hw7,hm7,ht7,hs7⟩;have HW7:=Lib.hid hw7;have HM7:=Lib.hid hm7;have HT7:=Lib.hid ht7;have HS7:=Lib.hid hs7;have S2:=Lib.hid (boxes8 (HM6.out.keep hs7 (met_old T2.out HB6.out) (by decide)) (HM6.out.keep hs7 (met_old D2.out HB6.out) (by decide)));clear hw7 hm7 ht7 hs7))
      go_wp2
      go_ret
      have hw7:=HW7.out
      rw [HPN.out] at hw7
      exact ⟨c7,s7,rfl,HR2.out _ _ (.fits _ _ _ c7 _ (by have:=HL.out;have:=HLN.out;omega) hw7),HM7.out,by have:=HT2.out;have:=HT7.out;omega,(HS2.out.trans (Step.of_below HB6.out)).trans HS7.out⟩
end Go.Proofs.YtheeomjfpnijbaaGreatDoor
end
section
namespace Go.Proofs.YtheeomjfpnijbaaGreatDoor
open Go.RowKit Go.Shelf
def putC (key val:Key) (d:Nd):List Cel:=if d.hits key then d.cells.set (d.at_ key - 1) ⟨key,val,0⟩ else insC d.cells (d.at_ key) ⟨key,val,0⟩
theorem own_steps {w:World} {base n c g:Nat} {key:Key} {rows:List StepRow} (h:w.ownsRow base 127 6 (.slice (some ⟨g,0,none⟩) n c) n (rows.flatMap (stepV key))) (hn:rows.length=n):StepsAt w g key rows:=by
  obtain ⟨hl,⟨e,-⟩ | ⟨g',cap,cur,e,-,hg,-,-,-,ht⟩⟩:=h
  · cases e
  · cases e
    exact ⟨cur,hg,by rw [hn];exact ht⟩
theorem flat_set (v:Key):∀ (l:List Cel) (k:Nat) (hk:k < l.length),(l.flatMap celV).set (k * 3+1) (.string (bstr v))=(l.set k { l[k] with val:=v }).flatMap celV:=by
  intro l
  induction l with
  | nil=>intro k hk;simp at hk
  | cons c l ih =>
    intro k hk
    cases k with
    | zero=>rfl
    | succ k =>
      rw [List.flatMap_cons,List.set_cons_succ,List.flatMap_cons]
      have e:=celV_length c
      rw [List.set_append,if_neg (by omega)]
      have:(k+1) * 3+1 - (celV c).length=k * 3+1:=by omega
      rw [this,ih k (by simpa using hk)]
      rfl
theorem own_setval {w:World} {base n c b:Nat} {l:List Cel} (h:w.ownsRow base 129 3 (.slice (some ⟨b,0,none⟩) n c) n (l.flatMap celV)) (v:Key) {k:Nat} (hk:k < l.length):(w.setCell ⟨b,k * 3+1,none⟩ (.string (bstr v))).ownsRow base 129 3 (.slice (some ⟨b,0,none⟩) n c) n ((l.set k { l[k] with val:=v }).flatMap celV):=by
  obtain ⟨hl,⟨e,-⟩ | ⟨g',cap,cur,e,hb,hg,h1,h2,h3,h4⟩⟩:=h
  · cases e
  · cases e
    refine ⟨by rw [flat_len celV 3 celV_length,List.length_set,← hl,flat_len celV 3 celV_length],.inr ⟨b,c,_,rfl,hb,heap_setCell_same w b (k * 3+1) _ _ _ hg,h1,h2,by simpa using h3,?_⟩⟩
    rw [Array.toList_setIfInBounds,List.take_set,h4,flat_set v l k hk]
theorem boxes26 {W:World} {N X:Nat} {t1 t2:TypeId} {a b c d e f x y:Value} (h1:W.heap[N]?=some (.cells #[a,b] t1 (0,0))) (h2:W.heap[X]?=some (.cells #[c,d,e,f,x,y] t2 (0,0))) :
    W.cell? ⟨N,0,none⟩=some a∧W.cell? ⟨N,1,none⟩=some b∧W.cell? ⟨X,0,none⟩=some c∧W.cell? ⟨X,1,none⟩=some d∧W.cell? ⟨X,2,none⟩=some e∧W.cell? ⟨X,3,none⟩=some f:=by
  simp [World.cell?,h1,h2]
theorem set_nb {α β:Type} (f:α→List β) (c:α):∀ (l:List α) (k:Nat),((l.set k c).flatMap f).length≤(l.flatMap f).length+(f c).length:=by
  intro l
  induction l with
  | nil=>intro k;simp
  | cons x l ih =>
    intro k
    cases k with
    | zero=>simp only [List.set_cons_zero,List.flatMap_cons,List.length_append];omega
    | succ k=>have:=ih k;simp only [List.set_cons_succ,List.flatMap_cons,List.length_append];omega
theorem putC_W {P:Nat} {F:Nat→List UInt8} {d:Nd} {key val:Key} (h:Holds P F d) (hl:d.leaf=true) (hk:1≤key.length∧key.length≤12) (hv:val.length≤12):NdW P { d with cells:=putC key val d }:=by
  have hc:CelOk true ⟨key,val,0⟩:=⟨hk,hv,by show 0 < 65536;decide,fun _=>rfl,fun h=>by cases h⟩
  have hnb:nb d≤110:=by
    have h1:=load_nb d
    have h2:=h.load
    rw [hl] at h1
    simp only [if_true] at h1
    omega
  have h26:=(celB_sz hc).1
  simp only [if_true] at h26
  refine ⟨h.page,fun c hm=>?_,h.ok.first,?_⟩
  · show CelOk d.leaf c
    have hm':c∈putC key val d:=hm
    unfold putC at hm'
    split at hm'
    · rcases List.mem_or_eq_of_mem_set hm' with hm' | rfl
      · exact h.ok.cells c hm'
      · rw [hl];exact hc
    · rcases List.mem_append.1 hm' with hm' | hm'
      · exact h.ok.cells c (List.mem_of_mem_take hm')
      · rcases List.mem_cons.1 hm' with rfl | hm'
        · rw [hl];exact hc
        · exact h.ok.cells c (List.mem_of_mem_drop hm')
  · show ((putC key val d).flatMap (celB d.leaf)).length≤if d.leaf then 136 else 123
    rw [hl]
    unfold nb at hnb
    rw [hl] at hnb
    simp only [if_true]
    unfold putC
    split
    · have:=set_nb (celB true) ⟨key,val,0⟩ d.cells (d.at_ key - 1)
      omega
    · show ((d.cells.take (d.at_ key)++_ :: d.cells.drop (d.at_ key)).flatMap (celB true)).length≤136
      have e:(d.cells.flatMap (celB true)).length=((d.cells.take (d.at_ key)).flatMap (celB true)).length+((d.cells.drop (d.at_ key)).flatMap (celB true)).length:=by
        conv=>lhs;rw [← List.take_append_drop (d.at_ key) d.cells,List.flatMap_append,List.length_append]
      rw [List.flatMap_append,List.flatMap_cons,List.length_append,List.length_append]
      omega
set_option maxRecDepth 20000 in
set_option maxHeartbeats 8000000 in
theorem tput_any {p:Par} {tx cap:Nat} {s:ASt} (key val:Key) (ds:List Nd) (d:Nd) (z:Met) (w:World) (h:TM p tx cap w s) (ht:s.t≤400000) (hz:(pst s).F 0=pad z.load) (ho:MetOk p.pages z) (hk:1≤key.length∧key.length≤12) (hv:val.length≤12) (htr:Trail p.pages (pst s).F key z.root (ds++[d])) (hl:ds.length+1=z.levels) (hlf:d.leaf=true) (hd:Holds p.pages (pst s).F d) (hds:∀ x∈ds,NdI p.pages x) :
    Calls Tryz.prog 10 #[.pointer (some ⟨p.bg,0,none⟩),.int .i64 tx,.string (bstr key),.string (bstr val)] w fun e w'=>∃ (c:Nat) (s':ASt),e=.returned (.int .i64 c)∧StoreR cap p.pages (pst s) { d with cells:=putC key val d } (ds.map fun x=>(⟨x,x.at_ key,false⟩:Stp)).reverse c (pst s') ∧
      TM p tx cap w' s'∧s'.t≤s.t+1000∧Step p s.N w s'.N w':=by
  have H:=Lib.hid h
  have HT:=Lib.hid ht
  have HZ:=Lib.hid hz
  have HO:=Lib.hid ho
  have HK:=Lib.hid hk
  have HTR:=Lib.hid htr
  have HL:=Lib.hid hl
  have HLF:=Lib.hid hlf
  have HD:=Lib.hid hd
  have HV:=Lib.hid hv
  have HDS:=Lib.hid hds
  have HPG:=Lib.hid h.pages
  clear h ht hz ho hk htr hl hlf hd hv hds
  go_enter Tryz.func10,Tryz.ntmps10
  go_wp2_with fail
  refine (made_any w H.out).mono ?_
  rintro e w1 ⟨rfl,hb1⟩
  unfold treeV
  have HB1:=Lib.hid hb1
  clear hb1
  go_upto_region 4 with fail
  obtain ⟨N,hN⟩:∃ N,N=w1.heap.size:=⟨_,rfl⟩
  obtain ⟨W2,hW2⟩:∃ W,W=w1.alloc (.cells #[.pointer (some ⟨p.bg,0,none⟩),.int .i64 tx] 117):=⟨_,rfl⟩
  have n2:W2.heap[N]?=some (.cells #[.pointer (some ⟨p.bg,0,none⟩),.int .i64 tx] 117 (0,0)):=by rw [hW2,hN];exact heap_alloc_new w1 _
  have HB2:Hid (Below w.heap.size w W2):=Lib.hid (by rw [hW2];exact HB1.out.alloc HB1.out.size _)
  rw [← hW2,← hN]
  have N2:=Lib.hid n2
  have k0:W2.cell? ⟨N,0,none⟩=some (.pointer (some ⟨p.bg,0,none⟩)):=by simp [World.cell?,n2]
  have k1:W2.cell? ⟨N,1,none⟩=some (.int .i64 tx):=by simp [World.cell?,n2]
  have hlt:=cell_lt k0
  have HM2:=Lib.hid (H.out.below HB2.out)
  clear hW2 hN n2
  go_wp2_with fail
  refine (fit_any key W2 HK.out).mono ?_
  rintro e w3 ⟨rfl,rfl⟩
  have hvs:((bstr val).size:Int)=(val.length:Int):=by rw [bstr_size]
  have hv12:decide ((val.length:Int) > 12)=false:=decide_eq_false (by have:=HV.out;omega)
  have hv12':decide (12 < val.length)=false:=decide_eq_false (by have:=HV.out;omega)
  go_wp2_with fail
  refine (path_any key (ds++[d]) z w3 HM2.out (by have:=HT.out;omega) HZ.out HO.out HTR.out (by rw [List.length_append];exact HL.out)).mono ?_
  rintro e w4 ⟨q4,c4,rows4,s4,hfst,rfl,ho4,hr4,hm4,hp4,ht4,hn4,hs4⟩
  obtain ⟨rows,x,rfl,hx1,hx2⟩:∃ rows x,rows4=rows++[x]∧rows.map (·.1)=ds∧x.1=d:=by
    have hne:rows4 ≠ []:=by rintro rfl;simp at hfst
    refine ⟨rows4.dropLast,rows4.getLast hne,(List.dropLast_concat_getLast hne).symm,?_,?_⟩
    · rw [List.map_dropLast,hfst];simp
    · have:=congrArg List.getLast? hfst
      rw [List.getLast?_map,List.getLast?_eq_some_getLast hne] at this
      simpa using this
  obtain ⟨d',q5,c5⟩:=x
  obtain rfl:d'=d:=hx2
  obtain ⟨i,hi⟩:∃ i,i=ds.length:=⟨_,rfl⟩
  obtain ⟨L,hL⟩:∃ L,L=(ds++[d']).length:=⟨_,rfl⟩
  have hLi:L=i+1:=by rw [hL,List.length_append,hi];rfl
  rw [← hL] at ho4 ht4 ⊢
  obtain ⟨g,rfl,g1,g2,g3,g4,g5⟩:=last_step ho4 (by rw [hi,← hx1,List.length_map]) hLi
  have hsteps:=own_steps ho4 (show (rows++[(d',q5,c5)]).length=L by rw [hLi,List.length_append,hi,← hx1,List.length_map];rfl)
  have hrlen:rows.length=i:=by rw [hi,← hx1,List.length_map]
  rw [hn4] at hs4
  have T4:=Lib.hid (HM2.out.keep hs4 N2.out (by decide))
  have HSP:=Lib.hid (And.intro hsteps (And.intro hrlen hx1))
  have HG:=Lib.hid (And.intro g1 (And.intro g2 (And.intro g3 g4)))
  have hL20:L≤20:=by have:=HO.out.levels;have:=HL.out;omega
  have hwr:wrap64 ((L:Int) - 1)=(i:Int):=by unfold wrap64;omega
  have hiL:i < L:=by omega
  have hiL':(i:Int) < (L:Int):=by omega
  have HLI:=Lib.hid (And.intro hLi hL20)
  obtain ⟨Ld,hLd⟩:∃ L,L=d'.cells.length:=⟨_,rfl⟩
  obtain ⟨A,hA⟩:∃ A:Int,A=((d'.at_ key:Nat):Int) - 1:=⟨_,rfl⟩
  obtain ⟨lf,hlf⟩:∃ b,b=d'.leaf:=⟨_,rfl⟩
  obtain ⟨ht,hht⟩:∃ b,b=(d'.hits key && d'.leaf):=⟨_,rfl⟩
  have c0:=g5 0 _ rfl
  have c1:=g5 1 _ rfl
  have c2:=g5 2 _ rfl
  have c3:=g5 3 _ rfl
  have c4':=g5 4 _ rfl
  have c5':=g5 5 _ rfl
  simp only [rowV,Nat.add_zero] at c0 c1 c2 c3 c4' c5'
  rw [← hLd] at c3
  rw [← hA] at c4'
  rw [← hht] at c5'
  rw [← hlf] at c1
  have hlt4:=cell_lt c0
  have HR4:=Lib.hid hr4
  have HM4:=Lib.hid hm4
  have HP4:=Lib.hid hp4
  have HT4:=Lib.hid ht4
  have HN4:=Lib.hid hn4
  have HS4:=Lib.hid ((Step.of_below HB2.out).trans hs4)
  have HLD:=Lib.hid hLd
  have HA:=Lib.hid hA
  have HHT:=Lib.hid hht
  clear hL hLi hL20 hi hsteps hrlen hfst hx1 ho4 g1 g2 g3 g4 g5 hr4 hm4 hp4 ht4 hn4 hs4 hLd hA hht k0 k1 hlt
  obtain ⟨px,hpx⟩:∃ n,n=d'.page:=⟨_,rfl⟩
  obtain ⟨fx,hfx⟩:∃ n,n=d'.first:=⟨_,rfl⟩
  rw [← hpx] at c0
  rw [← hfx] at c2
  have HPX:=Lib.hid (And.intro hpx hfx)
  have hlft:lf=true:=by rw [hlf];exact HLF.out
  clear hpx hfx hlf
  subst hlft
  go_upto_if 46 with fail
  obtain ⟨B,hB⟩:∃ B,B=w4.heap.size:=⟨_,rfl⟩
  obtain ⟨W5,hW5⟩:∃ W,W=w4.alloc (.cells #[.int .i64 px,.bool true,.int .i64 fx,.slice q5 Ld c5,.int .i64 A,.bool ht] 127):=⟨_,rfl⟩
  have x5:W5.heap[B]?=some (.cells #[.int .i64 px,.bool true,.int .i64 fx,.slice q5 Ld c5,.int .i64 A,.bool ht] 127 (0,0)):=by rw [hW5,hB];exact heap_alloc_new w4 _
  have HB5:Hid (Below w4.heap.size w4 W5):=Lib.hid (by rw [hW5];exact (Below.refl _ w4).alloc (Nat.le_refl _) _)
  rw [← hW5,← hB]
  have HBE:=Lib.hid hB
  have X5:=Lib.hid x5
  obtain ⟨b3,hb3⟩:∃ b,b=w3.heap.size:=⟨_,rfl⟩
  have HB3E:Hid (w.heap.size≤b3∧b3≤w4.heap.size):=Lib.hid ⟨by rw [hb3];exact HB2.out.size,by rw [hb3];have h1:=(Array.getElem?_eq_some_iff.1 HG.out.2.2.2.choose_spec).1;have:=HG.out.2.2.1;omega⟩
  rw [← hb3] at HR4 HG
  have HRO:Hid (W5.ownsRow b3 129 3 (.slice q5 Ld c5) Ld (d'.cells.flatMap celV)):=Lib.hid (by
    have:=HR4.out.own (d',q5,c5) (by simp)
    rw [HLD.out]
    exact own_later this HB5.out)
  have T5:=Lib.hid (met_old T4.out HB5.out)
  obtain ⟨hsa,-⟩:=HSP.out.1.snoc
  have SA5:=Lib.hid (hsa.below HB5.out)
  have RW5:=Lib.hid (HR4.out.below HB5.out)
  have HM5:=Lib.hid (HM4.out.below HB5.out)
  have HS5:=Lib.hid (HS4.out.trans (Step.of_below HB5.out))
  have hlen55:Ld≤55:=by rw [HLD.out];exact cells_len HD.out.ok HD.out.load
  have HL55:=Lib.hid hlen55
  clear hB hW5 x5 hb3 hsa hlen55 c0 c1 c2 c3 c4' c5' hlt4 hvs hv12 hv12'
  go_cut [] (fun wx=>∃ (q':Option Addr) (L' cc:Nat),Hid (wx.heap[B]?=some (.cells #[.int .i64 px,.bool true,.int .i64 fx,.slice q' L' cc,.int .i64 A,.bool ht] 127 (0,0)))∧Hid (L'=(putC key val d').length∧wx.ownsRow b3 129 3 (.slice q' L' cc) L' ((putC key val d').flatMap celV)) ∧
      Hid (wx.heap[N]?=some (.cells #[.pointer (some ⟨p.bg,0,none⟩),.int .i64 tx] 117 (0,0)))∧Hid (StepsAt wx g key rows∧RowsAt wx b3 rows)∧Hid (TM p tx cap wx s4∧Step p s.N w s.N wx))
  case first =>
    have HHT0:=HHT
    have HX6:(W5.cell? ⟨B,0,none⟩=some (.int .i64 px)∧W5.cell? ⟨B,3,none⟩=some (.slice q5 Ld c5)∧W5.cell? ⟨B,4,none⟩=some (.int .i64 A))∧W5.frozen? ⟨B,3,none⟩=false∧B < W5.heap.size:=⟨⟨by simp [World.cell?,X5.out],by simp [World.cell?,X5.out],by simp [World.cell?,X5.out]⟩,frozenC X5.out,(Array.getElem?_eq_some_iff.1 X5.out).1⟩
    obtain ⟨⟨x0,x3,x4⟩,xf,xl⟩:=HX6
    cases ht
    · have hno:d'.hits key=false:=by have:=HHT0.out;rw [HLF.out,Bool.and_true] at this;exact this.symm
      have hat:d'.at_ key≤d'.cells.length:=by
        have hle:=nle_le key (d'.cells.map (·.key))
        rw [List.length_map] at hle
        exact hle
      have HWA:Hid (wrap64 (A+1)=((d'.at_ key:Nat):Int)):=Lib.hid (by rw [HA.out];have:=HL55.out;rw [HLD.out] at this;unfold wrap64;omega)
      have HNO:=Lib.hid (And.intro hno hat)
      clear hno hat
      go_wp2_with fail
      rw [HWA.out]
      obtain ⟨W8,hW8⟩:∃ W,W=W5.alloc (.cells #[.string (bstr key),.string (bstr val),.int .i64 0] 129):=⟨_,rfl⟩
      have v8:W8.heap[W5.heap.size]?=some (.cells (celV ⟨key,val,0⟩).toArray 129 (0,0)):=by rw [hW8];exact heap_alloc_new W5 _
      have HB8:Hid (Below W5.heap.size W5 W8):=Lib.hid (by rw [hW8];exact (Below.refl _ W5).alloc (Nat.le_refl _) _)
      rw [← hW8]
      have HRX8:=Lib.hid (own_later HRO.out HB8.out)
      have hne8:(Value.slice q5 Ld c5).ownBlock ≠ some W5.heap.size:=fun e=>by have:=(HRO.out.lt _ e).2;omega
      have hsz8:b3≤W8.heap.size:=by have h1:=HB8.out.size;have h2:=HB5.out.size;have h3:=HB3E.out.2;omega
      refine (insert_any q5 Ld c5 (d'.at_ key) d'.cells ⟨key,val,0⟩ W5.heap.size b3 W8 HRX8.out v8 hne8 hsz8 (by have:=HL55.out;omega) (by rw [HLD.out];exact HNO.out.2)).mono ?_
      rintro e w9 ⟨q9,c9,rfl,ho9,hu9,hb9⟩
      have hkp:∀ (j:Nat) (t:TypeId) (cs:Array Value),W5.heap[j]?=some (.cells cs t (0,0))→t ≠ 129→w9.heap[j]?=some (.cells cs t (0,0)):=fun j t cs hj hne=>by
        have h8:=met_old hj HB8.out
        exact (hu9.block j (Array.getElem?_eq_some_iff.1 h8).1 (own_ne HRX8.out h8 hne)).trans h8
      have X9:=Lib.hid (hkp _ _ _ X5.out (by decide))
      have HKP:=Lib.hid hkp
      have HO9:=Lib.hid ho9
      have HU9:=Lib.hid hu9
      clear x0 x3 x4 xf xl hW8 v8 hne8 hsz8 ho9 hu9 hb9 hkp
      have x3:w9.cell? ⟨B,3,none⟩=some (.slice q5 Ld c5):=by simp [World.cell?,X9.out]
      have xf:w9.frozen? ⟨B,3,none⟩=false:=frozenC X9.out
      have xl:=cell_lt x3
      go_wp2
      go_meet
      have hu10:=Upd.setC w9 B 3 (.slice q9 (Ld+1) c9)
      have htyB:Typed w9 B 127:=⟨_,X9.out⟩
      have hput:putC key val d'=insC d'.cells (d'.at_ key) ⟨key,val,0⟩:=by unfold putC;rw [if_neg (by rw [HNO.out.1];decide)]
      have hty:∀ j,some j=(Value.slice q5 Ld c5).ownBlock→b3≤j∧∃ t,FreeM t∧Typed W8 j t:=fun j hj=>⟨own_ge HRX8.out hj,129,by decide,own_ty HRX8.out hj⟩
      have hBb:b3≤B:=by rw [HBE.out];exact HB3E.out.2
      have hgB:¬ g=B:=fun e=>by have h1:=(Array.getElem?_eq_some_iff.1 HG.out.2.2.2.choose_spec).1;have:=HBE.out;omega
      refine ⟨q9,Ld+1,c9,Lib.hid ((heap_setCell_same w9 B 3 _ _ _ X9.out).trans rfl),Lib.hid ⟨?_,?_⟩,Lib.hid ((hu10.block N (Array.getElem?_eq_some_iff.1 (HKP.out _ _ _ T5.out (by decide))).1 (fun e=>by have h1:Typed w9 B 117:=⟨_,e ▸ HKP.out _ _ _ T5.out (by decide)⟩;exact absurd (h1.one htyB) (by decide))).trans (HKP.out _ _ _ T5.out (by decide))),Lib.hid ⟨?_,?_,?_⟩,Lib.hid ⟨?_,?_⟩⟩
      · rw [hput];unfold insC;rw [List.length_append,List.length_cons,List.length_take,List.length_drop,HLD.out];have:=HNO.out.2;omega
      · rw [hput];exact own_upd HO9.out hu10 (fun j hj ht=>by subst hj;exact absurd (ht.one htyB) (by decide))
      · obtain ⟨cur,h1,h2⟩:=SA5.out
        have h3:=HKP.out _ _ _ h1 (by decide)
        exact ⟨cur,(hu10.block g (Array.getElem?_eq_some_iff.1 h3).1 hgB).trans h3,h2⟩
      · intro y hy
        refine own_upd (own_updO (own_later (RW5.out.own y (by simp [hy])) HB8.out) HU9.out (fun j hj _ hj2=>absurd hj2.symm ?_)) hu10 (fun j hj ht=>by subst hj;exact absurd (ht.one htyB) (by decide))
        have hap:=RW5.out.apart
        rw [List.pairwise_append] at hap
        have h1:=hap.2.2 y hy (d',q5,c5) (by simp) j
        intro h2
        refine h1 h2 ?_
        show (Value.slice q5 d'.cells.length c5).ownBlock=some j
        rw [← HLD.out]
        exact hj.symm
      · have hap:=RW5.out.apart
        rw [List.pairwise_append] at hap
        exact hap.1
      · exact ((HM5.out.below HB8.out).turn HU9.out (B:=b3) (by rw [HN4.out];exact Nat.le_trans H.out.base HB3E.out.1) hty).turn hu10 (B:=b3) (by rw [HN4.out];exact Nat.le_trans H.out.base HB3E.out.1) (fun j hj=>by subst hj;exact ⟨hBb,127,by decide,htyB⟩)
      · exact ((HS5.out.trans (Step.of_below HB8.out)).more HU9.out (fun j hj=>Nat.le_trans HB3E.out.1 (hty j hj).1)).more hu10 (fun j hj=>by subst hj;exact Nat.le_trans HB3E.out.1 hBb)
    · have hyes:d'.hits key=true:=by have:=HHT0.out;rw [HLF.out,Bool.and_true] at this;exact this.symm
      obtain ⟨cl,hc1,hc2,hc3,hc4⟩:=hit_at HD.out.ok hyes
      obtain ⟨k,hk⟩:∃ k,k=d'.at_ key - 1:=⟨_,rfl⟩
      have hkl:k < d'.cells.length:=by omega
      obtain ⟨b,cp,cur,eq,hbb,hg5,hln,hcc,hlc,hcm⟩:=own3 HRO.out (by rw [HLD.out];omega)
      cases eq
      have hAk:A=(k:Int):=by rw [HA.out];omega
      subst hAk
      have hkL:k < Ld:=by rw [HLD.out];exact hkl
      have hkL':(k:Int) < (Ld:Int):=by omega
      have hcel:=own_cells HRO.out
      obtain ⟨b',o',e',-,f1,-⟩:=hcel.cell hkl
      cases e'
      obtain ⟨ov,hov⟩:∃ s,s=bstr (d'.cells[k]'hkl).val:=⟨_,rfl⟩
      rw [Nat.zero_add,← hov] at f1
      have f1f:W5.frozen? ⟨b,k * 3+1,none⟩=false:=frozenC hg5
      have hbl:=cell_lt f1
      have hbB:¬ B=b:=fun e=>by
        have h1:Typed W5 b 127:=⟨_,e ▸ X5.out⟩
        have h2:Typed W5 b 129:=⟨_,hg5⟩
        exact absurd (h1.one h2) (by decide)
      have HH5:=Lib.hid (And.intro hyes (And.intro hc1 (And.intro hc2 (And.intro hk hkl))))
      have HG5:=Lib.hid hg5
      clear hov hyes hc1 hc2 hc3 hc4 hk hkl hbb hg5 hln hcc hlc hcm hcel
      go_wp2
      go_meet
      have hu:=Upd.setC W5 b (k * 3+1) (.string (bstr val))
      have hty:Typed W5 b 129:=⟨_,HG5.out⟩
      have hkl:=HH5.out.2.2.2.2
      have hsv:=own_setval HRO.out val hkl
      have hce:({ (d'.cells[k]'hkl) with val:=val }:Cel)=⟨key,val,0⟩:=by
        have h1:=HH5.out.2.1
        rw [← HH5.out.2.2.2.1,List.getElem?_eq_getElem hkl] at h1
        have h2:=Option.some.inj h1
        have h3:=HH5.out.2.2.1
        have h4:=(HD.out.ok.cells _ (List.getElem_mem hkl)).isLeaf HLF.out
        rw [← h2] at h3
        cases hc:d'.cells[k]'hkl with
        | mk a b' c =>
          rw [hc] at h3 h4
          simp only at h3 h4
          rw [h3,h4]
      rw [hce] at hsv
      have hput:putC key val d'=d'.cells.set k ⟨key,val,0⟩:=by unfold putC;rw [if_pos HH5.out.1,← HH5.out.2.2.2.1]
      refine ⟨some ⟨b,0,none⟩,Ld,c5,Lib.hid ((hu.block B (Array.getElem?_eq_some_iff.1 X5.out).1 hbB).trans X5.out),Lib.hid ⟨by rw [hput,List.length_set,HLD.out],by rw [hput];exact hsv⟩,Lib.hid ((hu.block N (Array.getElem?_eq_some_iff.1 T5.out).1 (fun e=>by have h1:Typed W5 b 117:=⟨_,e ▸ T5.out⟩;exact absurd (h1.one hty) (by decide))).trans T5.out),Lib.hid ⟨?_,?_,?_⟩,Lib.hid ⟨?_,?_⟩⟩
      · obtain ⟨cur,h1,h2⟩:=SA5.out
        exact ⟨cur,(hu.block g (Array.getElem?_eq_some_iff.1 h1).1 (fun e=>by have h3:Typed W5 b 127:=⟨_,e ▸ h1⟩;exact absurd (h3.one hty) (by decide))).trans h1,h2⟩
      · intro y hy
        refine own_updO (RW5.out.own y (by simp [hy])) hu (fun j hj _ hj2=>absurd hj2.symm ?_)
        have hap:=RW5.out.apart
        rw [List.pairwise_append] at hap
        have h1:=hap.2.2 y hy (d',some ⟨b,0,none⟩,c5) (by simp) j
        intro h2
        exact h1 h2 (by rw [hj];rfl)
      · have hap:=RW5.out.apart
        rw [List.pairwise_append] at hap
        exact hap.1
      · exact HM5.out.turn hu (B:=b3) (by rw [HN4.out];exact Nat.le_trans H.out.base HB3E.out.1) (fun j hj=>by subst hj;exact ⟨own_ge HRO.out rfl,129,by decide,hty⟩)
      · exact HS5.out.more hu (fun j hj=>by subst hj;exact Nat.le_trans HB3E.out.1 (own_ge HRO.out rfl))
  case rest =>
    obtain ⟨q',L',cc,HX6,HO6,HT6,HSR6,HM6⟩:=hcut
    obtain ⟨dd,hdd⟩:∃ dd:Nd,dd={ d' with cells:=putC key val d' }:=⟨_,rfl⟩
    have HDD:=Lib.hid hdd
    have hnd:ndV dd q' cc=.agg #[.int .i64 px,.bool true,.int .i64 fx,.slice q' L' cc]:=by
      rw [hdd,HPX.out.1,HPX.out.2,HO6.out.1]
      show Value.agg #[_,.bool d'.leaf,_,_]=_
      rw [HLF.out]
    have HND:=Lib.hid hnd
    have HW:Hid (NdW p.pages dd):=Lib.hid (by rw [hdd];exact putC_W HD.out HLF.out HK.out HV.out)
    have hI:i≤20:=by have:=HLI.out;omega
    have hic:(i:Int)≤(c4:Int):=by have:=HG.out.1;omega
    have hwr2:IntKind.i64.wrap ((L:Int) - 1)=(i:Int):=by rw [IntKind.wrap_i64];have:=HLI.out;omega
    have hi0:(0:Int)≤(i:Int):=by omega
    have hiLc:i≤c4:=by omega
    have SG:Hid (∀ W,Below wc.heap.size wc W→Calls Tryz.prog 41 #[.agg #[.pointer (some ⟨p.bg,0,none⟩),.int .i64 tx],.agg #[.int .i64 px,.bool true,.int .i64 fx,.slice q' L' cc],.slice (some ⟨g,0,none⟩) i c4] W fun e w'=>∃ (c:Nat) (s':ASt),e=.returned (.int .i64 c)∧StoreR cap p.pages (pst s4) dd (stps key rows) c (pst s')∧TM p tx cap w' s'∧s'.t≤s4.t+30 * i+60∧Step p s4.N w s'.N w'):=Lib.hid (fun W hW=>by
      rw [← HND.out]
      refine tstore_any key dd q' cc b3 rows g i c4 w W (HM6.out.1.below hW) (by have:=HT4.out;have:=HT.out;have:=HLI.out;omega) ?_ HW.out ?_ HSP.out.2.1.symm hI (by have:=HG.out.1;have:=HLI.out;omega) HG.out.2.1 (HSR6.out.1.below hW) (HSR6.out.2.below hW) ?_ (by rw [HN4.out];exact HM6.out.2.trans (Step.of_below hW)) HB3E.out.1 ?_ (by rw [HN4.out];exact Nat.le_trans H.out.base HB3E.out.1)
      · rw [HP4.out];exact ⟨z,HZ.out,HO.out⟩
      · have h1:=HO6.out.2
        rw [HO6.out.1] at h1
        rw [HDD.out]
        exact own_later h1 hW
      · intro x hx
        exact HDS.out x.1 (by rw [← HSP.out.2.2];exact List.mem_map.2 ⟨x,hx,rfl⟩)
      · have h1:=hW.size;have h2:=(Array.getElem?_eq_some_iff.1 HX6.out).1;have h3:=HBE.out;have h4:=HB3E.out.2;omega)
    have S0:=Lib.hid (boxes26 HT6.out HX6.out)
    have HT0:Hid (Below wc.heap.size wc wc.drew):=Lib.hid (below_drewN' wc 1)
    clear hdd hnd hI
    go_wp2_with fail
    obtain ⟨x0,x1,x2,x3,x4,x5⟩:=S0.out
    have hxl:=cell_lt x0
    have hxl2:=cell_lt x2
    go_region_law (first
      | (go_simp;go_at_call 41;(with_reducible refine (SG.out _ ?_).mono ?_);(first | exact HT0.out);rintro e w7 ⟨c7,s7,rfl,hw7,hm7,ht7,hs7⟩;have HW7:=Lib.hid hw7;have HM7:=Lib.hid hm7;have HT7:=Lib.hid ht7;have HS7:=Lib.hid hs7;clear hw7 hm7 ht7 hs7))
    all_goals go_wp2
    all_goals go_ret
    all_goals
      refine ⟨c7,rfl,s7,?_,HM7.out,by have:=HT7.out;have:=HT4.out;have:=HLI.out;omega,by have:=HS7.out;rw [HN4.out] at this;exact this⟩
      have h1:=HW7.out
      rw [HP4.out,HDD.out] at h1
      have h2:stps key rows=(ds.map fun x=>(⟨x,x.at_ key,false⟩:Stp)).reverse:=by
        unfold stps
        rw [← HSP.out.2.2,List.map_map]
        rfl
      rw [← h2]
      exact h1
end Go.Proofs.YtheeomjfpnijbaaGreatDoor
end
section
namespace Go.Proofs.YtheeomjfpnijbaaGreatDoor
open Go.RowKit Go.Shelf
theorem insK_eq (key val:Key):∀ l:List (Key × Key),Rise l→insK key val l=if key∈l.map (·.1) then l.set (nle key (l.map (·.1)) - 1) (key,val) else l.take (nle key (l.map (·.1)))++(key,val) :: l.drop (nle key (l.map (·.1))):=by
  intro l
  induction l with
  | nil=>intro _;rfl
  | cons x l ih =>
    intro h
    obtain ⟨h1,h2⟩:=Rise.cons.1 h
    by_cases hlt:key < x.1
    · have hn:nle key ((x :: l).map (·.1))=0:=if_pos hlt
      have hm:key ∉ (x :: l).map (·.1):=fun hm=>by
        rcases List.mem_cons.1 hm with e | hm
        · exact k_irrefl _ (show key < key from (show key=x.1 from e) ▸ hlt)
        · obtain ⟨z,hz,e⟩:=List.mem_map.1 hm
          have:=k_trans hlt (h1 z hz)
          rw [e] at this
          exact k_irrefl _ this
      rw [insK,if_pos hlt,if_neg hm,hn]
      rfl
    · have hn:nle key ((x :: l).map (·.1))=nle key (l.map (·.1))+1:=if_neg hlt
      by_cases he:x.1=key
      · have h0:nle key (l.map (·.1))=0:=by
          cases l with
          | nil=>rfl
          | cons u l=>have:=h1 u (by simp);rw [he] at this;exact if_pos this
        rw [insK,if_neg hlt,if_pos he,if_pos (by simp [he]),hn,h0]
        rfl
      · have hm:(key∈(x :: l).map (·.1)) ↔ key∈l.map (·.1):=by
          rw [List.map_cons,List.mem_cons]
          exact ⟨fun h=>h.resolve_left (fun e=>he e.symm),.inr⟩
        rw [insK,if_neg hlt,if_neg he,ih h2,hn]
        simp only [hm]
        split
        · rename_i hmm
          have hpos:1≤nle key (l.map (·.1)):=(nle_hit key _ h2 hmm).1
          have:nle key (l.map (·.1))+1 - 1=(nle key (l.map (·.1)) - 1)+1:=by omega
          rw [this,List.set_cons_succ]
        · rw [List.take_succ_cons,List.drop_succ_cons,List.cons_append]
theorem leaf_keys (t:Tr 0):t.nd.cells.map (·.key)=t.2.map (·.1):=by show ((t.2.map fun x=>(⟨x.1,x.2,0⟩:Cel)).map (·.key))=_;rw [List.map_map];rfl
theorem putC_ins (key val:Key) (t:Tr 0) (h:Rise t.2):({ t.nd with cells:=putC key val t.nd }:Nd)=(Tr.ins key val t).nd:=by
  have e:putC key val t.nd=(insK key val t.2).map celOf:=by
    rw [insK_eq key val t.2 h]
    unfold putC Nd.hits Nd.at_
    rw [leaf_keys]
    by_cases hm:key∈t.2.map (·.1)
    · rw [if_pos hm,if_pos (by simpa using hm)]
      show (t.2.map celOf).set _ _=_
      rw [List.map_set]
      rfl
    · rw [if_neg hm,if_neg (by simpa using hm)]
      show insC (t.2.map celOf) _ _=_
      rw [List.map_append,List.map_cons,List.map_take,List.map_drop]
      rfl
  rw [e]
  rfl
theorem Tr.ups_eq (key:Key):∀ {n:Nat} (t:Tr n) (acc:List Stp),t.ups key acc=((t.path key).dropLast.map fun x=>(⟨x,x.at_ key,false⟩:Stp)).reverse++acc
  | 0,t,acc=>rfl
  | n+1,t,acc=>by
    have h3:=(Tr.path_ups key (t.sub key) []).2.2
    have hne:(t.sub key).path key ≠ []:=by intro e;rw [e] at h3;simp at h3
    have e:t.path key=Tr.nd (n:=n+1) t :: (t.sub key).path key:=rfl
    show (t.sub key).ups key (⟨Tr.nd (n:=n+1) t,Nd.at_ (Tr.nd (n:=n+1) t) key,false⟩ :: acc)=_
    rw [Tr.ups_eq key (t.sub key),e,List.dropLast_cons_of_ne_nil hne]
    simp
theorem Tr.path_inner (key:Key):∀ {n:Nat} (t:Tr n),∀ d∈(t.path key).dropLast,d∈t.nds∧d.leaf=false
  | 0,t,d,hd=>by simp [path] at hd
  | n+1,t,d,hd=>by
    have h3:=(Tr.path_ups key (t.sub key) []).2.2
    have hne:(t.sub key).path key ≠ []:=by intro e;rw [e] at h3;simp at h3
    have e:t.path key=Tr.nd (n:=n+1) t :: (t.sub key).path key:=rfl
    rw [e,List.dropLast_cons_of_ne_nil hne] at hd
    rcases List.mem_cons.1 hd with rfl | hd
    · exact ⟨t.nd_mem,rfl⟩
    · obtain ⟨a,b⟩:=Tr.path_inner key (t.sub key) d hd
      exact ⟨t.sub_nds key a,b⟩
theorem Holds.inner {P:Nat} {F:Nat→List UInt8} {d:Nd} (h:Holds P F d) (hl:d.leaf=false):NdI P d:=by
  refine ⟨h.page,hl,fun c hc=>by have:=h.ok.cells c hc;rwa [hl] at this,h.ok.first,?_⟩
  have h1:=load_nb d
  have h2:=h.load
  rw [hl] at h1
  simp only [Bool.false_eq_true,if_false] at h1
  omega
theorem put_law {p:Par} {tx cap:Nat} {s:ASt} {X:Nat→Prop} {z:Met} {fl:List Nat} {n:Nat} {t:Tr n} (key val:Key) (w:World) (h:TM p tx cap w s) (hT:Tree p.pages (pst s).F X z fl t) (ht:s.t≤400000) (hk:1≤key.length∧key.length≤12) (hv:val.length≤12) :
    Calls Tryz.prog 10 #[.pointer (some ⟨p.bg,0,none⟩),.int .i64 tx,.string (bstr key),.string (bstr val)] w fun e w'=>∃ (c:Nat) (s':ASt) (m:Nat) (T:Tr m) (X':Nat→Prop) (z':Met) (fl':List Nat),e=.returned (.int .i64 c)∧PutT p.pages key val (pst s) (pst s') X t c T X' z' fl' ∧
      TM p tx cap w' s'∧s'.t≤s.t+1000∧Step p s.N w s'.N w':=by
  obtain ⟨h1,h2,h3⟩:=Tr.path_ups key t []
  have hne:t.path key ≠ []:=by intro e;rw [e] at h3;simp at h3
  have hlast:(t.path key).getLast hne=(t.lf key).nd:=by
    rw [List.getLast?_eq_some_getLast hne] at h2
    exact Option.some.inj h2
  have hsplit:(t.path key).dropLast++[(t.lf key).nd]=t.path key:=by rw [← hlast];exact List.dropLast_concat_getLast hne
  have htr:=Tr.trail (P:=p.pages) (F:=(pst s).F) key t hT.live.holds
  rw [← hT.root,← hsplit] at htr
  have hlen:(t.path key).dropLast.length+1=z.levels:=by rw [List.length_dropLast,h3,hT.levels];rfl
  refine (tput_any key val (t.path key).dropLast (t.lf key).nd z w h ht hT.env.z0 hT.env.ok hk hv htr hlen rfl (hT.live.holds _ (t.lf_mem key)) (fun x hx=>by
    obtain ⟨a,b⟩:=Tr.path_inner key t x hx
    exact (hT.live.holds x a).inner b)).mono ?_
  rintro e w' ⟨c,s',rfl,hs,hm,ht',hst⟩
  obtain ⟨pre,post,-,-,-,hrise⟩:=t.lf_flat key [] none hT.live.ord (InB.any key)
  rw [putC_ins key val (t.lf key) hrise] at hs
  have hups:=t.ups_eq key []
  rw [List.append_nil] at hups
  rw [← hups] at hs
  obtain ⟨m,T,X',z',fl',hP⟩:=put_tree hk hv hT hs
  exact ⟨c,s',m,T,X',z',fl',rfl,hP,hm,ht',hst⟩
end Go.Proofs.YtheeomjfpnijbaaGreatDoor
end
section
namespace Go.Proofs.YtheeomjfpnijbaaGreatDoor
open Go.RowKit Go.Shelf
theorem range_law {p:Par} {tx cap:Nat} {s:ASt} {X:Nat→Prop} {z:Met} {fl:List Nat} {n:Nat} {t:Tr n} (from_:Key) (most:Int) (w:World) (h:TM p tx cap w s) (hT:Tree p.pages (pst s).F X z fl t) (ht:s.t+1+t.nds.length≤700000) (hsz:t.flat.length≤100000) :
    Calls Tryz.prog 11 #[.pointer (some ⟨p.bg,0,none⟩),.int .i64 tx,.string (bstr from_),.int .i64 most] w (RangeQ p tx cap s w t.nds.length (upTo most [] (fromK from_ t.flat))) :=
  trange_any t from_ most z w h ht hT.env.z0 hT.env.ok hT.root hT.levels hT.live.holds hT.live.ord hsz
end Go.Proofs.YtheeomjfpnijbaaGreatDoor
end
section
namespace Go.Proofs.YtheeomjfpnijbaaGreatDoor
open Go.RowKit Go.Shelf
set_option maxRecDepth 20000
set_option maxHeartbeats 2000000
theorem fit_no (key:Key) (w:World) (hk:¬ (1≤key.length∧key.length≤12)) :
    Calls Tryz.prog 38 #[.string (bstr key)] w fun e w'=>e=.returned (.bool false)∧w'=w:=by
  by_cases hne:key=[]
  · subst hne
    have h1:(bstr []).toList=[]:=by rw [bstr_list]
    have h5:(bstr []).toList.isEmpty=true:=by rw [bstr_list];rfl
    clear hk
    go_enter Tryz.func38,Tryz.ntmps38
    go_wp2
    go_ret
    exact ⟨rfl,rfl⟩
  · have hlen:12 < key.length:=by
      have:1≤key.length:=List.length_pos_iff.2 hne
      omega
    have h1:¬ (bstr key).toList=[]:=by rw [bstr_list];exact hne
    have h5:(bstr key).toList.isEmpty=false:=by rw [bstr_list];simpa using hne
    clear hne
    have h2:((bstr key).size:Int)=(key.length:Int):=by rw [bstr_size]
    have h3:decide ((key.length:Int)≤12)=false:=decide_eq_false (by omega)
    have h4:decide (key.length≤12)=false:=decide_eq_false (by omega)
    clear hk hlen
    go_enter Tryz.func38,Tryz.ntmps38
    go_wp2
    go_ret
    exact ⟨rfl,rfl⟩
theorem put_unfit {p:Par} {tx cap:Nat} {s:ASt} (key val:Key) (w:World) (h:TM p tx cap w s) (hk:¬ (1≤key.length∧key.length≤12) ∨ 12 < val.length) :
    Calls Tryz.prog 10 #[.pointer (some ⟨p.bg,0,none⟩),.int .i64 tx,.string (bstr key),.string (bstr val)] w fun e w'=>e=.returned (.int .i64 70)∧Below w.heap.size w w':=by
  have H:=Lib.hid h
  have HK:=Lib.hid hk
  clear h hk
  go_enter Tryz.func10,Tryz.ntmps10
  go_wp2_with fail
  refine (made_any w H.out).mono ?_
  rintro e w1 ⟨rfl,hb1⟩
  unfold treeV
  have HB1:=Lib.hid hb1
  clear hb1
  have HB2:Hid (Below w.heap.size w (w1.alloc (.cells #[.pointer (some ⟨p.bg,0,none⟩),.int .i64 tx] 117))):=Lib.hid (HB1.out.alloc HB1.out.size _)
  by_cases hf:1≤key.length∧key.length≤12
  · have hv:12 < val.length:=by rcases HK.out with h | h;exact absurd hf h;exact h
    have HF:=Lib.hid hf
    have hvs:((bstr val).size:Int)=(val.length:Int):=by rw [bstr_size]
    have hv12:decide ((val.length:Int) > 12)=true:=decide_eq_true (by omega)
    have hv12':decide (12 < val.length)=true:=decide_eq_true hv
    clear hf hv
    go_wp2_with fail
    refine (fit_any key _ HF.out).mono ?_
    rintro e w3 ⟨rfl,rfl⟩
    go_wp2
    go_ret
    exact ⟨rfl,HB2.out⟩
  · have HF:=Lib.hid hf
    clear hf
    go_wp2_with fail
    refine (fit_no key _ HF.out).mono ?_
    rintro e w3 ⟨rfl,rfl⟩
    go_wp2
    go_ret
    exact ⟨rfl,HB2.out⟩
end Go.Proofs.YtheeomjfpnijbaaGreatDoor
end
