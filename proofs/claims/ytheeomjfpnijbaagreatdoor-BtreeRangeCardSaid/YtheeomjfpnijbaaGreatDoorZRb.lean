/- Lemmas: RefIn, RefIn2, RefGet. -/
import Derived.Test.YtheeomjfpnijbaaGreatDoorZRa
set_option linter.unusedVariables false
section
namespace Go.Proofs.YtheeomjfpnijbaaGreatDoor
open Go.RowKit
set_option maxRecDepth 20000
theorem refdecode_zero (p:Option Addr) (c:Nat) (w:World) (hr:Rd w p (zeros 128)) (hc:128≤c) (hm:c≤maxLen) :
    Calls Tryz.prog 212 #[.slice p 128 c] w fun e w'=>∃ v,e=.returned (.tuple #[.int .i64 0,v,.int .i64 0])∧w'.ownsRow w.heap.size 5 1 v 112 (B8s (zeros 112))∧Below w.heap.size w w':=by
  refine (refdecode_any p 128 c (zeros 128) w (by simp [zeros]) hr hc hm).mono ?_
  rintro e w' ⟨hq,hb⟩
  have hz:allZ (zeros 128)=true:=by decide
  have he:decE (zeros 128)=0:=by
    unfold decE
    rw [if_neg (by simp [zeros]),if_pos hz]
  have hl:decL (zeros 128)=0:=decL_zero hz (by simp [zeros])
  have hp:decP (zeros 128)=zeros 112:=decP_zero hz (by simp [zeros])
  rcases hq with ⟨-,v,rfl,ho⟩ | ⟨hne,-⟩
  · rw [hl,hp] at *
    exact ⟨v,rfl,ho,hb⟩
  · exact absurd he hne
section
variable {N:Nat→Prop} {q:RPar} {bs:List DBuf}
def RInQ (N:Nat→Prop) (q:RPar) (w:World) (bs:List DBuf) (n:Nat) (w':World):Prop :=
  ∃ (pre:List DBuf) (b:DBuf),b.page=n∧b.load=cd bs n∧(∀ m,cd (pre++[b]) m=cd bs m)∧pre.length≤bs.length∧RPool N q w' (pre++[b])∧Upd (PS q w) w w'
theorem mem_take_drop {bs:List DBuf} {i:Nat} {b:DBuf} (hb:bs[i]?=some b) (x:DBuf):x∈bs ↔ x∈bs.take i++bs.drop (i+1)++[b]:=by
  obtain ⟨hi,e⟩:=List.getElem?_eq_some_iff.1 hb
  have h:bs=bs.take i++b :: bs.drop (i+1):=by
    rw [← e]
    conv=>lhs;rw [← List.take_append_drop i bs]
    rw [List.drop_eq_getElem_cons hi]
  constructor
  · intro hx
    rw [h] at hx
    simp only [List.mem_append,List.mem_cons,List.not_mem_nil,or_false] at hx ⊢
    rcases hx with hx | hx | hx
    · exact .inl (.inl hx)
    · exact .inr hx
    · exact .inl (.inr hx)
  · intro hx
    rw [h]
    simp only [List.mem_append,List.mem_cons,List.not_mem_nil,or_false] at hx ⊢
    rcases hx with (hx | hx) | hx
    · exact .inl hx
    · exact .inr (.inr hx)
    · exact .inr (.inl hx)
theorem nodup_last {bs:List DBuf} (h:(bs.map (·.page)).Nodup) {i:Nat} {b:DBuf} (hb:bs[i]?=some b):((bs.take i++bs.drop (i+1)++[b]).map (·.page)).Nodup:=by
  obtain ⟨hi,e⟩:=List.getElem?_eq_some_iff.1 hb
  have h1:bs=bs.take i++b :: bs.drop (i+1):=by
    rw [← e]
    conv=>lhs;rw [← List.take_append_drop i bs]
    rw [List.drop_eq_getElem_cons hi]
  rw [h1] at h
  refine (List.Perm.nodup_iff ?_).1 h
  refine List.Perm.map _ ?_
  rw [List.append_assoc]
  exact List.Perm.append_left _ (List.perm_append_singleton b _).symm
theorem in_end1 {b0 n c i L:Nat} {w W w3:World} {lv:Value} {qq:Option Addr} {b:DBuf} (h:RPoolB N q b0 w bs) (hB:q.B≤w.heap.size) (hb:bs[i]?=some b) (hw:RPoolB N q w.heap.size W (bs.take i++bs.drop (i+1))) (hu:Upd (PS q w) w W)
    (a:W.heap[q.bq]?=some (.cells #[.pointer (some ⟨q.x,0,none⟩),.pointer (some ⟨q.bl,0,none⟩),.int .i64 q.logs,.int .i64 q.pages,.int .i64 64,lv] 254 (0,0)))
    (hlv:W.ownsRow w.heap.size 251 5 lv L ((bs.take i++bs.drop (i+1)).flatMap dbCells)) (hL:L=(bs.take i++bs.drop (i+1)).length)
    {W1:World} (hb1:Below W.heap.size W W1) (ho:w3.ownsRow w.heap.size 251 5 (.slice qq n c) n ((bs.take i++bs.drop (i+1)).flatMap dbCells++dbCells b)) (hg:W1.grownBy w3 lv.ownBlock) (hn:n=L+1):RInQ N q w bs b.page (w3.setCell ⟨q.bq,5,none⟩ (.slice qq n c)):=by
  have hlt:=(Array.getElem?_eq_some_iff.1 a).1
  have hu1:Upd (PS q W) W W1:=PS.of hb1
  have hty:∀ k,some k=lv.ownBlock→Typed W k 251:=fun k hk=>own_typed hlv hk
  have hlt2:∀ k,some k=lv.ownBlock→k < W.heap.size:=fun k hk=>by obtain ⟨cs,hc⟩:=hty k hk;exact (Array.getElem?_eq_some_iff.1 hc).1
  have hu2:Upd (PS q W) W w3:=by
    refine hu1.trans' (Upd.of_grown hg) (fun j hj hk=>?_)
    exact ⟨Nat.le_trans hB (own_ge hlv hk),.inr (hty j hk)⟩
  have a3:w3.heap[q.bq]?=some (.cells #[.pointer (some ⟨q.x,0,none⟩),.pointer (some ⟨q.bl,0,none⟩),.int .i64 q.logs,.int .i64 q.pages,.int .i64 64,lv] 254 (0,0)):=by
    refine ((Upd.of_grown hg).block q.bq (Nat.lt_of_lt_of_le hlt hb1.size) (fun e=>?_)).trans ((hb1.block _ hlt).trans a)
    exact absurd ((hty _ e).one ⟨_,a⟩) (by decide)
  have hu3:Upd (PS q W) W (w3.setCell ⟨q.bq,5,none⟩ (.slice qq n c)):=hu2.trans' (Upd.setC w3 q.bq 5 _) (fun j hj e=>by subst e;exact ⟨q.hq,.inl ⟨_,a⟩⟩)
  have hne:∀ gg,(Value.slice qq n c).ownBlock=some gg→gg ≠ q.bq:=fun gg hgg e=>by
    subst e
    obtain ⟨cs,hc⟩:=own_typed ho hgg.symm
    rw [a3] at hc
    cases hc
  have ho3:(w3.setCell ⟨q.bq,5,none⟩ (.slice qq n c)).ownsRow w.heap.size 251 5 (.slice qq n c) n ((bs.take i++bs.drop (i+1)).flatMap dbCells++dbCells b):=own_updO ho (Upd.setC w3 q.bq 5 _) (fun k hk _ hkk _=>by subst hk;exact hne _ hkk.symm rfl)
  have hbm:b∈bs:=List.mem_of_getElem? hb
  have hl:=(h.loads b hbm)
  have hnd:=nodup_last h.once hb
  refine ⟨bs.take i++bs.drop (i+1),b,rfl,(cd_mem h.once hbm).symm,fun m=>cd_same h.once hnd (mem_take_drop hb) m,?_,?_,PS.trans hu hu3⟩
  · rw [List.length_append,List.length_take,List.length_drop]
    have:=(List.getElem?_eq_some_iff.1 hb).1
    omega
  · refine RPoolB.less (b:=w.heap.size) ?_ hB
    refine hw.put hu3 (pool_set5 a3) ?_ (fun x hx=>?_) hnd
    · rw [List.flatMap_append,List.flatMap_cons,List.flatMap_nil,List.append_nil,List.length_append,List.length_singleton,← hL,← hn]
      exact ho3
    · rcases List.mem_append.1 hx with hx | hx
      · exact .inl hx
      · rw [List.mem_singleton.1 hx]
        exact .inr ⟨hl.1.upd (PS.trans hu hu3) (fun k hk ht=>by rcases hk.2 with hk | hk <;> exact absurd (hk.one ht) (by decide)),hl.2⟩
theorem in_end2 {n c L pg:Nat} {w W1 w3:World} {lv v:Value} {qq:Option Addr} (h:RPool N q w bs) (hne:∀ b∈bs,b.page ≠ pg) (hp:pg < q.pages)
    (a:w.heap[q.bq]?=some (.cells #[.pointer (some ⟨q.x,0,none⟩),.pointer (some ⟨q.bl,0,none⟩),.int .i64 q.logs,.int .i64 q.pages,.int .i64 64,lv] 254 (0,0)))
    (hlv:w.ownsRow q.B 251 5 lv L (bs.flatMap dbCells)) (hL:L=bs.length) (hb1:Below w.heap.size w W1) (hv:Byt W1 N v (zeros 112)) (ho:w3.ownsRow q.B 251 5 (.slice qq n c) n (bs.flatMap dbCells++dbCells ⟨pg,0,0,v,zeros 112⟩)) (hg:W1.grownBy w3 lv.ownBlock) (hn:n=L+1):RInQ N q w bs pg (w3.setCell ⟨q.bq,5,none⟩ (.slice qq n c)):=by
  have hlt:=(Array.getElem?_eq_some_iff.1 a).1
  have hu1:Upd (PS q w) w W1:=PS.of hb1
  have hty:∀ k,some k=lv.ownBlock→Typed w k 251:=fun k hk=>own_typed hlv hk
  have hty1:∀ k,some k=lv.ownBlock→Typed W1 k 251:=fun k hk=>by
    obtain ⟨cs,hc⟩:=hty k hk
    exact ⟨cs,(hb1.block k (Array.getElem?_eq_some_iff.1 hc).1).trans hc⟩
  have hu2:Upd (PS q w) w w3:=hu1.trans' (Upd.of_grown hg) (fun j hj hk=>⟨own_ge hlv hk,.inr (hty j hk)⟩)
  have a1:=(hb1.block _ hlt).trans a
  have a3:w3.heap[q.bq]?=some (.cells #[.pointer (some ⟨q.x,0,none⟩),.pointer (some ⟨q.bl,0,none⟩),.int .i64 q.logs,.int .i64 q.pages,.int .i64 64,lv] 254 (0,0)):=by
    refine ((Upd.of_grown hg).block q.bq (Nat.lt_of_lt_of_le hlt hb1.size) (fun e=>?_)).trans a1
    exact absurd ((hty _ e).one ⟨_,a⟩) (by decide)
  have hu3:Upd (PS q w) w (w3.setCell ⟨q.bq,5,none⟩ (.slice qq n c)):=hu2.trans' (Upd.setC w3 q.bq 5 _) (fun j hj e=>by subst e;exact ⟨q.hq,.inl ⟨_,a⟩⟩)
  have hne3:∀ gg,(Value.slice qq n c).ownBlock=some gg→gg ≠ q.bq:=fun gg hgg e=>by
    subst e
    obtain ⟨cs,hc⟩:=own_typed ho hgg.symm
    rw [a3] at hc
    cases hc
  have ho3:(w3.setCell ⟨q.bq,5,none⟩ (.slice qq n c)).ownsRow q.B 251 5 (.slice qq n c) n (bs.flatMap dbCells++dbCells ⟨pg,0,0,v,zeros 112⟩):=own_updO ho (Upd.setC w3 q.bq 5 _) (fun k hk _ hkk _=>by subst hk;exact hne3 _ hkk.symm rfl)
  have hvv:Byt (w3.setCell ⟨q.bq,5,none⟩ (.slice qq n c)) N v (zeros 112):=by
    refine Byt.upd (S:=fun k=>some k=lv.ownBlock ∨ k=q.bq) hv ((Upd.of_grown hg).trans (Upd.setC w3 q.bq 5 _)) (fun k hk ht=>?_)
    rcases hk with hk | rfl
    · exact absurd ((hty1 k hk).one ht) (by decide)
    · exact absurd (Typed.one ⟨_,a1⟩ ht) (by decide)
  have hnd:((bs++[(⟨pg,0,0,v,zeros 112⟩:DBuf)]).map (·.page)).Nodup:=by
    rw [List.map_append,List.map_singleton]
    refine List.nodup_append.2 ⟨h.once,by simp,fun x hx y hy e=>?_⟩
    rw [List.mem_singleton.1 hy] at e
    obtain ⟨b,hb,rfl⟩:=List.mem_map.1 hx
    exact hne b hb e
  refine ⟨bs,⟨pg,0,0,v,zeros 112⟩,rfl,(cd_not hne).symm,fun m=>?_,Nat.le_refl _,?_,hu3⟩
  · by_cases hm:∃ b∈bs,b.page=m
    · obtain ⟨b,hb,rfl⟩:=hm
      rw [cd_mem h.once hb,cd_mem hnd (List.mem_append_left _ hb)]
    · have h1:∀ b∈bs,b.page ≠ m:=fun b hb e=>hm ⟨b,hb,e⟩
      rw [cd_not h1]
      by_cases hpm:pg=m
      · subst hpm
        exact cd_mem hnd (List.mem_append_right _ (List.mem_singleton.2 rfl))
      · exact cd_not (fun b hb=>by
          rcases List.mem_append.1 hb with hb | hb
          · exact h1 b hb
          · rw [List.mem_singleton.1 hb];exact hpm)
  · refine h.put hu3 (pool_set5 a3) ?_ (fun x hx=>?_) hnd
    · rw [List.flatMap_append,List.flatMap_cons,List.flatMap_nil,List.append_nil,List.length_append,List.length_singleton,← hL,← hn]
      exact ho3
    · rcases List.mem_append.1 hx with hx | hx
      · exact .inl hx
      · rw [List.mem_singleton.1 hx]
        exact .inr ⟨hvv,by simp [zeros],hp⟩
end
end Go.Proofs.YtheeomjfpnijbaaGreatDoor
end
section
namespace Go.Proofs.YtheeomjfpnijbaaGreatDoor
open Go.RowKit
set_option maxRecDepth 20000
section
variable {N:Nat→Prop} {q:RPar} {bs:List DBuf}
theorem in_lift {n:Nat} {w w1 w':World} (hb:Below w.heap.size w w1) (h:RInQ N q w1 bs n w'):RInQ N q w bs n w':=by
  obtain ⟨pre,b,h1,h2,h3,h4,h5,h6⟩:=h
  exact ⟨pre,b,h1,h2,h3,h4,h5,PS.trans (PS.of hb) h6⟩
set_option maxHeartbeats 4000000 in
theorem rin_any (n:Nat) (w:World) (h:RPool N q w bs) (hn:n < q.pages) (hs:bs.length≤60) (hB:q.B≤w.heap.size) (hN:∀ k,N k→k < w.heap.size) :
    Calls Tryz.prog 150 #[.pointer (some ⟨q.bq,0,none⟩),.int .i64 n] w fun e w'=>e=.returned (.int .i64 0)∧RInQ N q w bs n w':=by
  have H:=Lib.hid h
  have HB:=Lib.hid hB
  have HN:=Lib.hid hN
  have HS:=Lib.hid hs
  have HP:=Lib.hid hn
  obtain ⟨i0,hi0,hz0,hz1,hz2⟩:=info_parts infoB5
  clear h hB hN hs hn
  go_enter Tryz.func150,Tryz.ntmps150
  go_wp2_with fail
  refine (rfind_any n _ H.out (by have:=HS.out;omega)).mono ?_
  rintro e w1 ⟨v,rfl,hf,hb1⟩
  have H1:=Lib.hid (H.out.below hb1)
  have HB1:=Lib.hid hb1
  rcases hf with ⟨i,b,rfl,hb,hpg⟩ | ⟨rfl,hnot⟩
  · obtain ⟨lv,a,ho⟩:=H1.out.cells
    obtain ⟨L,hL⟩:∃ L,L=bs.length:=⟨_,rfl⟩
    rw [← hL] at ho
    have hiL:i < L:=by rw [hL];exact (List.getElem?_eq_some_iff.1 hb).1
    obtain ⟨p,c,rfl,hLc,hcm⟩:=rown_sl ho
    obtain ⟨g,rfl,-,-,c0,c1,c2,c3,c4⟩:=db_cells ho hiL hb
    obtain ⟨lp,lc,hlv,-⟩:=H1.out.slices b (List.mem_of_getElem? hb)
    rw [hlv] at c4
    have k5:w1.cell? ⟨q.bq,5,none⟩=some (.slice (some ⟨g,0,none⟩) L c):=by simp [World.cell?,a]
    have hd:decide ((i:Int) ≥ 0)=true:=decide_eq_true (by omega)
    have HI:Hid (i < bs.length):=Lib.hid (by rw [← hL];exact hiL)
    have HBB:=Lib.hid hb
    have HPG:=Lib.hid hpg
    have HLV:=Lib.hid hlv
    clear hb hpg a ho hL hb1 hlv hLc hcm
    obtain ⟨X,hX⟩:∃ X,X=w1.heap.size:=⟨_,rfl⟩
    obtain ⟨WX,hWX⟩:∃ W,W=w1.alloc (.cells #[.int .i64 b.page,.int .i64 0,.int .i64 b.lsn,.int .i64 b.first,.slice lp 112 lc] 251):=⟨_,rfl⟩
    have hbx:Below w1.heap.size w1 WX:=by rw [hWX];exact (Below.refl _ w1).alloc (Nat.le_refl _) _
    have HXC:Hid (WX.heap[X]?=some (.cells #[.int .i64 b.page,.int .i64 0,.int .i64 b.lsn,.int .i64 b.first,.slice lp 112 lc] 251 (0,0))):=Lib.hid (by rw [hWX,hX];exact heap_alloc_new w1 _)
    have HXB:=Lib.hid hbx
    clear hbx
    go_wp2_with fail
    rw [← hX,← hWX]
    clear hX hWX
    refine (rwithout_any i WX (H1.out.below HXB.out) HI.out (by have:=HS.out;omega)).mono ?_
    rintro e w2 ⟨rfl,hwo⟩
    obtain ⟨lv2,a2,ho2⟩:=hwo.1.cells
    obtain ⟨L2,hL2⟩:∃ L,L=(bs.take i++bs.drop (i+1)).length:=⟨_,rfl⟩
    rw [← hL2] at ho2
    obtain ⟨p2,d2,rfl,hd2,-⟩:=rown_sl ho2
    have k52:w2.cell? ⟨q.bq,5,none⟩=some (.slice p2 L2 d2):=by simp [World.cell?,a2]
    have hxq:X ≠ q.bq:=fun e=>by
      obtain ⟨lv',a',-⟩:=(H1.out.below HXB.out).cells
      rw [← e,HXC.out] at a'
      cases a'
    have hX2:w2.heap[X]?=some (.cells #[.int .i64 b.page,.int .i64 0,.int .i64 b.lsn,.int .i64 b.first,.slice lp 112 lc] 251 (0,0)):=(hwo.2.block X (Array.getElem?_eq_some_iff.1 HXC.out).1 hxq).trans HXC.out
    have x0:w2.cell? ⟨X,0,none⟩=some (.int .i64 b.page):=by simp [World.cell?,hX2]
    have x1:w2.cell? ⟨X,1,none⟩=some (.int .i64 0):=by simp [World.cell?,hX2]
    have x2:w2.cell? ⟨X,2,none⟩=some (.int .i64 b.lsn):=by simp [World.cell?,hX2]
    have x3:w2.cell? ⟨X,3,none⟩=some (.int .i64 b.first):=by simp [World.cell?,hX2]
    have x4:w2.cell? ⟨X,4,none⟩=some (.slice lp 112 lc):=by simp [World.cell?,hX2]
    have HWO:=Lib.hid hwo
    have HA2:=Lib.hid a2
    have HO2:=Lib.hid ho2
    have HL2:=Lib.hid hL2
    have hl2:=cell_lt k52
    have hOA:Hid ((w2.alloc (.cells #[.int .i64 b.page,.int .i64 0,.int .i64 b.lsn,.int .i64 b.first,.slice lp 112 lc] 251)).drew.ownsRow WX.heap.size 251 5 (.slice p2 L2 d2) L2 ((bs.take i++bs.drop (i+1)).flatMap dbCells)):=Lib.hid ((ho2.alloc _).drew)
    have hCA:Hid (Cells (w2.alloc (.cells #[.int .i64 b.page,.int .i64 0,.int .i64 b.lsn,.int .i64 b.first,.slice lp 112 lc] 251)).drew (some ⟨w2.heap.size,0,none⟩) (dbCells b)):=Lib.hid (by
      intro _
      refine ⟨_,0,rfl,fun j v hv=>?_⟩
      unfold dbCells at hv
      rw [HLV.out] at hv
      rw [Nat.zero_add]
      exact cellNew (by simpa using hv))
    have hON:Hid (∀ u∈dbCells b,u.oneCell'=true):=Lib.hid (by
      have:=db_one (bs:=[b]) (fun x hx=>by rw [List.mem_singleton.1 hx];exact H1.out.slices b (List.mem_of_getElem? HBB.out))
      simpa using this)
    have hBD:Hid (L2+1≤maxLen∧(L2+1) * 56≤140737488355328∧WX.heap.size≤(w2.alloc (.cells #[.int .i64 b.page,.int .i64 0,.int .i64 b.lsn,.int .i64 b.first,.slice lp 112 lc] 251)).drew.heap.size):=Lib.hid (by
      have h1:L2≤60:=by
        rw [hL2,List.length_append,List.length_take,List.length_drop]
        have:=HS.out
        have:=HI.out
        omega
      refine ⟨by simp only [maxLen];omega,by omega,?_⟩
      have:=hwo.2.size
      show WX.heap.size≤(w2.alloc _).heap.size
      simp
      omega)
    have hWB:Hid (Below w2.heap.size w2 (w2.alloc (.cells #[.int .i64 b.page,.int .i64 0,.int .i64 b.lsn,.int .i64 b.first,.slice lp 112 lc] 251)).drew):=Lib.hid (((Below.refl _ w2).alloc (Nat.le_refl _) _).drew)
    have hQ:Hid (∀ k,some k=(Value.slice p2 L2 d2).ownBlock→k ≠ q.bq):=Lib.hid (fun k hk e=>by
      subst e
      exact absurd ((own_typed ho2 hk).one ⟨_,a2⟩) (by decide))
    clear hwo a2 ho2 hL2 hxq hX2 hd2
    go_wp2_with fail
    go_region_law (refine step_appv rfl (.tmp 35) (.tmp 37) 252 251 rfl i0 _ 5 56 WX.heap.size L2 1 1 Tryz.underlying252 hi0 hz0 hz1 hz2 rfl (by decide) _ _ (dbCells b) (some ⟨w2.heap.size,0,none⟩) rfl rfl hOA.out rfl hCA.out hON.out hBD.out.1 hBD.out.2.1 hBD.out.2.2 ?_;intro v5 w5 ho5 hg5;obtain ⟨q5,d5,rfl,-⟩:=rown_sl ho5;have HO5:=Lib.hid ho5;have HG5:=Lib.hid hg5;have a5:=((Upd.of_grown hg5).block q.bq (Nat.lt_of_lt_of_le hl2 hWB.out.size) (fun e=>hQ.out _ e rfl)).trans ((hWB.out.block _ hl2).trans HA2.out);have k55:w5.cell? ⟨q.bq,5,none⟩=some (.slice p2 L2 d2):=(by simp [World.cell?,a5]);have f5:=frozenC (i:=5) a5;clear ho5 hg5 a5)
    all_goals
      go_wp2
      go_ret
      have hp:=HPG.out
      subst hp
      exact ⟨rfl,in_end1 H.out HB.out HBB.out (RPoolB.less (HWO.out.1) (Nat.le_trans HB1.out.size HXB.out.size)) (PS.trans (PS.of HB1.out) (PS.trans (PS.of HXB.out) (HWO.out.2.mono fun k hk e=>by subst e;exact ⟨q.hq,.inl ⟨_,((H1.out.below HXB.out).cells.choose_spec.1)⟩⟩))) HA2.out (own_mono HO2.out (Nat.le_trans HB1.out.size HXB.out.size)) HL2.out hWB.out (own_mono HO5.out (Nat.le_trans HB1.out.size HXB.out.size)) HG5.out rfl⟩
  · obtain ⟨lv,a,ho⟩:=H1.out.cells
    obtain ⟨L,hL⟩:∃ L,L=bs.length:=⟨_,rfl⟩
    rw [← hL] at ho
    obtain ⟨p,c,rfl,hLc,hcm⟩:=rown_sl ho
    have k0:w1.cell? ⟨q.bq,0,none⟩=some (.pointer (some ⟨q.x,0,none⟩)):=by simp [World.cell?,a]
    have k2:w1.cell? ⟨q.bq,2,none⟩=some (.int .i64 q.logs):=by simp [World.cell?,a]
    have k4:w1.cell? ⟨q.bq,4,none⟩=some (.int .i64 64):=by simp [World.cell?,a]
    have k5:w1.cell? ⟨q.bq,5,none⟩=some (.slice p L c):=by simp [World.cell?,a]
    have HK:=Lib.hid (And.intro k0 (And.intro k2 (And.intro k4 k5)))
    have hL60:L≤60:=by have:=HS.out;omega
    have HA:=Lib.hid a
    have HO:=Lib.hid ho
    have HL:=Lib.hid hL
    have HNT:=Lib.hid hnot
    clear a ho hL hb1 hLc hcm hnot k0 k2 k4
    go_wp2_with fail
    go_loopw [7,46] (fun o i wr=>∃ (k:Nat) (v:Int),k≤L∧i=.int .i64 k∧o=.int .i64 v∧((v=-1∧k=0) ∨ v=0)∧Hid (Below w1.heap.size w1 wr)) (fun _ i _=>L - (intOf i).toNat)
    case atStart=>exact ⟨0,-1,Nat.zero_le _,rfl,rfl,.inl ⟨rfl,rfl⟩,Lib.hid (Below.refl _ _)⟩
    case round =>
      obtain ⟨k,v,hk,rfl,rfl,hv,HB2⟩:=hrel
      by_cases hlt:k < L
      · obtain ⟨b,hb⟩:∃ b,bs[k]?=some b:=⟨_,List.getElem?_eq_getElem (by rw [← HL.out];exact hlt)⟩
        obtain ⟨g,rfl,-,-,c0,c1,c2,c3,c4⟩:=db_cells HO.out hlt hb
        obtain ⟨lp,lc,hlv,-⟩:=H1.out.slices b (List.mem_of_getElem? hb)
        rw [hlv] at c4
        have c0:=keepC HB2.out c0
        have c1:=keepC HB2.out c1
        have c2:=keepC HB2.out c2
        have c3:=keepC HB2.out c3
        have c4:=keepC HB2.out c4
        have HB3:Hid (Below w1.heap.size w1 (wr.alloc (.cells #[.int .i64 b.page,.int .i64 0,.int .i64 b.lsn,.int .i64 b.first,.slice lp 112 lc] 251))):=Lib.hid (HB2.out.alloc HB2.out.size _)
        clear hb hlv
        rcases hv with ⟨rfl,rfl⟩ | rfl
        · go_wp2_with fail
          go_roundw
          case rel=>exact ⟨1,0,by omega,by go_num,rfl,.inr rfl,HB3⟩
          case measure=>simp [intOf];omega
        · go_wp2_with fail
          go_roundw
          case rel=>exact ⟨k+1,0,by omega,by go_num,rfl,.inr rfl,HB3⟩
          case measure=>simp [intOf];omega
      · obtain rfl:k=L:=by omega
        have j0:=keepC HB2.out HK.out.1
        have j2:=keepC HB2.out HK.out.2.1
        have j4:=keepC HB2.out HK.out.2.2.1
        have j5:=keepC HB2.out HK.out.2.2.2
        have hfull:decide ((k:Int) ≥ 64)=false:=decide_eq_false (by omega)
        have hfull2:decide (64≤k)=false:=decide_eq_false (by omega)
        clear hlt hv
        go_wp2_with fail
        have hwn:IntKind.i64.wrap ((q.logs:Int)+(n:Int))=((q.logs+n:Nat):Int):=by have:=HP.out;have:=H1.out.fits;rw [IntKind.wrap_i64];omega
        have HIN:Hid (q.logs+n < q.n):=Lib.hid (by have:=HP.out;have:=H1.out.fits;omega)
        have hRD:Hid (∀ W,Below w1.heap.size w1 W→Calls Tryz.prog 175 #[.pointer (some ⟨q.x,0,none⟩),.int .i64 ((q.logs:Int)+(n:Int))] W fun e w'=>∃ v,e=.returned (.tuple #[v,.int .i64 0])∧w'.ownsRow W.heap.size 5 1 v 128 (B8s (zeros 128))∧Below W.heap.size W w'):=Lib.hid (fun W hW=>by
          have:=refread_zero q.B q.x q.n (q.logs+n) W (H1.out.below hW).disk.z HIN.out
          rwa [Int.natCast_add] at this)
        go_quiet (fail)
        go_wp2_with fail
        go_region_law (first
          | (go_simp;go_at_call 175;refine (hRD.out _ (drewN_below HB2.out _)).mono ?_;rintro e w3 ⟨v3,rfl,ho3,hb3⟩;obtain ⟨q3,d3,rfl,hd3⟩:=own_slice ho3;have HO3:=Lib.hid ho3;have HB3:=Lib.hid ((drewN_below HB2.out _).trans (hb3.mono (drewN_below HB2.out _).size));clear ho3 hb3))
        all_goals
          obtain ⟨q3',c3',e3,hr3,-⟩:=own_rd HO3.out
          cases e3
          have hd3m:d3≤maxLen:=by obtain ⟨_,_,e4,_,h4⟩:=rown_sl HO3.out;cases e4;exact h4
          have HD3:=Lib.hid hd3m
          clear hd3m
          go_wp2_with fail
          refine (refdecode_zero q3 d3 w3 hr3 hd3 HD3.out).mono ?_
          rintro e w4 ⟨v4,rfl,ho4,hb4⟩
          clear hr3
          obtain ⟨q4,d4,rfl,-⟩:=own_slice ho4
          have HO4:=Lib.hid ho4
          have HB4:Hid (Below w1.heap.size w1 w4):=Lib.hid (HB3.out.trans (hb4.mono HB3.out.size))
          have m5:=keepC HB4.out HK.out.2.2.2
          have n5:=HA.out
          have hl5:q.bq < w1.heap.size:=(Array.getElem?_eq_some_iff.1 n5).1
          have HBA:Hid (Below w1.heap.size w1 (w4.alloc (.cells #[.int .i64 n,.int .i64 0,.int .i64 0,.int .i64 0,.slice q4 112 d4] 251))):=Lib.hid (HB4.out.alloc HB4.out.size _)
          have hOA:Hid ((w4.alloc (.cells #[.int .i64 n,.int .i64 0,.int .i64 0,.int .i64 0,.slice q4 112 d4] 251)).ownsRow q.B 251 5 (.slice p k c) k (bs.flatMap dbCells)):=Lib.hid (own_upd HO.out (Upd.of_below' HBA.out (fun _=>False)) (fun _ h=>h.elim))
          have hCA:Hid (Cells (w4.alloc (.cells #[.int .i64 n,.int .i64 0,.int .i64 0,.int .i64 0,.slice q4 112 d4] 251)) (some ⟨w4.heap.size,0,none⟩) (dbCells ⟨n,0,0,.slice q4 112 d4,zeros 112⟩)):=Lib.hid (by
            intro _
            refine ⟨_,0,rfl,fun j v hv=>?_⟩
            rw [Nat.zero_add]
            exact cellNew (by simpa [dbCells] using hv))
          have hON:Hid (∀ u∈dbCells ⟨n,0,0,.slice q4 112 d4,zeros 112⟩,u.oneCell'=true):=Lib.hid (fun u hu=>by
            simp only [dbCells,List.mem_cons,List.not_mem_nil,or_false] at hu
            rcases hu with rfl | rfl | rfl | rfl | rfl <;> rfl)
          have hBD:Hid (k+1≤maxLen∧(k+1) * 56≤140737488355328∧q.B≤(w4.alloc (.cells #[.int .i64 n,.int .i64 0,.int .i64 0,.int .i64 0,.slice q4 112 d4] 251)).heap.size):=Lib.hid ⟨by simp only [maxLen];omega,by omega,Nat.le_trans HB.out (Nat.le_trans HB1.out.size HBA.out.size)⟩
          have hQ:Hid (∀ k',some k'=(Value.slice p k c).ownBlock→k' ≠ q.bq):=Lib.hid (fun k' hk e=>by
            subst e
            exact absurd ((own_typed HO.out hk).one ⟨_,HA.out⟩) (by decide))
          have hBV:Hid (Byt (w4.alloc (.cells #[.int .i64 n,.int .i64 0,.int .i64 0,.int .i64 0,.slice q4 112 d4] 251)) N (.slice q4 112 d4) (zeros 112)):=Lib.hid (by
            refine Byt.upd (S:=fun _=>False) (Byt.own HO4.out (fun k' hk'=>?_)) (Upd.of_below' ((Below.refl w4.heap.size w4).alloc (Nat.le_refl _) _) _) (fun _ h=>h.elim)
            have h1:=HN.out k' hk'
            have h2:=HB1.out.size
            have h3:=HB3.out.size
            omega)
          clear ho4 hb4 n5
          go_wp2_with (at_builtin;refine wpList_appv rfl (.tmp 116) (.tmp 121) 252 251 rfl i0 _ 5 56 q.B k 1 1 Tryz.underlying252 hi0 hz0 hz1 hz2 rfl (by decide) _ _ (dbCells ⟨n,0,0,.slice q4 112 d4,zeros 112⟩) (some ⟨w4.heap.size,0,none⟩) rfl rfl hOA.out rfl hCA.out hON.out hBD.out.1 hBD.out.2.1 hBD.out.2.2 ?_)
          intro v5 w5 ho5 hg5
          obtain ⟨q5,d5,rfl,-⟩:=rown_sl ho5
          have HO5:=Lib.hid ho5
          have HG5:=Lib.hid hg5
          have a5:=((Upd.of_grown hg5).block q.bq (Nat.lt_of_lt_of_le hl5 HBA.out.size) (fun e=>hQ.out _ e rfl)).trans ((HBA.out.block _ hl5).trans HA.out)
          have k55:w5.cell? ⟨q.bq,5,none⟩=some (.slice p k c):=by simp [World.cell?,a5]
          have f5:=frozenC (i:=5) a5
          clear ho5 hg5 a5
          go_wp2
          go_ret
          exact ⟨rfl,in_lift HB1.out (in_end2 H1.out HNT.out HP.out HA.out HO.out HL.out HBA.out hBV.out HO5.out HG5.out rfl)⟩
end
end Go.Proofs.YtheeomjfpnijbaaGreatDoor
end
section
namespace Go.Proofs.YtheeomjfpnijbaaGreatDoor
open Go.RowKit
set_option maxRecDepth 20000
section
variable {N:Nat→Prop} {q:RPar} {bs:List DBuf}
theorem FindR.last {n:Nat} {v:Int} {pre:List DBuf} {b0:DBuf} (h:FindR (pre++[b0]) n v) (hp:b0.page=n) (hn:((pre++[b0]).map (·.page)).Nodup):v=(pre.length:Int):=by
  rcases h with ⟨i,b,h1,h2,h3⟩ | ⟨-,h1⟩
  · have hi:=(List.getElem?_eq_some_iff.1 h2).1
    have e1:((pre++[b0]).map (·.page))[i]?=some n:=by rw [List.getElem?_map,h2];exact congrArg some h3
    have e2:((pre++[b0]).map (·.page))[pre.length]?=some n:=by rw [List.getElem?_map,List.getElem?_append_right (Nat.le_refl _)];simp [hp]
    have:=(List.getElem?_inj (by simpa using hi) hn).1 (e1.trans e2.symm)
    omega
  · exact absurd hp (h1 b0 (by simp))
theorem cell_of_block5 {w:World} {b:Nat} {cs:Array Value} {t:TypeId} (h:w.heap[b]?=some (.cells cs t (0,0))) (j:Nat) {v:Value} (hv:cs[j]?=some v):w.cell? ⟨b,j,none⟩=some v:=by
  simp only [World.cell?,h]
  simpa using hv
theorem heap_set5 {W:World} {X:Nat} {t:TypeId} {z0 z1 z2 z3 z4:Value} (h:W.heap[X]?=some (.cells #[z0,z1,z2,z3,z4] t (0,0))) (v0 v1 v2 v3 v4:Value) :
    (((((W.setCell ⟨X,0,none⟩ v0).setCell ⟨X,1,none⟩ v1).setCell ⟨X,2,none⟩ v2).setCell ⟨X,3,none⟩ v3).setCell ⟨X,4,none⟩ v4).heap[X]?=some (.cells #[v0,v1,v2,v3,v4] t (0,0)):=by
  have a0:=heap_setCell_same W X 0 _ _ v0 h
  have a1:=heap_setCell_same _ X 1 _ _ v1 a0
  have a2:=heap_setCell_same _ X 2 _ _ v2 a1
  have a3:=heap_setCell_same _ X 3 _ _ v3 a2
  have a4:=heap_setCell_same _ X 4 _ _ v4 a3
  simpa using a4
def GetR5 (N:Nat→Prop) (q:RPar) (w:World) (bs:List DBuf) (n:Nat) (e:Ending) (w':World):Prop :=
  ∃ (bs':List DBuf) (v:Value) (lsn:Nat),e=.returned (.tuple #[v,.int .i64 lsn,.int .i64 0])∧w'.ownsRow w.heap.size 5 1 v 112 (B8s (cd bs n))∧RPool N q w' bs'∧(∀ m,cd bs' m=cd bs m)∧bs'.length≤bs.length+1∧Upd (PS q w) w w'
set_option maxHeartbeats 4000000 in
theorem rget_any (n:Nat) (w:World) (h:RPool N q w bs) (hn:n < q.pages) (hs:bs.length≤60) (hB:q.B≤w.heap.size) (hN:∀ k,N k→k < w.heap.size) :
    Calls Tryz.prog 107 #[.pointer (some ⟨q.bq,0,none⟩),.int .i64 n] w (GetR5 N q w bs n):=by
  have H:=Lib.hid h
  have HB:=Lib.hid hB
  have HN:=Lib.hid hN
  have HS:=Lib.hid hs
  have HP:=Lib.hid hn
  obtain ⟨i0,hi0,hz0,hz1,hz2⟩:=info_parts info8
  clear h hB hN hs hn
  go_enter Tryz.func107,Tryz.ntmps107
  go_wp2_with fail
  refine (rhas_any n _ H.out HP.out).mono ?_
  rintro e w0 ⟨rfl,rfl⟩
  go_wp2_with fail
  refine (rin_any n _ H.out HP.out HS.out HB.out HN.out).mono ?_
  rintro e w1 ⟨rfl,hq⟩
  obtain ⟨pre,b0,hb0,hbl,hcd,hlen,hP1,hu1⟩:=hq
  obtain ⟨bs1,hbs1⟩:∃ l,l=pre++[b0]:=⟨_,rfl⟩
  have hl1:bs1.length≤bs.length+1:=by rw [hbs1];simp;omega
  have hF0:∀ v,FindR bs1 n v→v=(pre.length:Int):=fun v hv=>by rw [hbs1] at hv;exact hv.last hb0 hP1.once
  have hbi:bs1[pre.length]?=some b0:=by rw [hbs1,List.getElem?_append_right (Nat.le_refl _)];simp
  obtain ⟨i,hi⟩:∃ i,i=pre.length:=⟨_,rfl⟩
  rw [← hbs1] at hcd hP1
  rw [← hi] at hF0 hbi
  obtain ⟨lv,a,ho⟩:=hP1.cells
  obtain ⟨L,hL⟩:∃ L,L=bs1.length:=⟨_,rfl⟩
  rw [← hL] at ho
  have hiL:i < L:=by rw [hL];exact (List.getElem?_eq_some_iff.1 hbi).1
  obtain ⟨p,c,rfl,hLc,hcm⟩:=rown_sl ho
  obtain ⟨g,rfl,-,-,c0,c1,c2,c3,c4⟩:=db_cells ho hiL hbi
  obtain ⟨lp,lc,hlv,-⟩:=hP1.slices b0 (List.mem_of_getElem? hbi)
  rw [hlv] at c4
  have hby:=(hP1.loads b0 (List.mem_of_getElem? hbi)).1
  rw [hlv,hbl] at hby
  have k5:w1.cell? ⟨q.bq,5,none⟩=some (.slice (some ⟨g,0,none⟩) L c):=by simp [World.cell?,a]
  have H1:=Lib.hid hP1
  have HCD:=Lib.hid hcd
  have HL1:=Lib.hid hl1
  have HU1:=Lib.hid hu1
  have HBY:=Lib.hid hby
  have h4096:Hid (bs1.length≤4096):=Lib.hid (by have:=HS.out;omega)
  have HFI:Hid (∀ W,Below w1.heap.size w1 W→Calls Tryz.prog 151 #[.pointer (some ⟨q.bq,0,none⟩),.int .i64 n] W fun e w'=>e=.returned (.int .i64 i)∧Below w1.heap.size w1 w'∧Below W.heap.size W w'):=Lib.hid (fun W hW=>(rfind_any n W (H1.out.below hW) h4096.out).mono (by
    rintro e w' ⟨v,h1,h2,h3⟩
    rw [hF0 v h2] at h1
    exact ⟨h1,hW.trans (h3.mono hW.size),h3⟩))
  have HMS:Hid (∀ w',Below w1.heap.size w1 w'→(Hid (Below w1.heap.size w1 w')∧w'.cell? ⟨q.bq,5,none⟩=some (.slice (some ⟨g,0,none⟩) L c)∧w'.cell? ⟨g,i * 5,none⟩=some (.int .i64 b0.page)∧w'.cell? ⟨g,i * 5+1,none⟩=some (.int .i64 0)∧w'.cell? ⟨g,i * 5+2,none⟩=some (.int .i64 b0.lsn)∧w'.cell? ⟨g,i * 5+3,none⟩=some (.int .i64 b0.first)∧w'.cell? ⟨g,i * 5+4,none⟩=some (.slice lp 112 lc))):=Lib.hid (fun w' hb=>⟨Lib.hid hb,keepC hb k5,keepC hb c0,keepC hb c1,keepC hb c2,keepC hb c3,keepC hb c4⟩)
  have BD:Hid (Below w1.heap.size w1 w1.drew):=Lib.hid (Below.refl _ w1).drew
  have S0:=Lib.hid (HMS.out _ BD.out)
  clear hP1 hcd hl1 hu1 hbl hlen hbs1 hb0 a ho hL hLc hcm hF0 hbi hi c0 c1 c2 c3 c4 k5 hlv hby
  go_wp2_with fail
  go_cut [8] (fun v wx=>∃ X:Nat,v=.pointer (some ⟨X,0,none⟩)∧Hid (wx.heap[X]?=some (.cells #[.int .i64 b0.page,.int .i64 0,.int .i64 b0.lsn,.int .i64 b0.first,.slice lp 112 lc] 251 (0,0)))∧Hid (Below w1.heap.size w1 wx)∧w1.heap.size≤X)
  case first =>
    have BA:Hid (Below w1.heap.size w1 (w1.alloc (.cells #[.int .i64 0,.int .i64 0,.int .i64 0,.int .i64 0,.slice none 0 0] 251)).drew):=Lib.hid ((Below.refl _ w1).alloc (Nat.le_refl _) _).drew
    obtain ⟨-,k5d,-⟩:=S0.out
    obtain ⟨-,k5a,-⟩:=HMS.out _ BA.out
    obtain ⟨-,k5w,-⟩:=HMS.out _ (Below.refl _ w1)
    have hl5:=cell_lt k5w
    have XA:Hid ((w1.alloc (.cells #[.int .i64 0,.int .i64 0,.int .i64 0,.int .i64 0,.slice none 0 0] 251)).drew.heap[w1.heap.size]?=some (.cells #[.int .i64 0,.int .i64 0,.int .i64 0,.int .i64 0,.slice none 0 0] 251 (0,0))∧w1.heap.size < (w1.alloc (.cells #[.int .i64 0,.int .i64 0,.int .i64 0,.int .i64 0,.slice none 0 0] 251)).drew.heap.size):=Lib.hid ⟨heap_alloc_new w1 (.cells #[.int .i64 0,.int .i64 0,.int .i64 0,.int .i64 0,.slice none 0 0] 251),by show w1.heap.size < (w1.alloc (.cells #[.int .i64 0,.int .i64 0,.int .i64 0,.int .i64 0,.slice none 0 0] 251)).heap.size;simp⟩
    go_region_law (first
      | (go_simp;go_at_call 151;with_reducible refine (HFI.out w1.drew BD.out).mono ?_;rintro e w2 ⟨rfl,hb12,hb2⟩;obtain ⟨-,k52,d0,d1,d2,d3,d4⟩:=HMS.out _ hb12;have HB2:=Lib.hid hb12;have hl2:w1.heap.size≤w2.heap.size:=hb12.size;have hg2:g < w2.heap.size:=cell_lt d0;have hq2:q.bq < w2.heap.size:=cell_lt k52;clear hb2 hb12)
      | (go_simp;go_at_call 151;with_reducible refine (HFI.out _ BA.out).mono ?_;rintro e w2 ⟨rfl,hb12,hb2⟩;obtain ⟨-,k52,d0,d1,d2,d3,d4⟩:=HMS.out _ hb12;have HB2:=Lib.hid hb12;have hl2:w1.heap.size≤w2.heap.size:=hb12.size;have hg2:g < w2.heap.size:=cell_lt d0;have hq2:q.bq < w2.heap.size:=cell_lt k52;have xh:w2.heap[w1.heap.size]?=some (.cells #[.int .i64 0,.int .i64 0,.int .i64 0,.int .i64 0,.slice none 0 0] 251 (0,0)):=((hb2.block w1.heap.size XA.out.2).trans XA.out.1);have y0:=cell_of_block5 xh 0 rfl;have y1:=cell_of_block5 xh 1 rfl;have y2:=cell_of_block5 xh 2 rfl;have y3:=cell_of_block5 xh 3 rfl;have y4:=cell_of_block5 xh 4 rfl;have z0:=frozenC (i:=0) xh;have z1:=frozenC (i:=1) xh;have z2:=frozenC (i:=2) xh;have z3:=frozenC (i:=3) xh;have z4:=frozenC (i:=4) xh;have XH:=Lib.hid xh;clear hb2 hb12 xh))
    all_goals go_wp2
    all_goals go_meet
    all_goals first
      | with_reducible exact ⟨_,rfl,Lib.hid (heap_alloc_new w2 _),Lib.hid (HB2.out.alloc HB2.out.size _),hl2⟩
      | with_reducible exact ⟨w1.heap.size,rfl,Lib.hid (heap_set5 XH.out _ _ _ _ _),Lib.hid (((((HB2.out.setCell (p:=⟨w1.heap.size,0,none⟩) (Nat.le_refl _) _).setCell (p:=⟨w1.heap.size,1,none⟩) (Nat.le_refl _) _).setCell (p:=⟨w1.heap.size,2,none⟩) (Nat.le_refl _) _).setCell (p:=⟨w1.heap.size,3,none⟩) (Nat.le_refl _) _).setCell (p:=⟨w1.heap.size,4,none⟩) (Nat.le_refl _) _),Nat.le_refl _⟩
  case rest =>
    obtain ⟨X,rfl,hX,hBX,hge⟩:=hcut
    have x2:=cell_of_block5 hX.out 2 rfl
    have x4:=cell_of_block5 hX.out 4 rfl
    have hXl:=cell_lt x2
    obtain ⟨hrd,hln,-,hcm⟩:=HBY.out.rd
    have OA:Hid ((wc.alloc (.cells #[] 5)).drew.ownsRow w1.heap.size 5 1 (.slice (some ⟨wc.heap.size,0,none⟩) 0 0) 0 []):=Lib.hid (own_mono (World.ownsRow_made wc #[] 0 (Nat.le_refl _) (Nat.zero_le _) rfl) hBX.out.size)
    have hBA:Hid (Below w1.heap.size w1 (wc.alloc (.cells #[] 5)).drew):=Lib.hid ((hBX.out.alloc hBX.out.size _).drew)
    have hRA:Hid (Rd (wc.alloc (.cells #[] 5)).drew lp (cd bs n)):=Lib.hid (hrd.below hBA.out)
    have hLN:Hid ((B8s (cd bs n)).length=112 * 1):=Lib.hid (by rw [B8s_length,hln])
    have hXA:(wc.alloc (.cells #[] 5)).drew.cell? ⟨X,2,none⟩=some (.int .i64 b0.lsn):=keepC (((Below.refl wc.heap.size wc).alloc (Nat.le_refl _) _).drew) x2
    have hMX:112≤maxLen:=by simp [maxLen]
    clear hrd hln hcm
    go_wp2_with fail
    go_region_law (refine step_appv rfl (.tmp 28) (.tmp 30) 76 5 rfl i0 _ 1 1 w1.heap.size 0 112 lc Tryz.underlying76 hi0 hz0 hz1 hz2 rfl (by decide) _ [] (B8s (cd bs n)) lp rfl rfl OA.out hLN.out hRA.out B8s_one (by omega) (by omega) hBA.out.size ?_;intro v5 w5 ho5 hg5;rw [Nat.zero_add,List.nil_append] at ho5;have HO5:=Lib.hid ho5;have HB5:=Lib.hid (hBA.out.grown hg5 hBA.out.size (fun j hj=>(OA.out.lt j hj).1));have x25:w5.cell? ⟨X,2,none⟩=some (.int .i64 b0.lsn):=hg5.cell hXA (fun e=>(by have:=(Option.some.inj (show some wc.heap.size=some X from e.symm));omega));clear ho5 hg5)
    all_goals go_wp2
    all_goals go_ret3
    all_goals
      have hPS:Upd (PS q w0) w0 w5:=PS.trans HU1.out (PS.of HB5.out)
      exact ⟨bs1,v5,b0.lsn,rfl,own_mono HO5.out HU1.out.size,H1.out.below HB5.out,HCD.out,HL1.out,hPS⟩
end
end Go.Proofs.YtheeomjfpnijbaaGreatDoor
end
