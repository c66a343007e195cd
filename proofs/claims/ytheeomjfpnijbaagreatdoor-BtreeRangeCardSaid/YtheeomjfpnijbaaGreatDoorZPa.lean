/- Lemmas: PoolIn, PoolOps, PoolAll, PoolPut, PoolWant, PoolApp. -/
import Derived.Test.YtheeomjfpnijbaaGreatDoorPoolInvP
import Derived.Test.YtheeomjfpnijbaaGreatDoorZWi
import Derived.Lib.AppendZerosOnto
import Derived.Test.YtheeomjfpnijbaaGreatDoorBaseP
set_option linter.unusedVariables false
section
namespace Go.Proofs.YtheeomjfpnijbaaGreatDoor
open Go.RowKit Go.Shelf
def InQ (N:Zone) (bp bd bl bm fro pages buffers clock sz c:Nat) (M:List (Int × Buf)) (C:Int→Nat × List UInt8) (n:Int) (D:Nat→List UInt8) (L:LogV) (w:World) (e:Ending) (w':World):Prop :=
  (e=.returned (.tuple #[.pointer none,.int .i64 50])∧buffers≤M.length∧(∀ x∈M,x.2.pins ≠ 0)∧St w' N bd bl sz c D L∧PoolAt w' N bp bd bl bm fro pages buffers clock M∧Upd (FS N bm w) w w') ∨
  ∃ c' M1 L' D' b',e=.returned (.tuple #[.pointer (some ⟨b'.blk,0,none⟩),.int .i64 0])∧c'≤c+1∧((∀ x∈M,x.2.first=0)→c'=c)∧(n,b')∈M1∧St w' N bd bl sz c' D' L'∧PoolAt w' N bp bd bl bm fro pages buffers (clock+1) M1∧PInv fro pages D' M1 C∧Wr fro pages C L D L' D' ∧
    (∀ k,pinsOf M1 k=pinsOf M k)∧(M.length≤buffers→M1.length≤buffers)∧((∀ x∈M,x.2.first=0)→∀ x∈M1,x.2.first=0)∧Upd (FS N bm w) w w'
theorem clean_setM {M:List (Int × Buf)} {n:Int} {b:Buf} (hb:(∀ x∈M,x.2.first=0)→b.first=0) (h:∀ x∈M,x.2.first=0):∀ x∈setM M n b,x.2.first=0:=fun x hx=>by
  rcases mem_setM hx with rfl | ⟨hx,-⟩
  · exact hb h
  · exact h x hx
theorem FS.touched {N:Zone} {bp bd bl bm fro pages buffers clock:Nat} {M:List (Int × Buf)} {w w':World} {n:Int} {b:Buf} (h:PoolAt w N bp bd bl bm fro pages buffers clock M) (hm:(n,b)∈M) (hu:Upd (fun k=>k=bp ∨ k=b.blk) w w'):∀ k,(k=bp ∨ k=b.blk)→N.B≤k∧(Typed w k 261 ∨ Typed w k 321 ∨ k=bm):=fun k hk=>by
  rcases hk with rfl | rfl
  · exact ⟨h.low.1,.inl h.typed⟩
  · exact ⟨h.low.2.2 _ hm,.inr (.inl (h.bufs _ hm).typed)⟩
theorem FS.mapped {N:Zone} {bp bd bl bm fro pages buffers clock:Nat} {M:List (Int × Buf)} {w:World} (h:PoolAt w N bp bd bl bm fro pages buffers clock M):∀ k,k=bm→N.B≤k∧(Typed w k 261 ∨ Typed w k 321 ∨ k=bm):=fun k hk=>by
  subst hk
  exact ⟨h.low.2.1,.inr (.inr rfl)⟩
theorem in_enter {N:Zone} {bp bd bl bm fro pages buffers clock sz c:Nat} {M:List (Int × Buf)} {C:Int→Nat × List UInt8} {n:Int} {D:Nat→List UInt8} {L:LogV} {w w5:World} {v:Value} {base l:Nat} {xs:List UInt8}
    (h:PoolAt w N bp bd bl bm fro pages buffers clock M) (hs:St w N bd bl sz c D L) (hi:PInv fro pages D M C) (h0:0≤n) (h1:n < pages) (hn:n ∉ M.map (·.1)) (hc:clock < 4611686018427387904) (ho:w.ownsRow base 5 1 v 112 (B8s xs)) (hN:∀ k,N k→k < base) (e1:l=(C n).1) (e2:xs=(C n).2)
    (hm:MapZ w5 bm (mapP M++[(n,.pointer (some ⟨w.heap.size,0,none⟩))])) (hu:Upd (fun k=>k=bm) (w.alloc (.cells #[v,.int .i64 l,.int .i64 0,.int .i64 0,.int .i64 0] 321)) w5) :
    ∃ b:Buf,b.blk=w.heap.size∧b.first=0∧b.pins=0∧PoolAt w5 N bp bd bl bm fro pages buffers clock (M++[(n,b)])∧St w5 N bd bl sz c D L∧PInv fro pages D (M++[(n,b)]) C∧Upd (FS N bm w) w w5∧(∀ k,pinsOf (M++[(n,b)]) k=pinsOf M k):=by
  have hba:Below w.heap.size w (w.alloc (.cells #[v,.int .i64 l,.int .i64 0,.int .i64 0,.int .i64 0] 321)):=(Below.refl _ w).alloc (Nat.le_refl _) _
  have ha:=h.below hba
  have hok:=hi.ok n h0 h1
  have hb:BufAt (w.alloc (.cells #[v,.int .i64 l,.int .i64 0,.int .i64 0,.int .i64 0] 321)) N ⟨w.heap.size,xs,l,0,0,0⟩:=⟨v,heap_alloc_new w _,Byt.own (ho.alloc _) hN⟩
  have hfr:w.heap.size ∉ M.map (·.2.blk):=fun hm=>by
    obtain ⟨x,hx,hxe⟩:=List.mem_map.1 hm
    obtain ⟨u,hu,-⟩:=h.bufs x hx
    have:=(Array.getElem?_eq_some_iff.1 hu).1
    omega
  refine ⟨⟨w.heap.size,xs,l,0,0,0⟩,rfl,rfl,rfl,ha.inserted hu hm hb hfr hs.base ⟨?_,?_,by simp,by simp,Nat.zero_le _⟩ h0 h1,(hs.below hba).pooled ha hu (FS.mapped ha),hi.come h0 h1 hn e1 e2,FS.trans (FS.of_below hba) (FS.of_pool hu (FS.mapped ha)),pinsOf_come hn rfl⟩
  · show xs.length=112
    rw [e2];exact hok.2
  · show l≤_
    rw [e1];exact hok.1
theorem in_evict {N:Zone} {bp bd bl bm fro pages buffers clock sz c base:Nat} {M:List (Int × Buf)} {C:Int→Nat × List UInt8} {n out:Int} {b:Buf} {D:Nat→List UInt8} {L:LogV} {w W4 W5:World} {v:Value} {xs:List UInt8}
    (h4:PoolAt W4 N bp bd bl bm fro pages buffers clock (setM M out { b with first:=0 })) (hs4:St W4 N bd bl sz c D L) (hi4:PInv fro pages D (setM M out { b with first:=0 }) C) (hu:Upd (fun k=>k=bm) W4 W5) (hmz:MapZ W5 bm (del (mapP (setM M out { b with first:=0 })) out))
    (ho:W4.ownsRow base 5 1 v 112 (B8s xs)) (hn:n ∉ M.map (·.1)) (hob:(out,b)∈M) (hp0:b.pins=0) (hnd:(M.map (·.1)).Nodup) (hml:M.length≤100000) (huw:Upd (FS N bm w) w W4) :
    ∃ MX,Hid (PoolAt W5 N bp bd bl bm fro pages buffers clock MX)∧Hid (St W5 N bd bl sz c D L)∧Hid (Upd (FS N bm w) w W5)∧Hid (PInv fro pages D MX C)∧Hid (W5.ownsRow base 5 1 v 112 (B8s xs))∧Hid (∀ k,pinsOf MX k=pinsOf M k)∧Hid (MX.length+1=M.length) ∧
      Hid ((∀ x∈M,x.2.first=0)→∀ x∈MX,x.2.first=0)∧Hid (n ∉ MX.map (·.1))∧Hid (look (mapP MX) n=none)∧Hid ((mapP MX).length < 100000)∧W5.cell? ⟨bp,0,none⟩=some (.map (some bm))∧bp < W5.heap.size:=by
  have h5:=h4.deleted hu hmz
  have hT5:=FS.mapped h4
  have hmem5:=mem_setM_self (b':={ b with first:=0 }) hob
  have hl:(del (setM M out { b with first:=0 }) out).length+1=M.length:=by rw [del_length (look_of_mem h4.nodup hmem5),setM_length]
  have hnx:n ∉ (del (setM M out { b with first:=0 }) out).map (·.1):=fun hx=>by
    obtain ⟨x,hx,hxe⟩:=List.mem_map.1 hx
    have h2:x.1∈(setM M out { b with first:=0 }).map (·.1):=List.mem_map.2 ⟨x,del_mem hx,rfl⟩
    rw [setM_keys] at h2
    exact hn (hxe ▸ h2)
  exact ⟨_,Lib.hid h5,Lib.hid (hs4.pooled h4 hu hT5),Lib.hid (FS.trans huw (FS.of_pool hu hT5)),Lib.hid (hi4.gone h4.nodup hmem5 rfl),Lib.hid (own_upd ho hu (fun k hk ht=>h4.map.notTyped ht hk)),Lib.hid (fun k=>(pinsOf_del h4.nodup hmem5 hp0 k).trans (pinsOf_setM (b':={ b with first:=0 }) hnd hob rfl k)),Lib.hid hl,
    Lib.hid (fun hf x hx=>clean_setM (fun _=>rfl) hf x (del_mem hx)),Lib.hid hnx,Lib.hid (by rw [look_mapP,look_none_iff.2 hnx];rfl),Lib.hid (by simp only [mapP,List.length_map];omega),h5.load.1,cell_lt h5.load.1⟩
section
variable {N:Zone} (bp bd bl bm fro pages buffers clock sz c:Nat) (M:List (Int × Buf)) (C:Int→Nat × List UInt8) (n:Int) (D:Nat→List UInt8) (L:LogV) (w:World)
set_option maxRecDepth 20000 in
set_option maxHeartbeats 2000000 in
theorem in_held (b:Buf) (h:PoolAt w N bp bd bl bm fro pages buffers clock M) (hs:St w N bd bl sz c D L) (hi:PInv fro pages D M C) (hc:clock < 2305843009213693952) (hm:(n,b)∈M) :
    Calls Tryz.prog 209 #[.pointer (some ⟨bp,0,none⟩),.int .i64 n] w (InQ N bp bd bl bm fro pages buffers clock sz c M C n D L w):=by
  have H:=Lib.hid h
  have HS:=Lib.hid hs
  have HI:=Lib.hid hi
  have HM:=Lib.hid hm
  have HC:=Lib.hid hc
  have k0:=h.load.1
  have HL:Hid (look (mapP M) n=some (.pointer (some ⟨b.blk,0,none⟩))):=Lib.hid (by rw [look_mapP,look_of_mem h.nodup hm];rfl)
  clear h hs hi hc hm
  go_enter Tryz.func209,Tryz.ntmps209
  go_wp2_with (at_lookup;refine wpList_look_ok (KK:=intKeys) rfl _ _ 257 rfl 3 317 Tryz.underlying257 Tryz.underlying3 _ zbuf n rfl rfl H.out.map.is ?_;rw [HL.out,Option.getD_some,Option.isSome_some])
  refine (touch_any bp bd bl bm fro pages buffers clock M n b _ H.out HM.out (by have:=HC.out;omega)).mono ?_
  rintro e w1 ⟨⟨x,rfl⟩,hp,hu⟩
  have HP:=Lib.hid hp
  have HU:=Lib.hid hu
  clear hp hu
  go_wp2_with fail
  go_returns
  have hT:=FS.touched H.out HM.out HU.out
  exact .inr ⟨c,_,L,D,{ b with used:=clock+1 },rfl,by omega,fun _=>rfl,mem_setM_self HM.out,HS.out.pooled H.out HU.out hT,HP.out,HI.out.used HM.out rfl rfl rfl,.inl ⟨rfl,rfl⟩,pinsOf_setM H.out.nodup HM.out rfl,fun hl=>by rw [setM_length];exact hl,fun hf=>clean_setM (fun h=>h _ HM.out) hf,FS.of_pool HU.out hT⟩
set_option maxRecDepth 20000 in
set_option maxHeartbeats 4000000 in
theorem in_new (J:Nat) (hJ:fro+n.toNat=J) (h:PoolAt w N bp bd bl bm fro pages buffers clock M) (hs:St w N bd bl sz c D L) (hi:PInv fro pages D M C) (h0:0≤n) (h1:n < pages) (h3:fro+pages≤sz) (hcc:c < 1000000) (hc:clock < 2305843009213693952) (hL:L.fro+L.sectors≤fro) (hF:L.forced=L.last ∨ ForceC N bd bl sz) (hbuf:buffers≤64) (hm:n ∉ M.map (·.1)) :
    Calls Tryz.prog 209 #[.pointer (some ⟨bp,0,none⟩),.int .i64 n] w (InQ N bp bd bl bm fro pages buffers clock sz c M C n D L w):=by
  have H:=Lib.hid h
  have HS:=Lib.hid hs
  have HI:=Lib.hid hi
  have HM:=Lib.hid hm
  have HC:=Lib.hid hc
  have HCC:=Lib.hid hcc
  have H0:=Lib.hid h0
  have H1:=Lib.hid h1
  have H3:=Lib.hid h3
  have HJ:=Lib.hid hJ
  have HLL:=Lib.hid hL
  have HF:=Lib.hid hF
  have HBU:=Lib.hid hbuf
  have k0:=h.load.1
  have k6:=h.load.2.2.2.2.2.2
  have hwr:IntKind.i64.wrap ((fro:Int)+n)=(J:Int):=by rw [flush_wrap hs h0 h1 h3,hJ]
  have HWR:=Lib.hid hwr
  have hlen:=(h.below (Below.refl _ w).drew).map.len (P:=Tryz.prog) Tryz.underlying257 3
  rw [show (mapP M).length=M.length by simp [mapP]] at hlen
  have HN:Hid (look (mapP M) n=none):=Lib.hid (by rw [look_mapP,look_none_iff.2 hm];rfl)
  have HML:Hid (M.length≤100000):=Lib.hid (by obtain ⟨_,_,_,_,_,h6,_⟩:=h.map;simpa [mapP] using h6)
  obtain ⟨m,hmm⟩:∃ m,m=M.length:=⟨_,rfl⟩
  rw [← hmm] at hlen
  have HMM:=Lib.hid hmm
  clear h hs hi hc hm h0 h1 h3 hcc hJ hL hF hbuf hmm hwr
  go_enter Tryz.func209,Tryz.ntmps209
  go_wp2_with (at_lookup;refine wpList_look_ok (KK:=intKeys) rfl _ _ 257 rfl 3 317 Tryz.underlying257 Tryz.underlying3 _ zbuf n rfl rfl H.out.map.is ?_;rw [HN.out,Option.getD_none,Option.isSome_none])
  go_region
  have HD:=Lib.hid (H.out.below (Below.refl _ w).drew)
  have HSD:=Lib.hid (HS.out.below (Below.refl _ w).drew)
  have HUD:Hid (Upd (FS N bm w) w w.drew):=Lib.hid (FS.of_below (Below.refl _ w).drew)
  clear hlen k0 k6
  generalize w.drew=W0 at *
  go_wp2_with fail
  refine (victim_any bp bd bl bm fro pages buffers clock M _ HD.out (by have:=HC.out;omega)).mono ?_
  rintro e W1 ⟨hq,hb⟩
  have HP1:=Lib.hid (HD.out.below hb)
  have HS1:=Lib.hid (HSD.out.below hb)
  have HU1:Hid (Upd (FS N bm w) w W1):=Lib.hid (FS.trans HUD.out (FS.of_below hb))
  clear hb
  by_cases hfull:buffers≤m
  · rcases hq with ⟨out,b,rfl,hb,hp0⟩ | ⟨rfl,hall⟩
    · have HOB:=Lib.hid hb
      have HP0:=Lib.hid hp0
      clear hb hp0
      dsimp only
      go_wp2_with fail
      have k21:W1.cell? ⟨bp,2,none⟩=some (.pointer (some ⟨bd,0,none⟩)):=HP1.out.load.2.2.1
      have k41:W1.cell? ⟨bp,4,none⟩=some (.int .i64 fro):=HP1.out.load.2.2.2.2.1
      have k21':W1.drew.cell? ⟨bp,2,none⟩=some (.pointer (some ⟨bd,0,none⟩)):=k21
      have k41':W1.drew.cell? ⟨bp,4,none⟩=some (.int .i64 fro):=k41
      have HS1D:=Lib.hid (HS1.out.below (Below.refl _ W1).drew)
      have HIN:Hid (J < sz):=Lib.hid (by have:=H0.out;have:=H1.out;have h5:=H3.out;have:=HJ.out;omega)
      have hwr:=HWR.out
      go_region_law (first
        | (go_simp;go_at_call 161;refine (disIs_read bd sz c J D _ HS1D.out.disk HS1D.out.no HIN.out (by have:=HCC.out;omega)).mono ?_;rintro e W2 ⟨v2,rfl,ho2,hb2⟩;obtain ⟨q2,d2,rfl,hd2⟩:=own_slice ho2;have HO2:=Lib.hid ho2;have HB2:=Lib.hid hb2;have HD2:=Lib.hid hd2;clear ho2 hb2 hd2))
      all_goals
        clear k21 k41 k21' k41' hwr
        have HP2:=Lib.hid ((HP1.out.below (Below.refl _ W1).drew).below HB2.out)
        have HS2:=Lib.hid (HS1D.out.below HB2.out)
        have HU2:Hid (Upd (FS N bm w) w W2):=Lib.hid (FS.trans HU1.out (FS.trans (FS.of_below (Below.refl _ W1).drew) (FS.of_below HB2.out)))
        have HRD:Hid (Rd W2 q2 (D J)∧(D J).length=128∧d2≤maxLen):=Lib.hid (by
          obtain ⟨q,d,e',hr,hx,hm,-⟩:=own_rd HO2.out
          cases e'
          exact ⟨hr,hx,(own_cap HO2.out (by omega)).2⟩)
        have HDE:Hid (D J=encV (C n).1 (C n).2):=Lib.hid (by rw [← HJ.out];exact HI.out.not n H0.out H1.out HM.out)
        have HCK:=Lib.hid (HI.out.ok n H0.out H1.out)
        go_wp2_with fail
        refine (decode_any q2 128 d2 (D J) W2 HRD.out.2.1 HRD.out.1 HD2.out HRD.out.2.2 HS2.out.halves).mono ?_
        rintro e W3 ⟨hdq,hb3⟩
        obtain ⟨de1,de2,de3⟩:=dec_enc (l:=(C n).1) HCK.out.2 HCK.out.1
        rcases hdq with ⟨-,v3,rfl,ho3⟩ | ⟨hne,-⟩
        case' inr=>exact absurd (by rw [HDE.out];exact de1) hne
        rw [HDE.out,de3] at ho3
        have hdl:decL (D J)=(C n).1:=by rw [HDE.out];exact de2
        obtain ⟨l,hl⟩:∃ l,l=decL (D J):=⟨_,rfl⟩
        rw [← hl]
        have HLC:Hid (l=(C n).1):=Lib.hid (by rw [hl,hdl])
        obtain ⟨q3,d3,rfl,-⟩:=own_slice ho3
        have HO3:=Lib.hid (own_mono ho3 HS2.out.base)
        have HNB:Hid (∀ k,N k→k < W2.heap.size):=Lib.hid HS2.out.no
        have HO3B:=Lib.hid ho3
        have HP3:=Lib.hid (HP2.out.below hb3)
        have HS3:=Lib.hid (HS2.out.below hb3)
        have HU3:Hid (Upd (FS N bm w) w W3):=Lib.hid (FS.trans HU2.out (FS.of_below hb3))
        clear ho3 hdl hl de1 de2 de3 hb3 HO2 HB2 HRD HP2 HS2 HU2 HP1 HS1 HU1 HS1D HD HSD HUD H HS
      all_goals
        go_wp2_with fail
        refine (pflush_any bp bd bl bm fro pages buffers clock sz c M C out b D L _ HP3.out HS3.out HI.out H3.out HCC.out HOB.out HLL.out HF.out).mono ?_
        rintro e W4 ⟨rfl,L',D',hs4,hp4,hi4,hw4,hu4⟩
        have HO4:Hid (W4.ownsRow W2.heap.size 5 1 (.slice q3 112 d3) 112 (B8s (C n).2)):=Lib.hid (own_upd HO3B.out hu4 (fun k hk ht=>fs_not8 HP3.out (.inl rfl) k hk ht))
        have HS4:=Lib.hid hs4
        have HP4:=Lib.hid hp4
        have HI4:=Lib.hid hi4
        have HW4:=Lib.hid hw4
        have HU4:Hid (Upd (FS N bm w) w W4):=Lib.hid (FS.trans HU3.out hu4)
        have hmem4:=mem_setM_self (b':={ b with first:=0 }) HOB.out
        have HLO:Hid (look (mapP (setM M out { b with first:=0 })) out=some (.pointer (some ⟨b.blk,0,none⟩))):=Lib.hid (by rw [look_mapP,look_of_mem hp4.nodup hmem4];rfl)
        have k04:W4.cell? ⟨bp,0,none⟩=some (.map (some bm)):=hp4.load.1
        clear hs4 hp4 hi4 hw4 hu4 hmem4
      all_goals
        have HKB:Hid (-9223372036854775808≤n∧n < 9223372036854775808):=Lib.hid (by obtain ⟨_,_,hd,hn,-⟩:=HS3.out.disk;have:=hd.small;have h5:=H0.out;have h6:=H1.out;have h7:=H3.out;omega)
        go_wp2_with (first | (at_delete;refine wpList_deleteZ rfl _ _ 257 3 rfl 317 Tryz.underlying257 Tryz.underlying3 out rfl rfl HP4.out.map HLO.out ?_;intro W5 hmz hu;obtain ⟨MX,HP5,HS5,HU5,HI5,HO5,HPX,HLX,HCX,HNX,HLK,HLT,hk05,hlt5⟩:=in_evict HP4.out HS4.out HI4.out hu hmz HO4.out HM.out HOB.out HP0.out HP3.out.nodup HML.out HU4.out;clear hu hmz;have HA5:=Lib.hid ((Below.refl W5.heap.size W5).alloc (Nat.le_refl _) (.cells #[.slice q3 112 d3,.int .i64 l,.int .i64 0,.int .i64 0,.int .i64 0] 321))) | (at_mapUpdate;refine wpList_insertZ rfl _ _ _ 257 rfl 3 317 Tryz.underlying257 Tryz.underlying3 n (.pointer (some ⟨W5.heap.size,0,none⟩)) rfl rfl rfl (HP5.out.below HA5.out).map HLK.out HLT.out HKB.out.1 HKB.out.2 ?_;intro WY hmz2 hu2))
        obtain ⟨bn,hb1,hb2,hb3,hp6,hs6,hi6,hu6,hpi6⟩:=in_enter HP5.out HS5.out HI5.out H0.out H1.out HNX.out (by have:=HC.out;omega) HO5.out HNB.out HLC.out rfl hmz2 hu2
        have HBN:=Lib.hid (show (n,bn)∈MX++[(n,bn)] by simp)
        rw [← hb1]
        refine (touch_any bp bd bl bm fro pages buffers clock (MX++[(n,bn)]) n bn _ hp6 HBN.out (by have:=HC.out;omega)).mono ?_
        rintro e W7 ⟨⟨x7,rfl⟩,hp7,hu7⟩
        have hT7:=FS.touched hp6 HBN.out hu7
        have HS7:=Lib.hid (hs6.pooled hp6 hu7 hT7)
        have HU7:Hid (Upd (FS N bm w) w W7):=Lib.hid (FS.trans (FS.trans HU5.out hu6) (FS.of_pool hu7 hT7))
        have HP7:=Lib.hid hp7
        have HI7:=Lib.hid (hi6.used HBN.out (b':={ bn with used:=clock+1 }) rfl rfl rfl)
        have HPI7:Hid (∀ k,pinsOf (setM (MX++[(n,bn)]) n { bn with used:=clock+1 }) k=pinsOf M k):=Lib.hid (fun k=>(pinsOf_setM (b':={ bn with used:=clock+1 }) hp6.nodup HBN.out rfl k).trans ((hpi6 k).trans (HPX.out k)))
        have HCL7:Hid ((∀ x∈M,x.2.first=0)→∀ x∈setM (MX++[(n,bn)]) n { bn with used:=clock+1 },x.2.first=0):=Lib.hid (fun hf=>clean_setM (fun _=>hb2) (fun x hx=>by
          rcases List.mem_append.1 hx with h | h
          · exact HCX.out hf x h
          · rw [List.mem_singleton.1 h];exact hb2))
        have HLE7:Hid (M.length≤buffers→(setM (MX++[(n,bn)]) n { bn with used:=clock+1 }).length≤buffers):=Lib.hid (fun hl=>by rw [setM_length,List.length_append];have h5:=HLX.out;have h7:=HMM.out;simp only [List.length_cons,List.length_nil];omega)
        have HPT:Hid (({ bn with used:=clock+1 }:Buf).blk=bn.blk):=Lib.hid rfl
        clear hp6 hs6 hi6 hu6 hpi6 hp7 hu7 hT7 hmz2 hu2 hb2 hb3
        go_wp2_with fail
        go_returns
        exact .inr ⟨_,_,L',D',{ bn with used:=clock+1 },(by first | rfl | (show _=Ending.returned (.tuple #[.pointer (some ⟨bn.blk,0,none⟩),.int .i64 0]);rw [hb1];rfl)),by split <;> omega,fun hf=>if_pos (hf _ HOB.out),mem_setM_self HBN.out,HS7.out,HP7.out,HI7.out,HW4.out,HPI7.out,HLE7.out,HCL7.out,HU7.out⟩
    · have HAL:=Lib.hid hall
      clear hall
      dsimp only
      go_wp2_with fail
      go_returns
      exact .inl ⟨rfl,by rw [← HMM.out];exact hfull,HAL.out,HS1.out,HP1.out,HU1.out⟩
  · have hfull':m < buffers:=by omega
    have HFU:=Lib.hid hfull'
    obtain ⟨out,may,rfl⟩:∃ out may,e=.returned (.tuple #[.int .i64 out,.bool may]):=by
      rcases hq with ⟨out,b,rfl,-,-⟩ | ⟨rfl,-⟩
      · exact ⟨_,_,rfl⟩
      · exact ⟨_,_,rfl⟩
    clear hq
    dsimp only
    go_wp2_with fail
    have k21:W1.cell? ⟨bp,2,none⟩=some (.pointer (some ⟨bd,0,none⟩)):=HP1.out.load.2.2.1
    have k41:W1.cell? ⟨bp,4,none⟩=some (.int .i64 fro):=HP1.out.load.2.2.2.2.1
    have k21':W1.drew.cell? ⟨bp,2,none⟩=some (.pointer (some ⟨bd,0,none⟩)):=k21
    have k41':W1.drew.cell? ⟨bp,4,none⟩=some (.int .i64 fro):=k41
    have HS1D:=Lib.hid (HS1.out.below (Below.refl _ W1).drew)
    have HIN:Hid (J < sz):=Lib.hid (by have:=H0.out;have:=H1.out;have h5:=H3.out;have:=HJ.out;omega)
    have hwr:=HWR.out
    go_region_law (first
      | (go_simp;go_at_call 161;refine (disIs_read bd sz c J D _ HS1D.out.disk HS1D.out.no HIN.out (by have:=HCC.out;omega)).mono ?_;rintro e W2 ⟨v2,rfl,ho2,hb2⟩;obtain ⟨q2,d2,rfl,hd2⟩:=own_slice ho2;have HO2:=Lib.hid ho2;have HB2:=Lib.hid hb2;have HD2:=Lib.hid hd2;clear ho2 hb2 hd2))
    all_goals
      clear k21 k41 k21' k41' hwr
      have HP2:=Lib.hid ((HP1.out.below (Below.refl _ W1).drew).below HB2.out)
      have HS2:=Lib.hid (HS1D.out.below HB2.out)
      have HU2:Hid (Upd (FS N bm w) w W2):=Lib.hid (FS.trans HU1.out (FS.trans (FS.of_below (Below.refl _ W1).drew) (FS.of_below HB2.out)))
      have HRD:Hid (Rd W2 q2 (D J)∧(D J).length=128∧d2≤maxLen):=Lib.hid (by
        obtain ⟨q,d,e',hr,hx,hm,-⟩:=own_rd HO2.out
        cases e'
        exact ⟨hr,hx,(own_cap HO2.out (by omega)).2⟩)
      have HDE:Hid (D J=encV (C n).1 (C n).2):=Lib.hid (by rw [← HJ.out];exact HI.out.not n H0.out H1.out HM.out)
      have HCK:=Lib.hid (HI.out.ok n H0.out H1.out)
      go_wp2_with fail
      refine (decode_any q2 128 d2 (D J) W2 HRD.out.2.1 HRD.out.1 HD2.out HRD.out.2.2 HS2.out.halves).mono ?_
      rintro e W3 ⟨hdq,hb3⟩
      obtain ⟨de1,de2,de3⟩:=dec_enc (l:=(C n).1) HCK.out.2 HCK.out.1
      rcases hdq with ⟨-,v3,rfl,ho3⟩ | ⟨hne,-⟩
      case' inr=>exact absurd (by rw [HDE.out];exact de1) hne
      rw [HDE.out,de3] at ho3
      have hdl:decL (D J)=(C n).1:=by rw [HDE.out];exact de2
      obtain ⟨l,hl⟩:∃ l,l=decL (D J):=⟨_,rfl⟩
      rw [← hl]
      have HLC:Hid (l=(C n).1):=Lib.hid (by rw [hl,hdl])
      obtain ⟨q3,d3,rfl,-⟩:=own_slice ho3
      have HO3:=Lib.hid (own_mono ho3 HS2.out.base)
      have HNB:Hid (∀ k,N k→k < W2.heap.size):=Lib.hid HS2.out.no
      have HO3B:=Lib.hid ho3
      have HP3:=Lib.hid (HP2.out.below hb3)
      have HS3:=Lib.hid (HS2.out.below hb3)
      have HU3:Hid (Upd (FS N bm w) w W3):=Lib.hid (FS.trans HU2.out (FS.of_below hb3))
      clear ho3 hdl hl de1 de2 de3 hb3 HO2 HB2 HRD HP2 HS2 HU2 HP1 HS1 HU1 HS1D HD HSD HUD H HS
    all_goals
      have hk05:=HP3.out.load.1
      have hlt5:=cell_lt hk05
    all_goals
      have HKB:Hid (-9223372036854775808≤n∧n < 9223372036854775808):=Lib.hid (by obtain ⟨_,_,hd,hn,-⟩:=HS3.out.disk;have:=hd.small;have h5:=H0.out;have h6:=H1.out;have h7:=H3.out;omega)
      have HA5:=Lib.hid ((Below.refl W3.heap.size W3).alloc (Nat.le_refl _) (.cells #[.slice q3 112 d3,.int .i64 l,.int .i64 0,.int .i64 0,.int .i64 0] 321))
      have HLK:Hid (look (mapP M) n=none):=Lib.hid (by rw [look_mapP,look_none_iff.2 HM.out];rfl)
      have HLT:Hid ((mapP M).length < 100000):=Lib.hid (by have h5:=HFU.out;have h6:=HMM.out;simp only [mapP,List.length_map];have:=HBU.out;omega)
      go_wp2_with (at_mapUpdate;refine wpList_insertZ rfl _ _ _ 257 rfl 3 317 Tryz.underlying257 Tryz.underlying3 n (.pointer (some ⟨W3.heap.size,0,none⟩)) rfl rfl rfl (HP3.out.below HA5.out).map HLK.out HLT.out HKB.out.1 HKB.out.2 ?_;intro WY hmz2 hu2)
      obtain ⟨bn,hb1,hb2,hb3,hp6,hs6,hi6,hu6,hpi6⟩:=in_enter HP3.out HS3.out HI.out H0.out H1.out HM.out (by have:=HC.out;omega) HO3B.out HNB.out HLC.out rfl hmz2 hu2
      have HBN:=Lib.hid (show (n,bn)∈M++[(n,bn)] by simp)
      rw [← hb1]
      refine (touch_any bp bd bl bm fro pages buffers clock (M++[(n,bn)]) n bn _ hp6 HBN.out (by have:=HC.out;omega)).mono ?_
      rintro e W7 ⟨⟨x7,rfl⟩,hp7,hu7⟩
      have hT7:=FS.touched hp6 HBN.out hu7
      have HS7:=Lib.hid (hs6.pooled hp6 hu7 hT7)
      have HU7:Hid (Upd (FS N bm w) w W7):=Lib.hid (FS.trans (FS.trans HU3.out hu6) (FS.of_pool hu7 hT7))
      have HP7:=Lib.hid hp7
      have HI7:=Lib.hid (hi6.used HBN.out (b':={ bn with used:=clock+1 }) rfl rfl rfl)
      have HPI7:Hid (∀ k,pinsOf (setM (M++[(n,bn)]) n { bn with used:=clock+1 }) k=pinsOf M k):=Lib.hid (fun k=>(pinsOf_setM (b':={ bn with used:=clock+1 }) hp6.nodup HBN.out rfl k).trans ((hpi6 k).trans rfl))
      have HCL7:Hid ((∀ x∈M,x.2.first=0)→∀ x∈setM (M++[(n,bn)]) n { bn with used:=clock+1 },x.2.first=0):=Lib.hid (fun hf=>clean_setM (fun _=>hb2) (fun x hx=>by
        rcases List.mem_append.1 hx with h | h
        · exact hf x h
        · rw [List.mem_singleton.1 h];exact hb2))
      have HLE7:Hid (M.length≤buffers→(setM (M++[(n,bn)]) n { bn with used:=clock+1 }).length≤buffers):=Lib.hid (fun hl=>by rw [setM_length,List.length_append];have h5:=HFU.out;have h7:=HMM.out;simp only [List.length_cons,List.length_nil];omega)
      have HPT:Hid (({ bn with used:=clock+1 }:Buf).blk=bn.blk):=Lib.hid rfl
      clear hp6 hs6 hi6 hu6 hpi6 hp7 hu7 hT7 hmz2 hu2 hb2 hb3
      go_wp2_with fail
      go_returns
      exact .inr ⟨c,_,L,D,{ bn with used:=clock+1 },(by first | rfl | (show _=Ending.returned (.tuple #[.pointer (some ⟨bn.blk,0,none⟩),.int .i64 0]);rw [hb1];rfl)),by omega,fun _=>rfl,mem_setM_self HBN.out,HS7.out,HP7.out,HI7.out,.inl ⟨rfl,rfl⟩,HPI7.out,HLE7.out,HCL7.out,HU7.out⟩
end
end Go.Proofs.YtheeomjfpnijbaaGreatDoor
end
section
namespace Go.Proofs.YtheeomjfpnijbaaGreatDoor
open Go.RowKit Go.Shelf
structure Run (N:Zone) (bp bd bl bm fro pages buffers sz:Nat) (w:World) (clock c:Nat) (M:List (Int × Buf)) (C:Int→Nat × List UInt8) (D:Nat→List UInt8) (L:LogV):Prop where
  st:St w N bd bl sz c D L
  pool:PoolAt w N bp bd bl bm fro pages buffers clock M
  inv:PInv fro pages D M C
  small:fro+pages≤sz
  log:L.fro+L.sectors≤fro
  force:L.forced=L.last ∨ ForceC N bd bl sz
  len:M.length≤buffers
  buf:1≤buffers∧buffers≤64
structure Goes (N:Zone) (bp bd bl bm fro pages buffers sz:Nat) (w:World) (clock c:Nat) (M:List (Int × Buf)) (C:Int→Nat × List UInt8) (D:Nat→List UInt8) (L:LogV) (w':World) (clock' c':Nat) (M':List (Int × Buf)) (D':Nat→List UInt8) (L':LogV):Prop where
  run:Run N bp bd bl bm fro pages buffers sz w' clock' c' M' C D' L'
  tick:clock≤clock'∧clock'≤clock+1
  more:c'≤c+1
  wr:Wr fro pages C L D L' D'
  upd:Upd (FS N bm w) w w'
  clean:(∀ x∈M,x.2.first=0)→c'=c∧∀ x∈M',x.2.first=0
section
variable {N:Zone} {bp bd bl bm fro pages buffers sz:Nat} {w w':World} {clock c:Nat} {M:List (Int × Buf)} {C:Int→Nat × List UInt8} {D:Nat→List UInt8} {L:LogV}
theorem Run.below (h:Run N bp bd bl bm fro pages buffers sz w clock c M C D L) (hb:Below w.heap.size w w'):Run N bp bd bl bm fro pages buffers sz w' clock c M C D L :=
  ⟨h.st.below hb,h.pool.below hb,h.inv,h.small,h.log,h.force,h.len,h.buf⟩
theorem Run.upd {T:Nat→Prop} (h:Run N bp bd bl bm fro pages buffers sz w clock c M C D L) (hu:Upd T w w') (hB:∀ k,T k→N.B≤k) (hT:∀ k,T k→¬ FS N bm w k∧¬ Typed w k 5):Run N bp bd bl bm fro pages buffers sz w' clock c M C D L:=by
  have hf:∀ k,T k→(¬ DS N w k∧¬ Typed w k 267∧¬ Typed w k 5)∧(¬ Typed w k 261∧¬ Typed w k 321∧k ≠ bm):=fun k hk=>by
    obtain ⟨h1,h2⟩:=hT k hk
    have hb:=hB k hk
    refine ⟨⟨fun hd=>h1 (FS.of_ds hd),fun ht=>h1 ⟨hb,.inr (.inr (.inr (.inl ht)))⟩,h2⟩,fun ht=>h1 ⟨hb,.inr (.inr (.inr (.inr (.inl ht))))⟩,fun ht=>h1 ⟨hb,.inr (.inr (.inr (.inr (.inr (.inl ht)))))⟩,fun ht=>h1 ⟨hb,.inr (.inr (.inr (.inr (.inr (.inr ht)))))⟩⟩
  exact ⟨h.st.upd hu hB (fun k hk=>(hf k hk).1),h.pool.upd hu (fun k hk _=>(hf k hk).2) (fun k hk ht=>absurd ht (hT k hk).2),h.inv,h.small,h.log,h.force,h.len,h.buf⟩
theorem Wr.run {D':Nat→List UInt8} {L':LogV} (h:Run N bp bd bl bm fro pages buffers sz w clock c M C D L) (hw:Wr fro pages C L D L' D'):L'.fro+L'.sectors≤fro∧(L'.forced=L'.last ∨ ForceC N bd bl sz):=by
  obtain ⟨e1,e2,e3,e4,-⟩:=hw.same
  refine ⟨by rw [e1,e2];exact h.log,h.force.imp e4 id⟩
theorem in_any (n:Int) (h:Run N bp bd bl bm fro pages buffers sz w clock c M C D L) (h0:0≤n) (h1:n < pages) (hc:clock < 2305843009213693952) (hcc:c < 1000000) :
    Calls Tryz.prog 209 #[.pointer (some ⟨bp,0,none⟩),.int .i64 n] w fun e w' =>
      (e=.returned (.tuple #[.pointer none,.int .i64 50])∧(∀ x∈M,x.2.pins ≠ 0)∧M ≠ []∧Goes N bp bd bl bm fro pages buffers sz w clock c M C D L w' clock c M D L) ∨
      ∃ b' clock' c' M' D' L',e=.returned (.tuple #[.pointer (some ⟨b'.blk,0,none⟩),.int .i64 0])∧(n,b')∈M'∧(∀ k,pinsOf M' k=pinsOf M k)∧Goes N bp bd bl bm fro pages buffers sz w clock c M C D L w' clock' c' M' D' L':=by
  have key:∀ e w',InQ N bp bd bl bm fro pages buffers clock sz c M C n D L w e w'→(e=.returned (.tuple #[.pointer none,.int .i64 50])∧(∀ x∈M,x.2.pins ≠ 0)∧M ≠ []∧Goes N bp bd bl bm fro pages buffers sz w clock c M C D L w' clock c M D L) ∨
      ∃ b' clock' c' M' D' L',e=.returned (.tuple #[.pointer (some ⟨b'.blk,0,none⟩),.int .i64 0])∧(n,b')∈M'∧(∀ k,pinsOf M' k=pinsOf M k)∧Goes N bp bd bl bm fro pages buffers sz w clock c M C D L w' clock' c' M' D' L':=by
    rintro e w' (⟨rfl,q1,q2,q3,q4,q5⟩ | ⟨c',M1,L',D',b',rfl,q1,q2,q3,q4,q5,q6,q7,q8,q9,q10,q11⟩)
    · exact .inl ⟨rfl,q2,fun hm=>by have:=h.buf.1;rw [hm] at q1;simp at q1;omega,⟨⟨q3,q4,h.inv,h.small,h.log,h.force,h.len,h.buf⟩,⟨Nat.le_refl _,by omega⟩,by omega,.inl ⟨rfl,rfl⟩,q5,fun hf=>⟨rfl,hf⟩⟩⟩
    · obtain ⟨r1,r2⟩:=q7.run h
      exact .inr ⟨b',clock+1,c',M1,D',L',rfl,q3,q8,⟨⟨q4,q5,q6,h.small,r1,r2,q9 h.len,h.buf⟩,⟨by omega,Nat.le_refl _⟩,q1,q7,q11,fun hf=>⟨q2 hf,q10 hf⟩⟩⟩
  by_cases hm:n∈M.map (·.1)
  · obtain ⟨⟨n',b⟩,hb,rfl⟩:=List.mem_map.1 hm
    exact (in_held bp bd bl bm fro pages buffers clock sz c M C n' D L w b h.pool h.st h.inv hc hb).mono key
  · exact (in_new bp bd bl bm fro pages buffers clock sz c M C n D L w _ rfl h.pool h.st h.inv h0 h1 h.small hcc hc h.log h.force h.buf.2 hm).mono key
end
def GetQ (N:Zone) (bp bd bl bm fro pages buffers sz:Nat) (w:World) (clock c:Nat) (M:List (Int × Buf)) (C:Int→Nat × List UInt8) (D:Nat→List UInt8) (L:LogV) (n:Int) (e:Ending) (w':World):Prop :=
  (e=.returned (.tuple #[.slice none 0 0,.int .i64 0,.int .i64 50])∧(∀ x∈M,x.2.pins ≠ 0)∧M ≠ []∧Goes N bp bd bl bm fro pages buffers sz w clock c M C D L w' clock c M D L) ∨
  ∃ (q:Option Addr) (d clock' c':Nat) (M':List (Int × Buf)) (D':Nat→List UInt8) (L':LogV),e=.returned (.tuple #[.slice q 112 d,.int .i64 (C n).1,.int .i64 0])∧w'.ownsRow w.heap.size 5 1 (.slice q 112 d) 112 (B8s (C n).2)∧(∀ k,pinsOf M' k=pinsOf M k)∧Goes N bp bd bl bm fro pages buffers sz w clock c M C D L w' clock' c' M' D' L'
theorem Goes.later {N:Zone} {bp bd bl bm fro pages buffers sz:Nat} {clock c clock' c':Nat} {M M':List (Int × Buf)} {C:Int→Nat × List UInt8} {D D':Nat→List UInt8} {L L':LogV} {w w1 w2:World} (h:Goes N bp bd bl bm fro pages buffers sz w clock c M C D L w1 clock' c' M' D' L') (hb:Below w1.heap.size w1 w2):Goes N bp bd bl bm fro pages buffers sz w clock c M C D L w2 clock' c' M' D' L' :=
  ⟨h.run.below hb,h.tick,h.more,h.wr,FS.trans h.upd (FS.of_below hb),h.clean⟩
theorem pinsOf_at {M:List (Int × Buf)} (hn:(M.map (·.1)).Nodup) {n:Int} {b:Buf} (hm:(n,b)∈M):pinsOf M n=b.pins:=by
  unfold pinsOf
  rw [look_of_mem hn hm]
  rfl
section
variable {N:Zone} {bp bd bl bm fro pages buffers sz:Nat} {clock c:Nat} {M:List (Int × Buf)} {C:Int→Nat × List UInt8} {D:Nat→List UInt8} {L:LogV} (w:World)
set_option maxRecDepth 20000 in
set_option maxHeartbeats 2000000 in
theorem get_any (n:Int) (h:Run N bp bd bl bm fro pages buffers sz w clock c M C D L) (h0:0≤n) (h1:n < pages) (hc:clock < 2305843009213693952) (hcc:c < 1000000) :
    Calls Tryz.prog 144 #[.pointer (some ⟨bp,0,none⟩),.int .i64 n] w (GetQ N bp bd bl bm fro pages buffers sz w clock c M C D L n):=by
  have H:=Lib.hid h
  have H0:=Lib.hid h0
  have H1:=Lib.hid h1
  have HC:=Lib.hid hc
  have HCC:=Lib.hid hcc
  clear h h0 h1 hc hcc
  go_enter Tryz.func144,Tryz.ntmps144
  go_wp2_with fail
  refine (plook_any bp bd bl bm fro pages buffers clock M n _ H.out.pool H0.out H1.out).mono ?_
  rintro e w1 ⟨rfl,rfl⟩
  go_wp2_with fail
  refine (in_any n H.out H0.out H1.out HC.out HCC.out).mono ?_
  rintro e w2 (⟨rfl,q1,q2,hg⟩ | ⟨b,clock',c',M',D',L',rfl,hm,hp,hg⟩)
  · have HG:=Lib.hid hg
    have HQ:=Lib.hid (And.intro q1 q2)
    clear q1 q2 hg
    dsimp only
    go_wp2_with fail
    go_returns
    unfold GetQ
    exact .inl ⟨rfl,HQ.out.1,HQ.out.2,HG.out⟩
  · have HG:=Lib.hid hg
    have HM:=Lib.hid hm
    have HP:=Lib.hid hp
    obtain ⟨e1,e2,-⟩:=hg.run.inv.held _ hm
    simp only at e1 e2
    obtain ⟨⟨v0,c0,hby⟩,c1,-⟩:=(hg.run.pool.bufs _ hm).cell
    obtain ⟨q0,d0,rfl⟩:=hby.slice
    have h112:=(hg.run.pool.nums _ hm).load
    simp only at c0 c1 hby h112
    rw [h112] at c0 hby
    rw [e1] at c1
    have HE2:=Lib.hid e2
    have HRD:=Lib.hid (hby.rd.1.drewN 1)
    have H112:=Lib.hid h112
    obtain ⟨l,hl⟩:∃ l,l=(C n).1:=⟨_,rfl⟩
    rw [← hl] at c1
    have HLL:=Lib.hid hl
    have hlt:=cell_lt c1
    have HGD:=Lib.hid (hg.later (Below.refl _ w2).drew)
    clear hg hm hp e1 e2 hby h112 hl
    dsimp only
    go_wp2_with fail
    go_region_law (first
      | (go_simp;go_at_call 75;refine (clone_any q0 112 d0 b.load _ H112.out (by omega) HRD.out).mono ?_;rintro e w3 ⟨v3,rfl,ho3,hb3⟩;obtain ⟨q3,d3,rfl,-⟩:=own_slice ho3;have c13:=keepC hb3 (show w2.drew.cell? _=_ from c1);have HO3:=Lib.hid ho3;have HB3:=Lib.hid hb3;clear ho3 hb3))
    all_goals go_wp2_with fail
    all_goals go_returns
    all_goals
      unfold GetQ
      refine .inr ⟨q3,d3,clock',c',M',D',L',congrArg (fun x:Nat=>Ending.returned (.tuple #[.slice q3 112 d3,.int .i64 (x:Int),.int .i64 0])) HLL.out,?_,HP.out,HGD.out.later HB3.out⟩
      rw [← HE2.out]
      exact own_mono HO3.out HG.out.upd.size
end
end Go.Proofs.YtheeomjfpnijbaaGreatDoor
end
section
namespace Go.Proofs.YtheeomjfpnijbaaGreatDoor
open Go.RowKit Go.Shelf Go.Sort
attribute [local go_sem] Oper.semAt_some
end Go.Proofs.YtheeomjfpnijbaaGreatDoor
namespace Go.Proofs.YtheeomjfpnijbaaGreatDoor
open Go.RowKit Go.Shelf Go.Sort
section
variable {N:Zone} {bp bd bl bm fro pages buffers clock:Nat} {M:List (Int × Buf)} (w:World)
end
end Go.Proofs.YtheeomjfpnijbaaGreatDoor
end
section
namespace Go.Proofs.YtheeomjfpnijbaaGreatDoor
open Go.RowKit Go.Shelf
def updC (C:Int→Nat × List UInt8) (n:Int) (l:Nat) (xs:List UInt8):Int→Nat × List UInt8:=fun k=>if k=n then (l,xs) else C k
theorem updC_same (C:Int→Nat × List UInt8) (n:Int) (l:Nat) (xs:List UInt8):updC C n l xs n=(l,xs):=if_pos rfl
theorem updC_other (C:Int→Nat × List UInt8) {n k:Int} (l:Nat) (xs:List UInt8) (h:k ≠ n):updC C n l xs k=C k:=if_neg h
theorem PInv.put {fro pages:Nat} {D:Nat→List UInt8} {M:List (Int × Buf)} {C:Int→Nat × List UInt8} {n:Int} {b b':Buf} {l:Nat} {xs:List UInt8} (h:PInv fro pages D M C) (hm:(n,b)∈M) (h1:b'.lsn=l) (h2:b'.load=xs) (h3:b'.first ≠ 0) (hl:l≤4611686018427387904) (hx:xs.length=112):PInv fro pages D (setM M n b') (updC C n l xs):=by
  refine ⟨fun x hx=>?_,fun k h0 h1 hk1=>?_,fun k h0 h1=>?_⟩
  · rcases mem_setM hx with rfl | ⟨hx,hx1⟩
    · rw [updC_same]
      exact ⟨h1,h2,fun hf=>absurd hf h3⟩
    · rw [updC_other _ _ _ hx1]
      exact h.held x hx
  · rw [setM_keys] at hk1
    have hkn:k ≠ n:=fun e=>hk1 (by rw [e];exact List.mem_map.2 ⟨_,hm,rfl⟩)
    rw [updC_other _ _ _ hkn]
    exact h.not k h0 h1 hk1
  · by_cases e:k=n
    · subst e
      rw [updC_same]
      exact ⟨hl,hx⟩
    · rw [updC_other _ _ _ e]
      exact h.ok k h0 h1
def PutPQ (N:Zone) (bp bd bl bm fro pages buffers sz:Nat) (w:World) (clock c:Nat) (M:List (Int × Buf)) (C:Int→Nat × List UInt8) (D:Nat→List UInt8) (L:LogV) (n:Int) (l:Nat) (xs:List UInt8) (e:Ending) (w':World):Prop :=
  (e=.returned (.int .i64 50)∧(∀ x∈M,x.2.pins ≠ 0)∧M ≠ []∧Goes N bp bd bl bm fro pages buffers sz w clock c M C D L w' clock c M D L) ∨
  ∃ (clock' c':Nat) (M':List (Int × Buf)) (D':Nat→List UInt8) (L':LogV),e=.returned (.int .i64 0)∧(∀ k,pinsOf M' k=pinsOf M k)∧Run N bp bd bl bm fro pages buffers sz w' clock' c' M' (updC C n l xs) D' L'∧(clock≤clock'∧clock'≤clock+1)∧c'≤c+1∧Wr fro pages C L D L' D'∧Upd (FS N bm w) w w'
theorem put_end {N:Zone} {bp bd bl bm fro pages buffers sz:Nat} {w2 w3 W:World} {clock c:Nat} {M:List (Int × Buf)} {C:Int→Nat × List UInt8} {D:Nat→List UInt8} {L:LogV} {n:Int} {b:Buf} {l f:Nat} {xs:List UInt8} {q3:Option Addr} {d3:Nat}
    (hr:Run N bp bd bl bm fro pages buffers sz w2 clock c M C D L) (hm:(n,b)∈M) (ho:w3.ownsRow w2.heap.size 5 1 (.slice q3 112 d3) 112 (B8s xs)) (hb:Below w2.heap.size w2 w3) (hu:Upd (fun k=>k=b.blk) w3 W)
    (hW:W.heap[b.blk]?=some (.cells #[.slice q3 112 d3,.int .i64 l,.int .i64 f,.int .i64 b.pins,.int .i64 b.used] 321 (0,0))) (hx:xs.length=112) (hl:l≤4611686018427387904) (hf:f ≠ 0) (hf2:f≤4611686018427387904) :
    Run N bp bd bl bm fro pages buffers sz W clock c (setM M n { b with load:=xs,lsn:=l,first:=f }) (updC C n l xs) D L∧Upd (FS N bm w2) w2 W∧∀ k,pinsOf (setM M n { b with load:=xs,lsn:=l,first:=f }) k=pinsOf M k:=by
  have hr3:=hr.below hb
  have hpool:=hr3.pool
  have hT:∀ k,k=b.blk→N.B≤k∧(Typed w3 k 261 ∨ Typed w3 k 321 ∨ k=bm):=fun k hk=>by subst hk;exact ⟨hpool.low.2.2 _ hm,.inr (.inl (hpool.bufs _ hm).typed)⟩
  have hne:bp ≠ b.blk:=fun e=>absurd ((hpool.bufs _ hm).typed.one (e ▸ hpool.typed)) (by decide)
  have hok:=hpool.nums _ hm
  have hby:Byt w3 N (.slice q3 112 d3) xs:=Byt.own ho (fun k hk=>hr.st.no k hk)
  obtain ⟨Q,hQ⟩:∃ Q:Buf,Q={ b with load:=xs,lsn:=l,first:=f }:=⟨_,rfl⟩
  rw [← hQ]
  have hturn:PoolAt W N bp bd bl bm fro pages buffers clock (setM M n Q):=by
    refine hpool.turn hm (hu.mono fun k _ hk=>.inr hk) (by rw [hQ]) ⟨_,by rw [hQ];exact hW,?_⟩ ?_ (Nat.le_refl _) ?_
    · rw [hQ]
      exact hby.upd hu (fun k hk ht=>by subst hk;exact absurd (ht.one (hpool.bufs _ hm).typed) (by decide))
    · rw [hQ]
      exact ⟨hx,hl,hf2,hok.pins,hok.used⟩
    · exact (hu.block bp (Array.getElem?_eq_some_iff.1 hpool.cells).1 hne).trans hpool.cells
  refine ⟨⟨hr3.st.pooled hpool hu hT,hturn,hr3.inv.put hm (by rw [hQ]) (by rw [hQ]) (by rw [hQ];exact hf) hl hx,hr3.small,hr3.log,hr3.force,by rw [setM_length];exact hr3.len,hr3.buf⟩,FS.trans (FS.of_below hb) (FS.of_pool hu hT),fun k=>pinsOf_setM hpool.nodup hm (by rw [hQ]) k⟩
section
variable {N:Zone} {bp bd bl bm fro pages buffers sz:Nat} {clock c:Nat} {M:List (Int × Buf)} {C:Int→Nat × List UInt8} {D:Nat→List UInt8} {L:LogV} (w:World)
set_option maxRecDepth 20000 in
set_option maxHeartbeats 2000000 in
theorem putP_any (n:Int) (l:Nat) (p:Option Addr) (m cc:Nat) (xs:List UInt8) (h:Run N bp bd bl bm fro pages buffers sz w clock c M C D L) (h0:0≤n) (h1:n < pages) (hc:clock < 2305843009213693952) (hcc:c < 1000000) (hl:1≤l∧l≤4611686018427387904) (hm:m=112) (hx:xs.length=112) (hr:Rd w p xs) (hN:∀ b o s,p=some ⟨b,o,s⟩→¬ FS N bm w b) :
    Calls Tryz.prog 199 #[.pointer (some ⟨bp,0,none⟩),.int .i64 n,.int .i64 l,.slice p m cc] w (PutPQ N bp bd bl bm fro pages buffers sz w clock c M C D L n l xs):=by
  subst hm
  have H:=Lib.hid h
  have H0:=Lib.hid h0
  have H1:=Lib.hid h1
  have HC:=Lib.hid hc
  have HCC:=Lib.hid hcc
  have HL:=Lib.hid hl
  have HX:=Lib.hid hx
  have HR:=Lib.hid hr
  have HN:=Lib.hid hN
  have hd1:decide ((l:Int) < 1)=false:=decide_eq_false (by omega)
  have hd2:decide ((l:Int) > 4611686018427387904)=false:=decide_eq_false (by omega)
  have hd3:((l:Int) == 0)=false:=beq_eq_false_iff_ne.mpr (by omega)
  clear h h0 h1 hc hcc hl hx hr hN
  go_enter Tryz.func199,Tryz.ntmps199
  go_wp2_with fail
  refine (plook_any bp bd bl bm fro pages buffers clock M n _ H.out.pool H0.out H1.out).mono ?_
  rintro e w1 ⟨rfl,rfl⟩
  go_wp2_with fail
  refine (in_any n H.out H0.out H1.out HC.out HCC.out).mono ?_
  rintro e w2 (⟨rfl,q1,q2,hg⟩ | ⟨b,clock',c',M',D',L',rfl,hm,hp,hg⟩)
  · have HG:=Lib.hid hg
    have HQ:=Lib.hid (And.intro q1 q2)
    clear q1 q2 hg
    dsimp only
    go_wp2_with fail
    go_returns
    unfold PutPQ
    exact .inl ⟨rfl,HQ.out.1,HQ.out.2,HG.out⟩
  · have HG:=Lib.hid hg
    have HM:=Lib.hid hm
    have HP:=Lib.hid hp
    have HR2:=Lib.hid (HR.out.upd hg.upd HN.out)
    obtain ⟨v0,hh,-⟩:=hg.run.pool.bufs _ hm
    simp only at hh
    have HOK:=Lib.hid (hg.run.pool.nums _ hm)
    have HH:=Lib.hid hh
    clear hg hm hp hh
    dsimp only
    go_wp2_with fail
    refine (clone_any p 112 cc xs _ HX.out (by omega) HR2.out).mono ?_
    rintro e w3 ⟨v3,rfl,ho3,hb3⟩
    obtain ⟨q3,d3,rfl,-⟩:=own_slice ho3
    have h3:=(hb3.block b.blk (Array.getElem?_eq_some_iff.1 HH.out).1).trans HH.out
    have h4:=heap_setCell_same w3 b.blk 0 _ _ (.slice q3 112 d3) h3
    have h5:=heap_setCell_same (w3.setCell ⟨b.blk,0,none⟩ (.slice q3 112 d3)) b.blk 1 _ _ (.int .i64 l) h4
    have h6:=heap_setCell_same ((w3.setCell ⟨b.blk,0,none⟩ (.slice q3 112 d3)).setCell ⟨b.blk,1,none⟩ (.int .i64 l)) b.blk 2 _ _ (.int .i64 l) h5
    have k30:w3.cell? ⟨b.blk,0,none⟩=some v0:=by simp [World.cell?,h3]
    have f30:w3.frozen? ⟨b.blk,0,none⟩=false:=frozenC h3
    have k41:(w3.setCell ⟨b.blk,0,none⟩ (.slice q3 112 d3)).cell? ⟨b.blk,1,none⟩=some (.int .i64 b.lsn):=by simp [World.cell?,h4]
    have f41:(w3.setCell ⟨b.blk,0,none⟩ (.slice q3 112 d3)).frozen? ⟨b.blk,1,none⟩=false:=frozenC h4
    have k52:((w3.setCell ⟨b.blk,0,none⟩ (.slice q3 112 d3)).setCell ⟨b.blk,1,none⟩ (.int .i64 l)).cell? ⟨b.blk,2,none⟩=some (.int .i64 b.first):=by simp [World.cell?,h5]
    have f52:((w3.setCell ⟨b.blk,0,none⟩ (.slice q3 112 d3)).setCell ⟨b.blk,1,none⟩ (.int .i64 l)).frozen? ⟨b.blk,2,none⟩=false:=frozenC h5
    have HO3:=Lib.hid ho3
    have HB3:=Lib.hid hb3
    have HH5:=Lib.hid h5
    have HH6:=Lib.hid h6
    have hU5:=(Upd.setC w3 b.blk 0 (.slice q3 112 d3)).trans' (Upd.setC _ b.blk 1 (.int .i64 l)) (fun j _ hj=>hj)
    have HU5:=Lib.hid hU5
    have HU6:=Lib.hid (hU5.trans' (Upd.setC _ b.blk 2 (.int .i64 l)) (fun j _ hj=>hj))
    clear ho3 hb3 h3 h4 h5 h6 hU5
    obtain ⟨f,hf⟩:∃ f,f=b.first:=⟨_,rfl⟩
    rw [← hf] at k52
    have HFF:=Lib.hid hf
    clear hf
    by_cases hf0:f=0
    · have hd4:((f:Int) == 0)=true:=by rw [beq_iff_eq];omega
      have HF0:=Lib.hid hf0
      clear hf0
      go_wp2_with fail
      go_returns
      unfold PutPQ
      obtain ⟨r1,r2,r3⟩:=put_end (f:=l) HG.out.run HM.out HO3.out HB3.out HU6.out (HH6.out.trans rfl) HX.out HL.out.2 (by have:=HL.out;omega) HL.out.2
      exact .inr ⟨clock',c',_,D',L',rfl,fun k=>(r3 k).trans (HP.out k),r1,HG.out.tick,HG.out.more,HG.out.wr,FS.trans HG.out.upd r2⟩
    · have hd4:((f:Int) == 0)=false:=by rw [beq_eq_false_iff_ne];omega
      have HF0:=Lib.hid hf0
      clear hf0
      go_wp2_with fail
      go_returns
      unfold PutPQ
      obtain ⟨r1,r2,r3⟩:=put_end (f:=b.first) HG.out.run HM.out HO3.out HB3.out HU5.out (HH5.out.trans rfl) HX.out HL.out.2 (by rw [← HFF.out];exact HF0.out) HOK.out.first
      exact .inr ⟨clock',c',_,D',L',rfl,fun k=>(r3 k).trans (HP.out k),r1,HG.out.tick,HG.out.more,HG.out.wr,FS.trans HG.out.upd r2⟩
end
end Go.Proofs.YtheeomjfpnijbaaGreatDoor
namespace Go.Proofs.YtheeomjfpnijbaaGreatDoor
open Go.RowKit Go.Shelf
section
variable {N:Zone} {bp bd bl bm fro pages buffers sz:Nat} {clock c:Nat} {M:List (Int × Buf)} {C:Int→Nat × List UInt8} {D:Nat→List UInt8} {L:LogV} {w w':World}
end
theorem flat_at {α:Type} (f:α→List Value) (c:Nat) (hl:∀ x,(f x).length=c):∀ (ds:List α) (k j:Nat) (x:α) (v:Value),ds[k]?=some x→(f x)[j]?=some v→(ds.flatMap f)[k * c+j]?=some v:=by
  intro ds
  induction ds with
  | nil=>intro k j d v h;simp at h
  | cons x ds ih =>
    intro k j d v h hv
    have hj:j < c:=by have:=(List.getElem?_eq_some_iff.1 hv).1;rwa [hl] at this
    rw [List.flatMap_cons]
    cases k with
    | zero =>
      simp only [List.getElem?_cons_zero,Option.some.injEq] at h
      subst h
      rw [List.getElem?_append_left (by rw [hl];omega),Nat.zero_mul,Nat.zero_add]
      exact hv
    | succ k =>
      rw [List.getElem?_append_right (by rw [hl,Nat.succ_mul];omega),hl,show (k+1) * c+j - c=k * c+j by rw [Nat.succ_mul];omega]
      exact ih k j d v (by simpa using h) hv
theorem own_atN {w:World} {base n c z:Nat} {e:TypeId} {p:Option Addr} {xs:List Value} (h:w.ownsRow base e z (.slice p n c) n xs) (hn:0 < n):∃ g,p=some ⟨g,0,none⟩∧base≤g∧Typed w g e∧∀ (j:Nat) (x:Value),xs[j]?=some x→w.cell? ⟨g,j,none⟩=some x:=by
  rcases h.2 with ⟨e',h0⟩ | ⟨g,cap,cur,e',hb,hg,h1,h2,h3,h4⟩
  · omega
  · cases e'
    refine ⟨g,rfl,hb,⟨_,hg⟩,fun j x hx=>?_⟩
    have hl:xs.length=n * z:=h.1
    have hj:j < n * z:=by rw [← hl];exact (List.getElem?_eq_some_iff.1 hx).1
    rw [← h4,List.getElem?_take_of_lt hj] at hx
    simp only [World.cell?,hg]
    simpa using hx
section
variable {N:Zone} {bp bd bl bm fro pages buffers sz:Nat} {clock c:Nat} {M:List (Int × Buf)} {C:Int→Nat × List UInt8} {D:Nat→List UInt8} {L:LogV} (w:World)
end
end Go.Proofs.YtheeomjfpnijbaaGreatDoor
end
section
namespace Go.Proofs.YtheeomjfpnijbaaGreatDoor
open Go.RowKit
theorem zeroCells8 (k:Nat):(Builtin.zeroCells #[.int .u8 0] k).toList=B8s (List.replicate k 0):=by
  unfold Builtin.zeroCells B8s
  rw [show (#[Value.int .u8 0]:Array Value).size=1 from rfl,Nat.mul_one]
  apply List.ext_getElem
  · simp
  · intro i h1 h2
    simp [B8,Nat.mod_one]
theorem run_room_zeros8 (W:World) (ty:TypeId) (g n cap k:Nat) (cur:Array Value) (hg:W.heap[g]?=some (.cells cur 5 (0,0))) (hroom:n+k≤cap) (hfit:n+k≤cur.size) (hk:k≤1000000) :
    (Builtin.append_ #[76,3] ty #[.slice (some ⟨g,0,none⟩) n cap,.int .i64 k]).run Tryz.prog W =
      .ok (.slice (some ⟨g,0,none⟩) (n+k) cap) (W.setRow g (cur.toList.take n++B8s (List.replicate k 0)++cur.toList.drop (n+k)).toArray):=by
  obtain ⟨i,hi,hz,h1,h2⟩:=infoP8
  have hw:IntKind.i64.wrap (k:Int)=k:=by rw [IntKind.wrap_i64];omega
  have hneg:¬ ((k:Int) < 0):=by omega
  have h48i:¬ (281474976710656 < (k:Int)):=by omega
  have hst:=run_storeCells_at Tryz.prog g n 5 (B8s (List.replicate k 0)) 0 cur W hg (by rw [B8s_length,List.length_replicate];omega) B8s_one
  rw [B8s_length,List.length_replicate] at hst
  simp only [Nat.add_zero] at hst
  rcases Nat.eq_zero_or_pos k with hk0 | hk0
  · subst hk0
    have e0:B8s (List.replicate 0 0)=[]:=rfl
    rw [e0] at hst ⊢
    simp at hst
    have hw0:IntKind.i64.wrap 0=0:=by rw [IntKind.wrap_i64];rfl
    have hr0:n≤cap:=hroom
    simp [Builtin.append_,run_underlying Tryz.underlying76,run_underlying Tryz.underlying3,sizeOf,typeInfo,zeroValue,hi,hz,h1,h2,asInt,asIntOf,hw0,hr0,Addr.add_lit,hst]
  · have hn0:¬ (k=0):=by omega
    have hzc:Builtin.zeroCells #[Value.int .u8 0] k=(B8s (List.replicate k 0)).toArray:=by rw [← zeroCells8]
    simp [Builtin.append_,run_underlying Tryz.underlying76,run_underlying Tryz.underlying3,sizeOf,typeInfo,zeroValue,hi,hz,h1,h2,asInt,asIntOf,hw,hneg,h48i,hroom,hn0,Value.cells,hzc,Addr.add_lit,hst]
theorem run_appz (W:World) (ty:TypeId) (base n k:Nat) (v:Value) (xs:List UInt8) (HO:W.ownsRow base 5 1 v n (B8s xs)) (hn:n≤1000000) (hk:k≤1000000) (hbase:base≤W.heap.size) :
    ∃ v' w',(Builtin.append_ #[76,3] ty #[v,.int .i64 k]).run Tryz.prog W=.ok v' w'∧w'.ownsRow base 5 1 v' (n+k) (B8s (xs++List.replicate k 0))∧W.grownBy w' v.ownBlock:=by
  obtain ⟨i,hi,hz,h1,h2⟩:=infoP8
  have hxl:xs.length=n:=by have:=HO.1;simpa [B8s_length] using this
  have HO':=HO
  rcases HO.2 with ⟨rfl,rfl⟩ | ⟨g,cap,cur,rfl,hbg,hgg,hnc,hcm,hcs,htake⟩
  · obtain rfl:xs=[]:=List.eq_nil_of_length_eq_zero hxl
    rcases Nat.eq_zero_or_pos k with hk0 | hk0
    · subst hk0
      refine ⟨.slice none 0 0,W,?_,World.ownsRow_nil _ _ _ _,⟨rfl,rfl,rfl,Nat.le_refl _,fun _ _ _=>rfl⟩⟩
      have hw0:IntKind.i64.wrap 0=0:=by rw [IntKind.wrap_i64];rfl
      simp [Builtin.append_,run_underlying Tryz.underlying76,run_underlying Tryz.underlying3,sizeOf,typeInfo,zeroValue,hi,hz,h2,asInt,asIntOf,hw0]
    · have hr:=Lib.run_append_nil_zeros (P:=Tryz.prog) W 76 3 ty 5 i (.int .u8 0) .i64 .i64 Tryz.underlying76 Tryz.underlying3 hi hz k hk0 (by omega) (by omega) (by rw [h2];omega)
      refine ⟨_,_,hr,?_,⟨rfl,rfl,rfl,by simp,fun j hj _=>(by first | exact heap_alloc_old W.drew _ hj | exact heap_alloc_old W.drew _ _ hj)⟩⟩
      have hge:=grownCap_ge W k 0 5
      have hcm:=grownCap_le_maxLen W k 0 5 (by simp only [maxLen];omega)
      refine ⟨by simp [B8s_length],.inr ⟨W.heap.size,_,_,by rw [Nat.zero_add],hbase,heap_alloc_new W.drew _,by omega,hcm,?_,?_⟩⟩
      · simp [Value.cells,Builtin.zeroCells]
        omega
      · rw [Array.toList_append,show (Builtin.zeroCells (Value.int .u8 0).cells k).toList=B8s (List.replicate k 0) from zeroCells8 k,List.nil_append]
        exact List.take_left' (by simp [B8s_length])
  · by_cases hroom:n+k≤cap
    · have hr:=run_room_zeros8 W ty g n cap k cur hgg hroom (by omega) hk
      refine ⟨_,_,hr,⟨by simp [B8s_length,hxl],.inr ⟨g,cap,_,rfl,hbg,setRow_heap W g cur _ 5 _ hgg,hroom,hcm,?_,?_⟩⟩,⟨rfl,rfl,rfl,by simp,fun j _ hj=>setRow_other W g j _ (fun e=>hj (by simp [Value.ownBlock,e]))⟩⟩
      · simp [B8s_length]
        omega
      · have ht:cur.toList.take n=B8s xs:=by simpa using htake
        rw [ht,show B8s (xs++List.replicate k 0)=B8s xs++B8s (List.replicate k 0) from by simp [B8s]]
        exact List.take_left' (by simp [B8s_length,hxl])
    · have hold:(Builtin.firstCells i.size n (.slice (some ⟨g,0,none⟩) n cap)).run Tryz.prog W.drew=.ok (B8s xs).toArray W.drew:=by
        have:=run_firstCells_some (P:=Tryz.prog) W.drew i.size n ⟨g,0,none⟩ n cap (B8s xs) (by rw [h1];exact HO.1) (fun j u hj=>HO.cells (g:=g) rfl j u hj)
        exact this
      have hr:=Lib.run_append_grow_zeros (P:=Tryz.prog) W 76 3 ty 5 i (.int .u8 0) .i64 .i64 Tryz.underlying76 Tryz.underlying3 hi hz (some ⟨g,0,none⟩) n cap (B8s xs) hold k (by omega) (by omega) (by omega) (by omega) (by rw [h2];omega) (growslice_fits (by omega) (by rw [h2];omega))
      refine ⟨_,_,hr,?_,⟨rfl,rfl,rfl,by simp,fun j hj _=>(by first | exact heap_alloc_old W.drew _ hj | exact heap_alloc_old W.drew _ _ hj)⟩⟩
      have hge:=grownCap_ge W (n+k) cap 5
      have hcm:=grownCap_le_maxLen W (n+k) cap 5 (by simp only [maxLen];omega)
      refine ⟨by simp [B8s_length,hxl],.inr ⟨W.heap.size,_,_,rfl,hbase,heap_alloc_new W.drew _,by omega,hcm,?_,?_⟩⟩
      · simp [Value.cells,Builtin.zeroCells,B8s_length,hxl]
        omega
      · rw [Array.toList_append,Array.toList_append,show (Builtin.zeroCells (Value.int .u8 0).cells k).toList=B8s (List.replicate k 0) from zeroCells8 k,show B8s (xs++List.replicate k 0)=B8s xs++B8s (List.replicate k 0) from by simp [B8s]]
        exact List.take_left' (by simp [B8s_length,hxl])
end Go.Proofs.YtheeomjfpnijbaaGreatDoor
namespace Go.Proofs.YtheeomjfpnijbaaGreatDoor
open Go.RowKit Go.Shelf
section
variable {w0 wr w':World} {bp bd bl bm B wm lm k:Nat} {clock c:Nat} {M:List (Int × Buf)} {C:Int→Nat × List UInt8} {D:Nat→List UInt8} {L:LogV} {m1 m2:List (Int × Value)}
end
end Go.Proofs.YtheeomjfpnijbaaGreatDoor
end
section
namespace Go.Proofs.YtheeomjfpnijbaaGreatDoor
open Go.RowKit Go.Shelf
theorem forceC_all (N:Zone) (bd bl n:Nat):ForceC N bd bl n:=by
  intro w c D L h hc
  by_cases he:L.forced=L.last
  · refine (force_same h.log he).mono ?_
    rintro e w' ⟨rfl,hb⟩
    exact ⟨rfl,L,D,⟨rfl,rfl,rfl,rfl,he,rfl,rfl,fun _ _=>rfl⟩,h.below hb,Upd.of_below' hb _⟩
  · refine (force_any bd bl n c D L w h (by omega) he).mono ?_
    rintro e w' ⟨rfl,hs,hu⟩
    refine ⟨rfl,{ L with forced:=L.last,durable:=L.xs.length },forceF L D,⟨rfl,rfl,rfl,rfl,rfl,rfl,rfl,fun i hi=>?_⟩,hs.more (Nat.zero_le _),hu⟩
    unfold forceF
    rw [if_neg]
    rintro ⟨-,h2⟩
    have h3:=h.lok.long
    have h4:L.sectors≤i - L.fro:=by omega
    have h5:=Nat.mul_le_mul_right 112 h4
    omega
def Zone.plus (N:Zone) (o:Option Nat):Zone:=⟨N.B,fun k=>N k ∨ o=some k,N.far⟩
theorem Byt.plus {w:World} {N:Zone} {o:Option Nat} {v:Value} {xs:List UInt8} (h:Byt w N v xs) (ho:∀ g,o=some g→w.heap.size≤g ∨ N g):Byt w (N.plus o) v xs :=
  h.mono (fun k hk hn=>by
    rcases hn with hn | hn
    · exact hn
    · rcases ho k hn with h' | h'
      · omega
      · exact h')
theorem DiskIs.plus {w:World} {N:Zone} {o:Option Nat} {bd n c:Nat} {D:Nat→List UInt8} (h:DiskIs w N bd n D c) (ho:∀ g,o=some g→w.heap.size≤g ∨ N g):DiskIs w (N.plus o) bd n D c:=by
  obtain ⟨S,P,hd,r⟩:=h
  exact ⟨S,P,hd.mono (N':=N.plus o) (fun k hk hn=>by
    rcases hn with hn | hn
    · exact hn
    · rcases ho k hn with h' | h'
      · omega
      · exact h') (Nat.le_refl _) (fun _ h=>h),r⟩
section
variable {w w':World} {N:Zone} {bp bd bl bm fro pages buffers clock sz c:Nat} {M:List (Int × Buf)} {C:Int→Nat × List UInt8} {D:Nat→List UInt8} {L:LogV}
theorem PoolAt.plus {o:Option Nat} (h:PoolAt w N bp bd bl bm fro pages buffers clock M) (ho:∀ g,o=some g→w.heap.size≤g ∨ N g):PoolAt w (N.plus o) bp bd bl bm fro pages buffers clock M :=
  ⟨h.cells,h.map,fun x hx=>by
    obtain ⟨v,h1,h2⟩:=h.bufs x hx
    exact ⟨v,h1,h2.plus ho⟩,h.apart,h.low,h.nums,h.keys⟩
def AT (bl:Nat) (sv:Value) (k:Nat):Prop:=k=bl ∨ some k=sv.ownBlock
theorem St.at_typed (h:St w N bd bl sz c D L) {k:Nat} (hk:AT bl L.sv k):N.B≤k∧(Typed w k 267 ∨ (Typed w k 5∧N k)):=by
  rcases hk with rfl | hk
  · exact ⟨h.llow,.inl h.log.typed⟩
  · exact ⟨own_ge h.log.own hk,.inr ⟨own_typed h.log.own hk,h.lown k hk.symm⟩⟩
theorem St.appended {sv':Value} {T:List UInt8} (h:St w N bd bl sz c D L) (hl:LogAt w' N.B bl bd L.fro L.sectors L.first (L.last+1) L.forced L.durable sv' (L.xs++T)) (hv:sv'.ownBlock=L.sv.ownBlock ∨ ∃ g,sv'.ownBlock=some g∧w.heap.size≤g∧g < w'.heap.size)
    (hu:Upd (AT bl L.sv) w w') (hlen:(L.xs++T).length≤L.sectors * 112) (hla:L.last+1≤4611686018427387904):St w' (N.plus sv'.ownBlock) bd bl sz c D { L with last:=L.last+1,sv:=sv',xs:=L.xs++T } where
  disk:=(h.disk.plus (fun g hg=>by
    rcases hv with e | ⟨g',e,h1,-⟩
    · exact .inr (h.lown g (by rw [← e];exact hg))
    · rw [e] at hg;cases hg;exact .inl h1)).upd hu (fun k hk hd=>by
      obtain ⟨-,ht | ⟨ht,-⟩⟩:=h.at_typed hk <;> rcases hd with ⟨-,hd | hd | hd⟩ <;> exact absurd (hd.one ht) (by decide)) (fun k hk ht=>by
      obtain ⟨-,ht' | ⟨-,hn⟩⟩:=h.at_typed hk
      · exact absurd (ht.one ht') (by decide)
      · exact .inl hn)
  log:=hl
  lown:=fun g hg=>.inr hg
  llow:=h.llow
  lok:=⟨h.lok.inn,hlen,by have:=h.lok.dur;simp only [List.length_append];omega,hla,h.lok.first,Nat.le_succ_of_le h.lok.forced⟩
  no:=fun k hk=>by
    rcases hk with hk | hk
    · exact Nat.lt_of_lt_of_le (h.no k hk) hu.size
    · rcases hv with e | ⟨g',e,-,h2⟩
      · exact Nat.lt_of_lt_of_le (h.no k (h.lown k (by rw [← e];exact hk))) hu.size
      · rw [e] at hk;cases hk;exact h2
  halves:=h.halves.upd hu (fun ht=>by have:=(h.at_typed ht).1;have:=h.hlow;omega)
  hlow:=h.hlow
  base:=Nat.le_trans h.base hu.size
end
end Go.Proofs.YtheeomjfpnijbaaGreatDoor
end
