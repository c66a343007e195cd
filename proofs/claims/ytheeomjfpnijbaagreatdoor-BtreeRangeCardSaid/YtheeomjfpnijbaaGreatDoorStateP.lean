/- Lemmas: State. -/
import Derived.Test.YtheeomjfpnijbaaGreatDoorStateDP
import Derived.Test.YtheeomjfpnijbaaGreatDoorZPm
import Derived.Test.YtheeomjfpnijbaaGreatDoorZLg
import Derived.StillTailTactics
set_option linter.unusedVariables false
namespace Go.Proofs.YtheeomjfpnijbaaGreatDoor
open Go.RowKit Go.Shelf
theorem PoolAt.disked {w w':World} {N:Zone} {bp bd bl bm fro pages buffers clock:Nat} {M:List (Int × Buf)} (h:PoolAt w N bp bd bl bm fro pages buffers clock M) (hu:Upd (DS N w) w w'):PoolAt w' N bp bd bl bm fro pages buffers clock M :=
  h.upd hu (fun k hk _=>by
    rcases hk with ⟨-,hk | ⟨hk,-⟩ | hk⟩ <;> exact ⟨fun ht=>absurd (ht.one hk) (by decide),fun ht=>absurd (ht.one hk) (by decide),h.map.notTyped hk⟩) (fun k hk ht=>by rcases hk with ⟨-,hk | ⟨hk,-⟩ | hk⟩ <;> exact absurd (hk.one ht) (by decide))
theorem St.pooled {w w':World} {N:Zone} {T:Nat→Prop} {bd bl n c bp bm fro pages buffers clock:Nat} {D:Nat→List UInt8} {L:LogV} {M:List (Int × Buf)} (h:St w N bd bl n c D L) (hp:PoolAt w N bp bd bl bm fro pages buffers clock M) (hu:Upd T w w') (hT:∀ k,T k→N.B≤k∧(Typed w k 261 ∨ Typed w k 321 ∨ k=bm)):St w' N bd bl n c D L :=
  h.upd hu (fun k hk=>(hT k hk).1) (fun k hk=>by
    have hne:∀ t,t ≠ 261→t ≠ 321→¬ Typed w k t:=fun t h1 h2 ht=>by
      rcases (hT k hk).2 with e | e | e
      · exact h1 (ht.one e)
      · exact h2 (ht.one e)
      · exact hp.map.notTyped ht e
    exact ⟨fun hd=>by rcases hd with ⟨-,hd | ⟨hd,-⟩ | hd⟩ <;> exact hne _ (by decide) (by decide) hd,hne _ (by decide) (by decide),hne _ (by decide) (by decide)⟩)
end Go.Proofs.YtheeomjfpnijbaaGreatDoor
namespace Go.Proofs.YtheeomjfpnijbaaGreatDoor
open Go.RowKit Go.Shelf
set_option maxRecDepth 20000 in
set_option maxHeartbeats 1000000 in
theorem plook_any {N:Zone} (bp bd bl bm fro pages buffers clock:Nat) (M:List (Int × Buf)) (n:Int) (w:World) (h:PoolAt w N bp bd bl bm fro pages buffers clock M) (h1:0≤n) (h2:n < pages) :
    Calls Tryz.prog 208 #[.pointer (some ⟨bp,0,none⟩),.int .i64 n] w fun e w'=>e=.returned (.int .i64 0)∧w'=w:=by
  obtain ⟨k0,-,-,-,-,k5,-⟩:=h.load
  have hd1:decide (n < 0)=false:=decide_eq_false (by omega)
  have hd2:decide (n ≥ (pages:Int))=false:=decide_eq_false (by omega)
  have heq:=fun (W:World) (m:Option Nat)=>run_eql_map_nil (P:=Tryz.prog) W 257 3 317 m Tryz.underlying257
  clear h
  go_enter Tryz.func208,Tryz.ntmps208
  go_wp2
  go_returns
  exact ⟨rfl,rfl⟩
theorem none_any {w:World} {B bl bd fro sectors first last forced durable:Nat} {sv:Value} {xs:List UInt8} (h:LogAt w B bl bd fro sectors first last forced durable sv xs) :
    Calls Tryz.prog 158 #[.pointer (some ⟨bl,0,none⟩)] w fun e w'=>e=.returned (.bool false)∧w'=w:=by
  obtain ⟨k0,-⟩:=h.load
  clear h
  go_enter Tryz.func158,Tryz.ntmps158
  go_wp2
  go_ret
  exact ⟨rfl,rfl⟩
theorem forced_any {w:World} {B bl bd fro sectors first last forced durable:Nat} {sv:Value} {xs:List UInt8} (h:LogAt w B bl bd fro sectors first last forced durable sv xs) :
    Calls Tryz.prog 217 #[.pointer (some ⟨bl,0,none⟩)] w fun e w'=>e=.returned (.int .i64 forced)∧w'=w:=by
  obtain ⟨-,-,-,-,-,k5,-⟩:=h.load
  have H:=Lib.hid h
  clear h
  go_enter Tryz.func217,Tryz.ntmps217
  go_wp2_with fail
  refine (none_any H.out).mono ?_
  rintro e w1 ⟨rfl,rfl⟩
  go_wp2
  go_returns
  exact ⟨rfl,rfl⟩
theorem first_any {w:World} {B bl bd fro sectors first last forced durable:Nat} {sv:Value} {xs:List UInt8} (h:LogAt w B bl bd fro sectors first last forced durable sv xs) :
    Calls Tryz.prog 116 #[.pointer (some ⟨bl,0,none⟩)] w fun e w'=>e=.returned (.int .i64 first)∧w'=w:=by
  obtain ⟨-,-,-,k3,-⟩:=h.load
  have H:=Lib.hid h
  clear h
  go_enter Tryz.func116,Tryz.ntmps116
  go_wp2_with fail
  refine (none_any H.out).mono ?_
  rintro e w1 ⟨rfl,rfl⟩
  go_wp2
  go_returns
  exact ⟨rfl,rfl⟩
theorem force_same {w:World} {B bl bd fro sectors first last forced durable:Nat} {sv:Value} {xs:List UInt8} (h:LogAt w B bl bd fro sectors first last forced durable sv xs) (he:forced=last) :
    Calls Tryz.prog 152 #[.pointer (some ⟨bl,0,none⟩)] w fun e w'=>e=.returned (.int .i64 0)∧Below w.heap.size w w':=by
  obtain ⟨-,-,-,-,k4,k5,-⟩:=h.load
  have H:=Lib.hid h
  subst he
  have hee:((forced:Int) == (forced:Int))=true:=beq_self_eq_true _
  clear h
  go_enter Tryz.func152,Tryz.ntmps152
  go_wp2_with fail
  refine (none_any H.out).mono ?_
  rintro e w1 ⟨rfl,rfl⟩
  go_wp2
  go_region
  go_wp2
  go_returns
  exact ⟨rfl,(Below.refl _ _).drew⟩
structure ForcedR (L L':LogV) (D D':Nat→List UInt8):Prop where
  fro:L'.fro=L.fro
  sectors:L'.sectors=L.sectors
  first:L'.first=L.first
  last:L'.last=L.last
  forced:L'.forced=L.last
  sv:L'.sv=L.sv
  xs:L'.xs=L.xs
  disk:∀ i,L.fro+L.sectors≤i→D' i=D i
theorem FS.of_fl {N:Zone} {bm:Nat} {w w':World} (hu:Upd (FL N w) w w'):Upd (FS N bm w) w w':=hu.mono fun k _ hk=>by
  obtain ⟨hb,h | h | h | h⟩:=hk
  · exact ⟨hb,.inl h⟩
  · exact ⟨hb,.inr (.inl h)⟩
  · exact ⟨hb,.inr (.inr (.inl h))⟩
  · exact ⟨hb,.inr (.inr (.inr (.inl h)))⟩
theorem PoolAt.logged {w w':World} {N:Zone} {bp bd bl bm fro pages buffers clock:Nat} {M:List (Int × Buf)} (h:PoolAt w N bp bd bl bm fro pages buffers clock M) (hu:Upd (FL N w) w w'):PoolAt w' N bp bd bl bm fro pages buffers clock M :=
  h.upd hu (fun k hk _=>by
    rcases hk with ⟨-,hk | ⟨hk,-⟩ | hk | hk⟩ <;> exact ⟨fun ht=>absurd (ht.one hk) (by decide),fun ht=>absurd (ht.one hk) (by decide),h.map.notTyped hk⟩) (fun k hk ht=>by rcases hk with ⟨-,hk | ⟨hk,-⟩ | hk | hk⟩ <;> exact absurd (hk.one ht) (by decide))
def ForceC (N:Zone) (bd bl n:Nat):Prop:=∀ (w:World) (c:Nat) (D:Nat→List UInt8) (L:LogV),St w N bd bl n c D L→c < 1000000 →
  Calls Tryz.prog 152 #[.pointer (some ⟨bl,0,none⟩)] w fun e w'=>e=.returned (.int .i64 0)∧∃ L' D',ForcedR L L' D D'∧St w' N bd bl n c D' L'∧Upd (FL N w) w w'
theorem force_c {N:Zone} {bd bl n:Nat} (w:World) (c:Nat) (D:Nat→List UInt8) (L:LogV) (h:St w N bd bl n c D L) (hc:c < 1000000) (hF:L.forced=L.last ∨ ForceC N bd bl n) :
    Calls Tryz.prog 152 #[.pointer (some ⟨bl,0,none⟩)] w fun e w'=>e=.returned (.int .i64 0)∧∃ L' D',ForcedR L L' D D'∧St w' N bd bl n c D' L'∧Upd (FL N w) w w':=by
  rcases hF with he | hF
  · refine (force_same h.log he).mono ?_
    rintro e w' ⟨rfl,hb⟩
    exact ⟨rfl,L,D,⟨rfl,rfl,rfl,rfl,he,rfl,rfl,fun _ _=>rfl⟩,h.below hb,Upd.of_below' hb _⟩
  · exact hF w c D L h hc
def Forc (L L':LogV) (lsn:Nat) (D D':Nat→List UInt8):Prop:=(L'=L∧D'=D∧lsn≤L.forced) ∨ (¬ lsn≤L.forced∧ForcedR L L' D D')
theorem flush_turn {N:Zone} {bp bd bl bm fro pages buffers clock sz c:Nat} {M:List (Int × Buf)} {n:Int} {b:Buf} {D:Nat→List UInt8} {L:LogV} {w w5:World} (h:PoolAt w N bp bd bl bm fro pages buffers clock M) (hs:St w N bd bl sz c D L) (hm:(n,b)∈M) (hb:Below w.heap.size w w5) :
    St (w5.setCell ⟨b.blk,2,none⟩ (.int .i64 0)) N bd bl sz c D L∧PoolAt (w5.setCell ⟨b.blk,2,none⟩ (.int .i64 0)) N bp bd bl bm fro pages buffers clock (setM M n { b with first:=0 })∧Upd (FS N bm w) w (w5.setCell ⟨b.blk,2,none⟩ (.int .i64 0)):=by
  have h5:=h.below hb
  have hT:∀ k,k=b.blk→N.B≤k∧(Typed w5 k 261 ∨ Typed w5 k 321 ∨ k=bm):=fun k hk=>by subst hk;exact ⟨h.low.2.2 _ hm,.inr (.inl (h5.bufs _ hm).typed)⟩
  have hu:=Upd.setC w5 b.blk 2 (.int .i64 0)
  obtain ⟨v,hh,hy⟩:=h5.bufs _ hm
  refine ⟨(hs.below hb).pooled h5 hu hT,h5.turn hm (hu.mono fun k _ hk=>.inr hk) rfl ⟨v,?_,hy.upd hu ?_⟩ ?_ (Nat.le_refl _) ?_,FS.trans (FS.of_below hb) (FS.of_pool hu hT)⟩
  · rw [heap_setCell_same w5 b.blk 2 _ _ _ hh]
    rfl
  · intro k hk ht
    subst hk
    exact absurd (ht.one (h5.bufs _ hm).typed) (by decide)
  · have:=h.nums _ hm
    exact ⟨this.load,this.lsn,by simp,this.pins,this.used⟩
  · refine (hu.block bp (Array.getElem?_eq_some_iff.1 h5.cells).1 (fun e=>?_)).trans h5.cells
    have e:bp=b.blk:=e
    exact absurd ((h5.bufs _ hm).typed.one (e ▸ h5.typed)) (by decide)
theorem flush_facts {N:Zone} {bp bd bl bm fro pages buffers clock sz c:Nat} {M:List (Int × Buf)} {n:Int} {b:Buf} {D:Nat→List UInt8} {L:LogV} {w0 w:World} (h:PoolAt w N bp bd bl bm fro pages buffers clock M) (hs:St w N bd bl sz c D L) (hu:Upd (FS N bm w0) w0 w) (hm:(n,b)∈M) :
    ∃ q0 d0,w.drew.cell? ⟨b.blk,0,none⟩=some (.slice q0 112 d0)∧Hid (Rd w.drew q0 b.load)∧Hid (112≤d0)∧Hid (d0≤maxLen)∧Hid (b.load.length=112)∧Hid (eok b.lsn 112)∧Hid (Halves w.drew)∧Hid (PoolAt w.drew N bp bd bl bm fro pages buffers clock M)∧Hid (St w.drew N bd bl sz c D L)∧Hid (Upd (FS N bm w0) w0 w.drew):=by
  obtain ⟨⟨v0,cv,hby⟩,c1',c2',-⟩:=(h.bufs _ hm).cell
  obtain ⟨q0,d0,rfl⟩:=hby.slice
  have h112:=(h.nums _ hm).load
  have hl:=(h.nums _ hm).lsn
  simp only at hby h112 hl cv
  rw [h112] at cv hby
  obtain ⟨hrd,-,hle0,hmx0⟩:=hby.rd
  exact ⟨q0,d0,cv,Lib.hid (hrd.drewN 1),Lib.hid hle0,Lib.hid hmx0,Lib.hid h112,Lib.hid ⟨by omega,by omega,rfl⟩,Lib.hid hs.halves,Lib.hid (h.below (Below.refl _ _).drew),Lib.hid (hs.below (Below.refl _ _).drew),Lib.hid (FS.trans hu (FS.of_below (Below.refl _ _).drew))⟩
theorem flush_row {N:Zone} {bp bd bl bm fro pages buffers clock base c5:Nat} {M:List (Int × Buf)} {n:Int} {b:Buf} {q5:Option Addr} {xs:List UInt8} {w5:World} (h:PoolAt w5 N bp bd bl bm fro pages buffers clock M) (hm:(n,b)∈M) (ho:w5.ownsRow base 5 1 (.slice q5 128 c5) 128 (B8s xs)) :
    Rd (w5.setCell ⟨b.blk,2,none⟩ (.int .i64 0)) q5 xs:=by
  have:=own_upd ho (Upd.setC w5 b.blk 2 (.int .i64 0)) (fun k hk ht=>by subst hk;exact absurd (ht.one (h.bufs _ hm).typed) (by decide))
  obtain ⟨q,d,e',hr,-⟩:=own_rd this
  cases e'
  exact hr
theorem flush_wrap {w:World} {N:Zone} {bd bl sz c fro pages:Nat} {n:Int} {D:Nat→List UInt8} {L:LogV} (hs:St w N bd bl sz c D L) (h1:0≤n) (h2:n < pages) (h3:fro+pages≤sz):IntKind.i64.wrap ((fro:Int)+n)=((fro+n.toNat:Nat):Int):=by
  obtain ⟨S,P,hd,hn,-⟩:=hs.disk
  have:=hd.small
  rw [IntKind.wrap_i64]
  omega
section
variable {N:Zone} (bp bd bl bm fro pages buffers clock:Nat) (M:List (Int × Buf)) (n:Int) (w:World)
set_option maxRecDepth 20000 in
set_option maxHeartbeats 1000000 in
theorem pflush_clean (h:PoolAt w N bp bd bl bm fro pages buffers clock M) (h1:0≤n) (h2:n < pages) (hc:∀ b,(n,b)∈M→b.first=0) :
    Calls Tryz.prog 156 #[.pointer (some ⟨bp,0,none⟩),.int .i64 n] w fun e w'=>e=.returned (.int .i64 0)∧w'=w:=by
  have H:=Lib.hid h
  have H1:=Lib.hid h1
  have H2:=Lib.hid h2
  have k0:=h.load.1
  rcases hl:look M n with _ | b
  · have HL:Hid (look (mapP M) n=none):=Lib.hid (by rw [look_mapP,hl];rfl)
    clear h h1 h2 hc hl
    go_enter Tryz.func156,Tryz.ntmps156
    go_wp2_with fail
    refine (plook_any bp bd bl bm fro pages buffers clock M n _ H.out H1.out H2.out).mono ?_
    rintro e w1 ⟨rfl,rfl⟩
    go_wp2_with (at_lookup;refine wpList_look_ok (KK:=intKeys) rfl _ _ 257 rfl 3 317 Tryz.underlying257 Tryz.underlying3 _ zbuf n rfl rfl H.out.map.is ?_;rw [HL.out,Option.getD_none,Option.isSome_none])
    go_returns
    exact ⟨rfl,rfl⟩
  · have hm:=look_mem hl
    have hf:=hc b hm
    have HL:Hid (look (mapP M) n=some (.pointer (some ⟨b.blk,0,none⟩))):=Lib.hid (by rw [look_mapP,hl];rfl)
    have c2:=(h.bufs _ hm).cell.2.2.1
    simp only [hf] at c2
    clear h h1 h2 hc hl hm hf
    go_enter Tryz.func156,Tryz.ntmps156
    go_wp2_with fail
    refine (plook_any bp bd bl bm fro pages buffers clock M n _ H.out H1.out H2.out).mono ?_
    rintro e w1 ⟨rfl,rfl⟩
    go_wp2_with (at_lookup;refine wpList_look_ok (KK:=intKeys) rfl _ _ 257 rfl 3 317 Tryz.underlying257 Tryz.underlying3 _ zbuf n rfl rfl H.out.map.is ?_;rw [HL.out,Option.getD_some,Option.isSome_some])
    go_returns
    exact ⟨rfl,rfl⟩
theorem encV_len {l:Nat} {xs:List UInt8} (h:xs.length=112):(encV l xs).length=128:=encV_length h
set_option maxRecDepth 20000 in
set_option maxHeartbeats 2000000 in
theorem pflush_dirty (bl sz c:Nat) (D:Nat→List UInt8) (L:LogV) (b:Buf) (h:PoolAt w N bp bd bl bm fro pages buffers clock M) (hs:St w N bd bl sz c D L) (h1:0≤n) (h2:n < pages) (h3:fro+pages≤sz) (hc:c < 1000000) (hm:(n,b)∈M) (hd:b.first ≠ 0) (J:Nat) (hJ:fro+n.toNat=J) (hF:L.forced=L.last ∨ ForceC N bd bl sz) :
    Calls Tryz.prog 156 #[.pointer (some ⟨bp,0,none⟩),.int .i64 n] w fun e w'=>e=.returned (.int .i64 0)∧∃ L' D',Forc L L' b.lsn D D'∧St w' N bd bl sz (c+1) (updD D' J (encV b.lsn b.load)) L' ∧
      PoolAt w' N bp bd bl bm fro pages buffers clock (setM M n { b with first:=0 })∧Upd (FS N bm w) w w':=by
  have H:=Lib.hid h
  have HS:=Lib.hid hs
  have H1:=Lib.hid h1
  have H2:=Lib.hid h2
  have H3:=Lib.hid h3
  have HM:=Lib.hid hm
  have HF:=Lib.hid hF
  have HC:=Lib.hid hc
  have HJ:=Lib.hid hJ
  obtain ⟨k0,-,k2,k3,k4,-⟩:=h.load
  have HL:Hid (look (mapP M) n=some (.pointer (some ⟨b.blk,0,none⟩))):=Lib.hid (by rw [look_mapP,look_of_mem h.nodup hm];rfl)
  have c1:=(h.bufs _ hm).cell.2.1
  have c2:=(h.bufs _ hm).cell.2.2.1
  have hfz:((b.first:Int) == 0)=false:=by rw [beq_eq_false_iff_ne];omega
  simp only at c1 c2
  clear h hs h1 h2 h3 hm hF hd hc hJ
  go_enter Tryz.func156,Tryz.ntmps156
  go_wp2_with fail
  refine (plook_any bp bd bl bm fro pages buffers clock M n _ H.out H1.out H2.out).mono ?_
  rintro e w1 ⟨rfl,rfl⟩
  go_wp2_with (at_lookup;refine wpList_look_ok (KK:=intKeys) rfl _ _ 257 rfl 3 317 Tryz.underlying257 Tryz.underlying3 _ zbuf n rfl rfl H.out.map.is ?_;rw [HL.out,Option.getD_some,Option.isSome_some])
  have HLN:Hid (∀ k,LogAt (w1.drewN k) N.B bl bd L.fro L.sectors L.first L.last L.forced L.durable L.sv L.xs):=Lib.hid (fun k=>(HS.out.below (w':=w1.drewN k) ⟨rfl,rfl,rfl,Nat.le_refl _,fun _ _=>rfl⟩).log)
  go_quiet ((go_at_call 217;exact Calls.quiet_of_same (forced_any (HLN.out _))))
  by_cases hlf:b.lsn≤L.forced
  · have HFO:Hid (Forc L L b.lsn D D):=Lib.hid (.inl ⟨rfl,rfl,hlf⟩)
    have HPW:Hid (PoolAt (w1.drewN nq) N bp bd bl bm fro pages buffers clock M):=Lib.hid (H.out.below ⟨rfl,rfl,rfl,Nat.le_refl _,fun _ _=>rfl⟩)
    have HSW:Hid (St (w1.drewN nq) N bd bl sz c D L):=Lib.hid (HS.out.below ⟨rfl,rfl,rfl,Nat.le_refl _,fun _ _=>rfl⟩)
    have HUW:Hid (Upd (FS N bm w1) w1 (w1.drewN nq)):=Lib.hid ⟨rfl,rfl,rfl,Nat.le_refl _,fun _ _ _=>rfl⟩
    clear c1 c2 k2 k3 k4 k0
    generalize w1.drewN nq=WT at *
    go_wp2_with fail
    obtain ⟨q0,d0,cv,HR,HLE,HMX,H112,HEOK,HHT,HPD,HSD,HUD⟩:=flush_facts HPW.out HSW.out HUW.out HM.out
    have c1':WT.drew.cell? ⟨b.blk,1,none⟩=some (.int .i64 b.lsn):=(HPW.out.bufs _ HM.out).cell.2.1
    have cvT:WT.cell? ⟨b.blk,0,none⟩=some (.slice q0 112 d0):=cv
    have c1T:WT.cell? ⟨b.blk,1,none⟩=some (.int .i64 b.lsn):=c1'
    go_region_law (first
      | (go_simp;go_at_call 218;refine (encode_ok b.lsn q0 112 d0 b.load _ H112.out ?_ HLE.out HMX.out ?_ HEOK.out).mono ?_;exact HR.out;exact HHT.out;rintro e w5 ⟨v5,rfl,ho5,hb5⟩;obtain ⟨q5,d5,rfl,-⟩:=own_slice ho5;have HO5:=Lib.hid ho5;have HB5:=Lib.hid hb5;clear ho5 hb5))
    all_goals
      have HP5:=Lib.hid (HPD.out.below HB5.out)
      have c25:=(HP5.out.bufs _ HM.out).cell.2.2.1
      have f25:w5.frozen? ⟨b.blk,2,none⟩=false:=by obtain ⟨u,hu,-⟩:=HP5.out.bufs _ HM.out;exact frozenC hu
      have E:=Lib.hid (flush_turn HPD.out HSD.out HM.out HB5.out)
      have HO6:=Lib.hid (flush_row HP5.out HM.out HO5.out)
      have hwr:IntKind.i64.wrap ((fro:Int)+n)=(J:Int):=by rw [flush_wrap HS.out H1.out H2.out H3.out,HJ.out]
      clear cvT c1T c1'
      go_wp2_with fail
      generalize w5.setCell ⟨b.blk,2,none⟩ (.int .i64 0)=WS at *
      have k25:WS.cell? ⟨bp,2,none⟩=some (.pointer (some ⟨bd,0,none⟩)):=E.out.2.1.load.2.2.1
      have k45:WS.cell? ⟨bp,4,none⟩=some (.int .i64 fro):=E.out.2.1.load.2.2.2.2.1
      go_still_tail 11,(by kernel_rfl)
      clear k25 k45
      change wpList _ _ _ _ _ WS.drew
      have HE1:=Lib.hid (E.out.1.below (Below.refl _ _).drew)
      have HE2:=Lib.hid (E.out.2.1.below (Below.refl _ _).drew)
      have HE3:Hid (Upd (FS N bm w1) w1 WS.drew):=Lib.hid (FS.trans (FS.trans HUD.out E.out.2.2) (FS.of_below (Below.refl _ _).drew))
      have HO7:Hid (Rd WS.drew q5 (encV b.lsn b.load)):=Lib.hid (HO6.out.drewN 1)
      generalize WS.drew=W6 at *
      obtain ⟨-,-,k26,-,k46,-⟩:=HE2.out.load
      have HIN:Hid (J < sz):=Lib.hid (by have:=H1.out;have:=H2.out;have h5:=H3.out;have:=HJ.out;omega)
      clear c25 f25 cv
      go_wp2_with fail
      refine (disIs_write bd sz c J D q5 d5 (encV b.lsn b.load) _ HE1.out.disk HE1.out.no HIN.out (encV_len H112.out) HO7.out (by have:=HC.out;omega)).mono ?_
      rintro e w7 ⟨rfl,hd7,hu7⟩
      have HD7:=Lib.hid hd7
      have HU7:=Lib.hid hu7
      clear hd7 hu7
      go_wp2_with fail
      go_returns
      exact ⟨rfl,L,D,HFO.out,HE1.out.disked HU7.out HD7.out,HE2.out.disked HU7.out,FS.trans HE3.out (FS.of_disk HU7.out)⟩
  · have hdl:L.forced < b.lsn:=by omega
    have HLF:=Lib.hid hlf
    have HPW0:Hid (PoolAt (w1.drewN nq) N bp bd bl bm fro pages buffers clock M):=Lib.hid (H.out.below ⟨rfl,rfl,rfl,Nat.le_refl _,fun _ _=>rfl⟩)
    have HSW0:Hid (St (w1.drewN nq) N bd bl sz c D L):=Lib.hid (HS.out.below ⟨rfl,rfl,rfl,Nat.le_refl _,fun _ _=>rfl⟩)
    have HUW0:Hid (Upd (FS N bm w1) w1 (w1.drewN nq)):=Lib.hid ⟨rfl,rfl,rfl,Nat.le_refl _,fun _ _ _=>rfl⟩
    clear hlf c1 c2 k2 k3 k4 k0
    generalize w1.drewN nq=W0 at *
    obtain ⟨k00,-,-,k03,-⟩:=HPW0.out.load
    go_wp2_with fail
    refine (force_c _ c D L HSW0.out HC.out HF.out).mono ?_
    rintro e WT ⟨rfl,L1,D1,hfr,hst,hup⟩
    have HFO:Hid (Forc L L1 b.lsn D D1):=Lib.hid (.inr ⟨HLF.out,hfr⟩)
    have HPW:Hid (PoolAt WT N bp bd bl bm fro pages buffers clock M):=Lib.hid (HPW0.out.logged hup)
    have HSW:=Lib.hid hst
    have HUW:Hid (Upd (FS N bm w1) w1 WT):=Lib.hid (FS.trans HUW0.out (FS.of_fl hup))
    clear hfr hst hup k00 k03
    go_wp2_with fail
    obtain ⟨q0,d0,cv,HR,HLE,HMX,H112,HEOK,HHT,HPD,HSD,HUD⟩:=flush_facts HPW.out HSW.out HUW.out HM.out
    have c1':WT.drew.cell? ⟨b.blk,1,none⟩=some (.int .i64 b.lsn):=(HPW.out.bufs _ HM.out).cell.2.1
    have cvT:WT.cell? ⟨b.blk,0,none⟩=some (.slice q0 112 d0):=cv
    have c1T:WT.cell? ⟨b.blk,1,none⟩=some (.int .i64 b.lsn):=c1'
    go_region_law (first
      | (go_simp;go_at_call 218;refine (encode_ok b.lsn q0 112 d0 b.load _ H112.out ?_ HLE.out HMX.out ?_ HEOK.out).mono ?_;exact HR.out;exact HHT.out;rintro e w5 ⟨v5,rfl,ho5,hb5⟩;obtain ⟨q5,d5,rfl,-⟩:=own_slice ho5;have HO5:=Lib.hid ho5;have HB5:=Lib.hid hb5;clear ho5 hb5))
    all_goals
      have HP5:=Lib.hid (HPD.out.below HB5.out)
      have c25:=(HP5.out.bufs _ HM.out).cell.2.2.1
      have f25:w5.frozen? ⟨b.blk,2,none⟩=false:=by obtain ⟨u,hu,-⟩:=HP5.out.bufs _ HM.out;exact frozenC hu
      have E:=Lib.hid (flush_turn HPD.out HSD.out HM.out HB5.out)
      have HO6:=Lib.hid (flush_row HP5.out HM.out HO5.out)
      have hwr:IntKind.i64.wrap ((fro:Int)+n)=(J:Int):=by rw [flush_wrap HS.out H1.out H2.out H3.out,HJ.out]
      clear cvT c1T c1'
      go_wp2_with fail
      generalize w5.setCell ⟨b.blk,2,none⟩ (.int .i64 0)=WS at *
      have k25:WS.cell? ⟨bp,2,none⟩=some (.pointer (some ⟨bd,0,none⟩)):=E.out.2.1.load.2.2.1
      have k45:WS.cell? ⟨bp,4,none⟩=some (.int .i64 fro):=E.out.2.1.load.2.2.2.2.1
      go_still_tail 11,(by kernel_rfl)
      clear k25 k45
      change wpList _ _ _ _ _ WS.drew
      have HE1:=Lib.hid (E.out.1.below (Below.refl _ _).drew)
      have HE2:=Lib.hid (E.out.2.1.below (Below.refl _ _).drew)
      have HE3:Hid (Upd (FS N bm w1) w1 WS.drew):=Lib.hid (FS.trans (FS.trans HUD.out E.out.2.2) (FS.of_below (Below.refl _ _).drew))
      have HO7:Hid (Rd WS.drew q5 (encV b.lsn b.load)):=Lib.hid (HO6.out.drewN 1)
      generalize WS.drew=W6 at *
      obtain ⟨-,-,k26,-,k46,-⟩:=HE2.out.load
      have HIN:Hid (J < sz):=Lib.hid (by have:=H1.out;have:=H2.out;have h5:=H3.out;have:=HJ.out;omega)
      clear c25 f25 cv
      go_wp2_with fail
      refine (disIs_write bd sz c J D1 q5 d5 (encV b.lsn b.load) _ HE1.out.disk HE1.out.no HIN.out (encV_len H112.out) HO7.out (by have:=HC.out;omega)).mono ?_
      rintro e w7 ⟨rfl,hd7,hu7⟩
      have HD7:=Lib.hid hd7
      have HU7:=Lib.hid hu7
      clear hd7 hu7
      go_wp2_with fail
      go_returns
      exact ⟨rfl,L1,D1,HFO.out,HE1.out.disked HU7.out HD7.out,HE2.out.disked HU7.out,FS.trans HE3.out (FS.of_disk HU7.out)⟩
end
end Go.Proofs.YtheeomjfpnijbaaGreatDoor
