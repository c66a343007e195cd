/- Lemmas: PoolInv. -/
import Derived.Test.YtheeomjfpnijbaaGreatDoorStateP
import Derived.Test.YtheeomjfpnijbaaGreatDoorPageMathP
set_option linter.unusedVariables false
namespace Go.Proofs.YtheeomjfpnijbaaGreatDoor
open Go.RowKit Go.Shelf
structure PInv (fro pages:Nat) (D:Nat→List UInt8) (M:List (Int × Buf)) (C:Int→Nat × List UInt8):Prop where
  held:∀ x∈M,x.2.lsn=(C x.1).1∧x.2.load=(C x.1).2∧(x.2.first=0→D (fro+x.1.toNat)=encV (C x.1).1 (C x.1).2)
  not:∀ n:Int,0≤n→n < pages→n ∉ M.map (·.1)→D (fro+n.toNat)=encV (C n).1 (C n).2
  ok:∀ n:Int,0≤n→n < pages→(C n).1≤4611686018427387904∧(C n).2.length=112
def Wr (fro pages:Nat) (C:Int→Nat × List UInt8) (L:LogV) (D:Nat→List UInt8) (L':LogV) (D':Nat→List UInt8):Prop :=
  (L'=L∧D'=D) ∨ ∃ (k:Int) (D1:Nat→List UInt8),0≤k∧k < pages∧Forc L L' (C k).1 D D1∧D'=updD D1 (fro+k.toNat) (encV (C k).1 (C k).2)
def pinsOf (M:List (Int × Buf)) (k:Int):Nat:=((look M k).map (·.pins)).getD 0
theorem Forc.disk {L L':LogV} {l i:Nat} {D D':Nat→List UInt8} (h:Forc L L' l D D') (hi:L.fro+L.sectors≤i):D' i=D i:=by
  rcases h with ⟨-,rfl,-⟩ | ⟨-,h⟩
  · rfl
  · exact h.disk i hi
theorem Forc.same {L L':LogV} {l:Nat} {D D':Nat→List UInt8} (h:Forc L L' l D D'):L'.fro=L.fro∧L'.sectors=L.sectors∧L'.last=L.last∧(L.forced=L.last→L'.forced=L'.last)∧(L.forced≤L.last→L.forced≤L'.forced)∧(l≤L.last→l≤L'.forced):=by
  rcases h with ⟨rfl,-,hl⟩ | ⟨hl,h⟩
  · exact ⟨rfl,rfl,rfl,id,fun _=>Nat.le_refl _,fun _=>hl⟩
  · exact ⟨h.fro,h.sectors,h.last,fun _=>by rw [h.forced,h.last],fun he=>by rw [h.forced];exact he,fun he=>by rw [h.forced];exact he⟩
theorem Wr.same {fro pages:Nat} {C:Int→Nat × List UInt8} {L L':LogV} {D D':Nat→List UInt8} (h:Wr fro pages C L D L' D'):L'.fro=L.fro∧L'.sectors=L.sectors∧L'.last=L.last∧(L.forced=L.last→L'.forced=L'.last)∧(L.forced≤L.last→L.forced≤L'.forced):=by
  rcases h with ⟨rfl,rfl⟩ | ⟨k,D1,-,-,hf,-⟩
  · exact ⟨rfl,rfl,rfl,id,fun _=>Nat.le_refl _⟩
  · have:=hf.same
    exact ⟨this.1,this.2.1,this.2.2.1,this.2.2.2.1,this.2.2.2.2.1⟩
theorem pinsOf_setM {M:List (Int × Buf)} {n:Int} {b b':Buf} (hn:(M.map (·.1)).Nodup) (hm:(n,b)∈M) (hb:b'.pins=b.pins) (k:Int):pinsOf (setM M n b') k=pinsOf M k:=by
  unfold pinsOf
  rw [look_setM]
  by_cases h:k=n
  · subst h
    rw [look_of_mem hn hm]
    simp [hb]
  · simp [h]
theorem setM_self {M:List (Int × Buf)} (hn:(M.map (·.1)).Nodup) {n:Int} {b:Buf} (hm:(n,b)∈M):setM M n b=M:=by
  unfold setM
  have:M.map (fun x=>if x.1=n then (n,b) else x)=M.map id:=List.map_congr_left fun x hx=>by
    simp only [id]
    split
    · rename_i h
      obtain ⟨x1,x2⟩:=x
      simp only at h
      subst h
      rw [one_key hn hm hx]
    · rfl
  rw [this,List.map_id]
theorem mem_setM_self {M:List (Int × Buf)} {n:Int} {b b':Buf} (hm:(n,b)∈M):(n,b')∈setM M n b':=by
  unfold setM
  exact List.mem_map.2 ⟨(n,b),hm,by simp⟩
theorem PInv.flushed {fro pages:Nat} {D D1:Nat→List UInt8} {M:List (Int × Buf)} {C:Int→Nat × List UInt8} {n:Int} {b:Buf} (h:PInv fro pages D M C) (hn:(M.map (·.1)).Nodup) (hk:∀ x∈M,0≤x.1∧x.1 < pages) (hm:(n,b)∈M) (hD:∀ i,fro≤i→D1 i=D i) :
    PInv fro pages (updD D1 (fro+n.toNat) (encV b.lsn b.load)) (setM M n { b with first:=0 }) C:=by
  obtain ⟨e1,e2,-⟩:=h.held _ hm
  simp only at e1 e2
  have hne:∀ k:Int,0≤k→k ≠ n→¬ fro+k.toNat=fro+n.toNat:=fun k h0 hk1 he=>by have:=(hk _ hm).1;simp only at this;omega
  refine ⟨fun x hx=>?_,fun k h0 h1 hk1=>?_,h.ok⟩
  · rcases mem_setM hx with rfl | ⟨hx,hx1⟩
    · exact ⟨e1,e2,fun _=>by simp only [updD,if_true,e1,e2]⟩
    · obtain ⟨e3,e4,e5⟩:=h.held x hx
      refine ⟨e3,e4,fun hf=>?_⟩
      unfold updD
      rw [if_neg (hne x.1 (hk x hx).1 hx1),hD _ (by omega)]
      exact e5 hf
  · rw [setM_keys] at hk1
    unfold updD
    rw [if_neg (hne k h0 (fun e=>hk1 (by rw [e];exact List.mem_map.2 ⟨_,hm,rfl⟩))),hD _ (by omega)]
    exact h.not k h0 h1 hk1
theorem PInv.used {fro pages:Nat} {D:Nat→List UInt8} {M:List (Int × Buf)} {C:Int→Nat × List UInt8} {n:Int} {b b':Buf} (h:PInv fro pages D M C) (hm:(n,b)∈M) (h1:b'.lsn=b.lsn) (h2:b'.load=b.load) (h3:b'.first=b.first):PInv fro pages D (setM M n b') C:=by
  obtain ⟨e1,e2,e3⟩:=h.held _ hm
  refine ⟨fun x hx=>?_,fun k h0 h1 hk1=>h.not k h0 h1 (by rw [setM_keys] at hk1;exact hk1),h.ok⟩
  rcases mem_setM hx with rfl | ⟨hx,hx1⟩
  · exact ⟨h1.trans e1,h2.trans e2,fun hf=>e3 (h3.symm.trans hf)⟩
  · exact h.held x hx
theorem PInv.gone {fro pages:Nat} {D:Nat→List UInt8} {M:List (Int × Buf)} {C:Int→Nat × List UInt8} {n:Int} {b:Buf} (h:PInv fro pages D M C) (hn:(M.map (·.1)).Nodup) (hm:(n,b)∈M) (hf:b.first=0):PInv fro pages D (del M n) C:=by
  refine ⟨fun x hx=>h.held x (del_mem hx),fun k h0 h1 hk=>?_,h.ok⟩
  by_cases e:k=n
  · subst e
    exact (h.held _ hm).2.2 hf
  · refine h.not k h0 h1 (fun hk'=>hk ?_)
    have:=look_del hn (k:=n) (j:=k)
    rw [if_neg e] at this
    rw [← Classical.not_not (a:=k∈_),← look_none_iff] at hk' ⊢
    rw [this]
    exact hk'
theorem PInv.come {fro pages:Nat} {D:Nat→List UInt8} {M:List (Int × Buf)} {C:Int→Nat × List UInt8} {n:Int} {b:Buf} (h:PInv fro pages D M C) (h0:0≤n) (h1:n < pages) (hn:n ∉ M.map (·.1)) (e1:b.lsn=(C n).1) (e2:b.load=(C n).2):PInv fro pages D (M++[(n,b)]) C:=by
  refine ⟨fun x hx=>?_,fun k h0 h1 hk=>?_,h.ok⟩
  · rcases List.mem_append.1 hx with h' | h'
    · exact h.held x h'
    · rw [List.mem_singleton.1 h']
      exact ⟨e1,e2,fun _=>h.not n h0 h1 hn⟩
  · exact h.not k h0 h1 (fun hk'=>hk (by rw [List.map_append];exact List.mem_append_left _ hk'))
theorem pinsOf_del {M:List (Int × Buf)} {n:Int} {b:Buf} (hn:(M.map (·.1)).Nodup) (hm:(n,b)∈M) (hp:b.pins=0) (k:Int):pinsOf (del M n) k=pinsOf M k:=by
  unfold pinsOf
  rw [look_del hn]
  by_cases h:k=n
  · subst h
    rw [look_of_mem hn hm]
    simp [hp]
  · simp [h]
theorem pinsOf_come {M:List (Int × Buf)} {n:Int} {b:Buf} (hn:n ∉ M.map (·.1)) (hp:b.pins=0) (k:Int):pinsOf (M++[(n,b)]) k=pinsOf M k:=by
  unfold pinsOf
  rw [look_append]
  by_cases h:n=k
  · subst h
    rw [look_none_iff.2 hn]
    simp [hp]
  · simp [h]
section
variable {w w':World} {N:Zone} {bp bd bl bm fro pages buffers clock:Nat} {M:List (Int × Buf)}
theorem mapP_del (k:Int):mapP (del M k)=del (mapP M) k:=(del_mapV (fun b:Buf=>(Value.pointer (some ⟨b.blk,0,none⟩))) M k).symm
theorem PoolAt.bmUpd (h:PoolAt w N bp bd bl bm fro pages buffers clock M) (hu:Upd (fun k=>k=bm) w w'):w'.heap[bp]?=w.heap[bp]?∧∀ b,BufAt w N b→BufAt w' N b:=by
  have hT:∀ k t,k=bm→Typed w k t→False:=fun k t hk ht=>h.map.notTyped ht hk
  refine ⟨hu.block bp (Array.getElem?_eq_some_iff.1 h.cells).1 (fun e=>hT bp _ e h.typed),fun b hb=>hb.upd hu (fun e=>hT _ _ e hb.typed) (fun k hk ht=>(hT k _ hk ht).elim)⟩
theorem PoolAt.deleted {k:Int} (h:PoolAt w N bp bd bl bm fro pages buffers clock M) (hu:Upd (fun k=>k=bm) w w') (hm:MapZ w' bm (del (mapP M) k)):PoolAt w' N bp bd bl bm fro pages buffers clock (del M k):=by
  obtain ⟨h1,h2⟩:=h.bmUpd hu
  refine ⟨h1.trans h.cells,by rw [mapP_del];exact hm,fun x hx=>h2 _ (h.bufs x (del_mem hx)),?_,⟨h.low.1,h.low.2.1,fun x hx=>h.low.2.2 x (del_mem hx)⟩,fun x hx=>h.nums x (del_mem hx),fun x hx=>h.keys x (del_mem hx)⟩
  unfold del
  rw [← eraseIdx_of_map]
  exact h.apart.sublist (List.eraseIdx_sublist _ _)
theorem PoolAt.inserted {n:Int} {b:Buf} (h:PoolAt w N bp bd bl bm fro pages buffers clock M) (hu:Upd (fun k=>k=bm) w w') (hm:MapZ w' bm (mapP M++[(n,.pointer (some ⟨b.blk,0,none⟩))])) (hb:BufAt w N b) (hf:b.blk ∉ M.map (·.2.blk)) (hB:N.B≤b.blk) (ho:BufOk clock b) (h0:0≤n) (h1:n < pages):PoolAt w' N bp bd bl bm fro pages buffers clock (M++[(n,b)]):=by
  obtain ⟨g1,g2⟩:=h.bmUpd hu
  have hmem:∀ x∈M++[(n,b)],x∈M ∨ x=(n,b):=fun x hx=>by simpa using hx
  refine ⟨g1.trans h.cells,by simpa [mapP] using hm,fun x hx=>?_,?_,⟨h.low.1,h.low.2.1,fun x hx=>?_⟩,fun x hx=>?_,fun x hx=>?_⟩
  · rcases hmem x hx with h' | rfl
    · exact g2 _ (h.bufs x h')
    · exact g2 _ hb
  · rw [List.map_append,List.nodup_append]
    exact ⟨h.apart,by simp,fun a ha c hc e=>hf (by simp at hc;rw [← hc,← e];exact ha)⟩
  · rcases hmem x hx with h' | rfl
    · exact h.low.2.2 x h'
    · exact hB
  · rcases hmem x hx with h' | rfl
    · exact h.nums x h'
    · exact ho
  · rcases hmem x hx with h' | rfl
    · exact h.keys x h'
    · exact ⟨h0,h1⟩
abbrev FreeT (t:TypeId):Prop:=t ≠ 90∧t ≠ 76∧t ≠ 159∧t ≠ 267∧t ≠ 261∧t ≠ 321
theorem fs_not8 (h:PoolAt w N bp bd bl bm fro pages buffers clock M) {t:TypeId} (ht:t=5 ∨ t=3 ∨ t=265 ∨ FreeT t) (k:Nat) (hk:FS N bm w k) (hty:Typed w k t):False:=by
  rcases hk with ⟨-,hk | ⟨hk,-⟩ | hk | hk | hk | hk | hk⟩
  · have:=hty.one hk;rcases ht with rfl | rfl | rfl | hf <;> first | exact absurd this (by decide) | exact hf.1 this
  · have:=hty.one hk;rcases ht with rfl | rfl | rfl | hf <;> first | exact absurd this (by decide) | exact hf.2.1 this
  · have:=hty.one hk;rcases ht with rfl | rfl | rfl | hf <;> first | exact absurd this (by decide) | exact hf.2.2.1 this
  · have:=hty.one hk;rcases ht with rfl | rfl | rfl | hf <;> first | exact absurd this (by decide) | exact hf.2.2.2.1 this
  · have:=hty.one hk;rcases ht with rfl | rfl | rfl | hf <;> first | exact absurd this (by decide) | exact hf.2.2.2.2.1 this
  · have:=hty.one hk;rcases ht with rfl | rfl | rfl | hf <;> first | exact absurd this (by decide) | exact hf.2.2.2.2.2 this
  · exact h.map.notTyped hty hk
end
theorem pflush_any {N:Zone} (bp bd bl bm fro pages buffers clock sz c:Nat) (M:List (Int × Buf)) (C:Int→Nat × List UInt8) (n:Int) (b:Buf) (D:Nat→List UInt8) (L:LogV) (w:World) (h:PoolAt w N bp bd bl bm fro pages buffers clock M) (hs:St w N bd bl sz c D L) (hi:PInv fro pages D M C) (h3:fro+pages≤sz) (hc:c < 1000000) (hm:(n,b)∈M) (hL:L.fro+L.sectors≤fro) (hF:L.forced=L.last ∨ ForceC N bd bl sz) :
    Calls Tryz.prog 156 #[.pointer (some ⟨bp,0,none⟩),.int .i64 n] w fun e w'=>e=.returned (.int .i64 0)∧∃ L' D',St w' N bd bl sz (if b.first=0 then c else c+1) D' L'∧PoolAt w' N bp bd bl bm fro pages buffers clock (setM M n { b with first:=0 })∧PInv fro pages D' (setM M n { b with first:=0 }) C∧Wr fro pages C L D L' D'∧Upd (FS N bm w) w w':=by
  obtain ⟨k1,k2⟩:=h.keys _ hm
  simp only at k1 k2
  by_cases hf:b.first=0
  · refine (pflush_clean bp bd bl bm fro pages buffers clock M n w h k1 k2 (fun b' hb'=>by rw [one_key h.nodup hb' hm];exact hf)).mono ?_
    rintro e w' ⟨rfl,rfl⟩
    have e:({ b with first:=0 }:Buf)=b:=by cases b;simp only at hf;rw [hf]
    rw [e,setM_self h.nodup hm]
    rw [if_pos hf]
    exact ⟨rfl,L,D,hs,h,hi,.inl ⟨rfl,rfl⟩,Upd.refl _ _⟩
  · refine (pflush_dirty bp bd bm fro pages buffers clock M n w bl sz c D L b h hs k1 k2 h3 hc hm hf _ rfl hF).mono ?_
    rintro e w' ⟨rfl,L',D',hfo,hs',hp',hu⟩
    obtain ⟨e1,e2,-⟩:=hi.held _ hm
    simp only at e1 e2
    rw [if_neg hf]
    exact ⟨rfl,L',_,hs',hp',hi.flushed h.nodup h.keys hm (fun i hi=>hfo.disk (by omega)),.inr ⟨n,D',k1,k2,by rw [← e1];exact hfo,by rw [e1,e2]⟩,hu⟩
end Go.Proofs.YtheeomjfpnijbaaGreatDoor
