/- Lemmas: Aries, Mgr, Lock. -/
import Derived.Test.YtheeomjfpnijbaaGreatDoorZPa
import Derived.Test.YtheeomjfpnijbaaGreatDoorZPm
import Derived.Test.YtheeomjfpnijbaaGreatDoorMutex
import Derived.Test.YtheeomjfpnijbaaGreatDoorDiskP
set_option linter.unusedVariables false
section
namespace Go.Proofs.YtheeomjfpnijbaaGreatDoor
open Go.RowKit Go.Shelf
structure Rec where
  kind:Nat
  tx:Nat
  page:Nat
  off:Nat
  ahead:ByteArray
  behind:ByteArray
  undone:Nat
  lsn:Nat
def recCells (r:Rec):List Value:=[.int .i64 r.kind,.int .i64 r.tx,.int .i64 r.page,.int .i64 r.off,.string r.ahead,.string r.behind,.int .i64 r.undone,.int .i64 r.lsn]
def recV (r:Rec):Value:=.agg #[.int .i64 r.kind,.int .i64 r.tx,.int .i64 r.page,.int .i64 r.off,.string r.ahead,.string r.behind,.int .i64 r.undone,.int .i64 r.lsn]
theorem recCells_length (r:Rec):(recCells r).length=8:=rfl
structure Tx where
  blk:Nat
  row:Value
  us:List Rec
structure Par where
  bg:Nat
  bp:Nat
  bd:Nat
  bl:Nat
  bm:Nat
  ba:Nat
  fro:Nat
  pages:Nat
  buffers:Nat
  sz:Nat
  G:Int→List UInt8:=fun _=>[]
structure ASt where
  N:Zone
  clock:Nat
  c:Nat
  M:List (Int × Buf)
  C:Int→Nat × List UInt8
  D:Nat→List UInt8
  L:LogV
  last:Nat
  recs:Nat
  A:List (Int × Tx)
  t:Nat
def mapA (A:List (Int × Tx)):List (Int × Value):=A.map fun x=>(x.1,.pointer (some ⟨x.2.blk,0,none⟩))
structure TxAt (w:World) (B:Nat) (t:Tx):Prop where
  cells:w.heap[t.blk]?=some (.cells #[t.row] 236 (0,0))
  row:w.ownsRow B 218 8 t.row t.us.length (t.us.flatMap recCells)
structure UpdOk (p:Par) (tx:Int) (r:Rec):Prop where
  kind:r.kind=1
  tx:(r.tx:Int)=tx
  page:r.page < p.pages
  off:r.off+r.behind.size≤112
  len:r.ahead.size=r.behind.size
  pos:0 < r.behind.size
  lsn:1≤r.lsn∧r.lsn≤4611686018427387904
structure MR (k:Int) (p:Par) (w:World) (s:ASt):Prop where
  cells:w.heap[p.bg]?=some (.cells #[.int .i32 k,.int .u32 0,.pointer (some ⟨p.bp,0,none⟩),.pointer (some ⟨p.bl,0,none⟩),.int .i64 p.pages,.int .i64 s.last,.int .i64 s.recs,.map (some p.ba)] 63 (0,0))
  run:Run s.N p.bp p.bd p.bl p.bm p.fro p.pages p.buffers p.sz w s.clock s.c s.M s.C s.D s.L
  map:MapZ w p.ba (mapA s.A)
  txs:∀ x∈s.A,TxAt w s.N.B x.2
  apart:(s.A.map (·.2.blk)).Nodup
  rows:s.A.Pairwise fun x y=>∀ g,x.2.row.ownBlock=some g→y.2.row.ownBlock ≠ some g
  low:s.N.B≤p.bg∧s.N.B≤p.ba∧p.ba ≠ p.bm∧∀ x∈s.A,s.N.B≤x.2.blk
  pins:∀ n,pinsOf s.M n=0
  few:s.A.length≤16
  keys:∀ x∈s.A,1≤x.1∧x.1≤1099511627776
  last:s.last≤1099511627776
  cnt:s.clock≤s.t∧s.c≤s.t∧s.L.last≤s.t∧s.recs≤s.t
  ups:∀ x∈s.A,∀ r∈x.2.us,UpdOk p x.1 r
  ulen:∀ x∈s.A,x.2.us.length≤s.t
  sect:s.L.sectors≤4096
end Go.Proofs.YtheeomjfpnijbaaGreatDoor
end
section
namespace Go.Proofs.YtheeomjfpnijbaaGreatDoor
open Go.RowKit Go.Shelf
def MS (N:Zone) (p:Par) (w:World) (k:Nat):Prop :=
  FS N p.bm w k ∨ (N.B≤k∧(k=p.ba ∨ Typed w k 63 ∨ Typed w k 236 ∨ Typed w k 218 ∨ (N k∧Typed w k 5)))
theorem MS.mono {N N':Zone} {p:Par} {w w':World} {k:Nat} (hB:N'.B=N.B) (hF:N'.far=N.far) (hz:N' k→N k) (h:w'.heap[k]?=w.heap[k]?) (ht:MS N' p w' k):MS N p w k:=by
  rcases ht with ht | ⟨hb,ht⟩
  · have:=fs_same (N:=N') w w' k h ht
    obtain ⟨h1,h2⟩:=this
    refine .inl ⟨by rw [← hB];exact h1,?_⟩
    unfold RowT at h2 ⊢
    rw [← hF]
    exact h2
  · refine .inr ⟨by rw [← hB];exact hb,?_⟩
    rcases ht with ht | ht | ht | ht | ⟨hn,ht⟩
    · exact .inl ht
    · exact .inr (.inl (typed_same w w' k h ht))
    · exact .inr (.inr (.inl (typed_same w w' k h ht)))
    · exact .inr (.inr (.inr (.inl (typed_same w w' k h ht))))
    · exact .inr (.inr (.inr (.inr ⟨hz hn,typed_same w w' k h ht⟩)))
structure Step (p:Par) (N:Zone) (w:World) (N':Zone) (w':World):Prop where
  B:N'.B=N.B
  far:N'.far=N.far
  upd:Upd (MS N p w) w w'
  zone:∀ k,k < w.heap.size→N' k→N k
theorem Step.of_below {p:Par} {N:Zone} {w w':World} (h:Below w.heap.size w w'):Step p N w N w':=⟨rfl,rfl,Upd.of_below' h _,fun _ _ h=>h⟩
theorem Step.of_fs {p:Par} {N:Zone} {w w':World} (h:Upd (FS N p.bm w) w w'):Step p N w N w':=⟨rfl,rfl,h.mono fun _ _ hk=>.inl hk,fun _ _ h=>h⟩
theorem Step.trans {p:Par} {N N1 N2:Zone} {w w1 w2:World} (h:Step p N w N1 w1) (h':Step p N1 w1 N2 w2):Step p N w N2 w2 where
  B:=h'.B.trans h.B
  far:=h'.far.trans h.far
  upd:=h.upd.trans' h'.upd fun j hj hb=>Classical.byContradiction fun hn=>hn (MS.mono h.B h.far (h.zone j hj) (h.upd.block j hj hn) hb)
  zone:=fun k hk hn=>h.zone k hk (h'.zone k (Nat.lt_of_lt_of_le hk h.upd.size) hn)
theorem Step.below {p:Par} {N N':Zone} {w w':World} (h:Step p N w N' w') (hB:N.B≤w.heap.size):Below N.B w w' :=
  Upd.below h.upd hB (fun k hk=>by rcases hk with hk | hk <;> exact hk.1)
abbrev FreeM (t:TypeId):Prop:=FreeT t∧t ≠ 5∧t ≠ 63∧t ≠ 236∧t ≠ 218
section
variable {k:Int} {p:Par} {w w':World} {s:ASt} {N':Zone}
theorem MR.typed (h:MR k p w s):Typed w p.bg 63:=⟨_,h.cells⟩
theorem MR.load (h:MR k p w s):w.cell? ⟨p.bg,0,none⟩=some (.int .i32 k)∧w.cell? ⟨p.bg,2,none⟩=some (.pointer (some ⟨p.bp,0,none⟩))∧w.cell? ⟨p.bg,3,none⟩=some (.pointer (some ⟨p.bl,0,none⟩)) ∧
    w.cell? ⟨p.bg,4,none⟩=some (.int .i64 p.pages)∧w.cell? ⟨p.bg,5,none⟩=some (.int .i64 s.last)∧w.cell? ⟨p.bg,6,none⟩=some (.int .i64 s.recs)∧w.cell? ⟨p.bg,7,none⟩=some (.map (some p.ba))∧p.bg < w.heap.size:=by
  refine ⟨?_,?_,?_,?_,?_,?_,?_,(Array.getElem?_eq_some_iff.1 h.cells).1⟩ <;> simp [World.cell?,h.cells]
theorem MR.not8 (h:MR k p w s) {t:TypeId} (ht:t=5 ∨ t=3 ∨ t=265 ∨ FreeT t) (j:Nat) (hj:FS s.N p.bm w j) (hty:Typed w j t):False:=fs_not8 h.run.pool ht j hj hty
theorem MR.free (h:MR k p w s) {t:TypeId} (ht:FreeM t) {j:Nat} (hty:Typed w j t):¬ MS s.N p w j:=fun hm=>by
  rcases hm with hm | ⟨-,hm | hm | hm | hm | ⟨-,hm⟩⟩
  · exact h.not8 (.inr (.inr (.inr ht.1))) j hm hty
  · exact h.map.notTyped hty hm
  · exact ht.2.2.1 (hty.one hm)
  · exact ht.2.2.2.1 (hty.one hm)
  · exact ht.2.2.2.2 (hty.one hm)
  · exact ht.2.1 (hty.one hm)
theorem MR.free8 (h:MR k p w s) {j:Nat} (hm:MS s.N p w j) (hty:Typed w j 5):s.N j:=by
  rcases hm with hm | ⟨-,hm | hm | hm | hm | ⟨hn,-⟩⟩
  · exact (h.not8 (.inl rfl) j hm hty).elim
  · exact (h.map.notTyped hty hm).elim
  · exact absurd (hty.one hm) (by decide)
  · exact absurd (hty.one hm) (by decide)
  · exact absurd (hty.one hm) (by decide)
  · exact hn
theorem MR.byt (h:MR k p w s) (hs:Step p s.N w N' w') {v:Value} {xs:List UInt8} (hb:Byt w s.N v xs):Byt w' N' v xs:=by
  have h1:Byt w' s.N v xs:=hb.upd hs.upd (fun j hj ht=>h.free8 hj ht)
  obtain ⟨q,c,e,e1,e2,e3⟩:=hb
  obtain ⟨q',c',e',f1,f2,f3⟩:=h1
  refine ⟨q',c',e',f1,f2,fun hp=>?_⟩
  obtain ⟨g,o,cs,rfl,g1,g2,g3⟩:=f3 hp
  obtain ⟨g',o',cs',h1,h2,h3,h4⟩:=e3 hp
  rw [e] at e'
  cases e'
  cases h1
  exact ⟨g,o,cs,rfl,g1,fun hn=>h3 (hs.zone g (Array.getElem?_eq_some_iff.1 h2).1 hn),g3⟩
theorem MR.below (h:MR k p w s) (hb:Below w.heap.size w w'):MR k p w' s where
  cells:=(hb.block _ (Array.getElem?_eq_some_iff.1 h.cells).1).trans h.cells
  run:=h.run.below hb
  map:=h.map.upd (Upd.of_below' hb (fun _=>False)) (fun h=>h)
  txs:=fun x hx=>⟨(hb.block _ (Array.getElem?_eq_some_iff.1 (h.txs x hx).cells).1).trans (h.txs x hx).cells,own_upd (h.txs x hx).row (Upd.of_below' hb (fun _=>False)) (fun _ hk=>hk.elim)⟩
  apart:=h.apart
  rows:=h.rows
  low:=h.low
  pins:=h.pins
  few:=h.few
  keys:=h.keys
  last:=h.last
  cnt:=h.cnt
  ups:=h.ups
  ulen:=h.ulen
  sect:=h.sect
theorem MR.lock (h:MR k p w s) (k':Int):MR k' p (w.setCell ⟨p.bg,0,none⟩ (.int .i32 k')) s:=by
  have hu:=Upd.setC w p.bg 0 (.int .i32 k')
  have ht:=h.typed
  have hf:∀ j,j=p.bg→¬ FS s.N p.bm w j∧¬ Typed w j 5:=fun j hj=>by
    subst hj
    exact ⟨fun hf=>h.not8 (.inr (.inr (.inr (by decide)))) _ hf ht,fun h8=>absurd (h8.one ht) (by decide)⟩
  exact {
    cells:=(heap_setCell_same w p.bg 0 _ _ _ h.cells).trans rfl
    run:=h.run.upd hu (fun j hj=>by subst hj;exact h.low.1) hf
    map:=h.map.upd hu (fun e=>h.map.notTyped ht e.symm)
    txs:=fun x hx=>⟨(heap_setCell_other w ⟨p.bg,0,none⟩ _ _ (fun e=>by
      have h1:Typed w x.2.blk 236:=⟨_,(h.txs x hx).cells⟩
      exact absurd (h1.one (by rw [show x.2.blk=p.bg from e];exact ht)) (by decide))).trans (h.txs x hx).cells,own_upd (h.txs x hx).row hu (fun j hj h8=>by subst hj;exact absurd (h8.one ht) (by decide))⟩
    apart:=h.apart
    rows:=h.rows
    low:=h.low
    pins:=h.pins
    few:=h.few
    keys:=h.keys
    last:=h.last
    cnt:=h.cnt
    ups:=h.ups
    ulen:=h.ulen
    sect:=h.sect }
theorem MR.lock_step (h:MR k p w s) (k':Int):Step p s.N w s.N (w.setCell ⟨p.bg,0,none⟩ (.int .i32 k')) :=
  ⟨rfl,rfl,(Upd.setC w p.bg 0 _).mono fun j _ hj=>by subst hj;exact .inr ⟨h.low.1,.inr (.inl h.typed)⟩,fun _ _ h=>h⟩
theorem MR.goes (h:MR k p w s) {clock c t:Nat} {M:List (Int × Buf)} {C:Int→Nat × List UInt8} {D:Nat→List UInt8} {L:LogV} (hu:Upd (FS s.N p.bm w) w w') (hr:Run s.N p.bp p.bd p.bl p.bm p.fro p.pages p.buffers p.sz w' clock c M C D L)
    (hp:∀ n,pinsOf M n=pinsOf s.M n) (hc:clock≤t∧c≤t) (ht:s.t≤t) (hl:L.last=s.L.last∧L.sectors=s.L.sectors∧L.xs=s.L.xs):MR k p w' { s with clock:=clock,c:=c,M:=M,C:=C,D:=D,L:=L,t:=t } where
  cells:=(hu.block _ (Array.getElem?_eq_some_iff.1 h.cells).1 (fun hf=>h.not8 (.inr (.inr (.inr (by decide)))) _ hf h.typed)).trans h.cells
  run:=hr
  map:=h.map.upd hu (fun hf=>by
    obtain ⟨es,ms,hm,-⟩:=h.map
    have hnt:∀ t,¬ Typed w p.ba t:=fun t ht=>h.map.notTyped ht rfl
    obtain ⟨-,hf⟩:=hf
    rcases hf with hf | ⟨hf,-⟩ | hf | hf | hf | hf | hf
    · exact hnt _ hf
    · exact hnt _ hf
    · exact hnt _ hf
    · exact hnt _ hf
    · exact hnt _ hf
    · exact hnt _ hf
    · exact h.low.2.2.1 hf)
  txs:=fun x hx=>⟨(hu.block _ (Array.getElem?_eq_some_iff.1 (h.txs x hx).cells).1 (fun hf=>h.not8 (.inr (.inr (.inr (by decide)))) _ hf ⟨_,(h.txs x hx).cells⟩)).trans (h.txs x hx).cells,own_upd (h.txs x hx).row hu (fun j hj h8=>h.not8 (.inr (.inr (.inr (by decide)))) _ hj h8)⟩
  apart:=h.apart
  rows:=h.rows
  low:=h.low
  pins:=fun n=>(hp n).trans (h.pins n)
  few:=h.few
  keys:=h.keys
  last:=h.last
  cnt:=⟨hc.1,hc.2,by show L.last≤t;rw [hl.1];have:=h.cnt.2.2.1;omega,by have:=h.cnt.2.2.2;show s.recs≤t;omega⟩
  ups:=h.ups
  ulen:=fun x hx=>Nat.le_trans (h.ulen x hx) ht
  sect:=by show L.sectors≤4096;rw [hl.2.1];exact h.sect
end
theorem Wr.log {fro pages:Nat} {C:Int→Nat × List UInt8} {L L':LogV} {D D':Nat→List UInt8} (h:Wr fro pages C L D L' D'):L'.last=L.last∧L'.sectors=L.sectors∧L'.xs=L.xs∧L'.fro=L.fro∧L'.first=L.first:=by
  rcases h with ⟨rfl,rfl⟩ | ⟨k,D1,-,-,hf,-⟩
  · exact ⟨rfl,rfl,rfl,rfl,rfl⟩
  · rcases hf with ⟨rfl,-,-⟩ | ⟨-,hf⟩
    · exact ⟨rfl,rfl,rfl,rfl,rfl⟩
    · exact ⟨hf.last,hf.sectors,hf.xs,hf.fro,hf.first⟩
structure Like (s s':ASt) (n:Nat):Prop where
  N:s'.N=s.N
  C:s'.C=s.C
  A:s'.A=s.A
  last:s'.last=s.last
  recs:s'.recs=s.recs
  log:s'.L.last=s.L.last∧s'.L.sectors=s.L.sectors∧s'.L.xs=s.L.xs
  t:s'.t=s.t+n
theorem Like.trans {s s1 s2:ASt} {n m:Nat} (h:Like s s1 n) (h':Like s1 s2 m):Like s s2 (n+m) :=
  ⟨h'.N.trans h.N,h'.C.trans h.C,h'.A.trans h.A,h'.last.trans h.last,h'.recs.trans h.recs,⟨h'.log.1.trans h.log.1,h'.log.2.1.trans h.log.2.1,h'.log.2.2.trans h.log.2.2⟩,by rw [h'.t,h.t];omega⟩
section
variable {k:Int} {p:Par} {w w':World} {s:ASt}
theorem MR.got (h:MR k p w s) {clock c:Nat} {M:List (Int × Buf)} {D:Nat→List UInt8} {L:LogV} (hp:∀ n,pinsOf M n=pinsOf s.M n) (hg:Goes s.N p.bp p.bd p.bl p.bm p.fro p.pages p.buffers p.sz w s.clock s.c s.M s.C s.D s.L w' clock c M D L) :
    ∃ s',MR k p w' s'∧Like s s' 1∧Step p s.N w s'.N w':=by
  have hlg:=hg.wr.log
  exact ⟨_,h.goes hg.upd hg.run hp (t:=s.t+1) ⟨by have:=hg.tick;have:=h.cnt;omega,by have:=hg.more;have:=h.cnt;omega⟩ (by omega) ⟨hlg.1,hlg.2.1,hlg.2.2.1⟩,⟨rfl,rfl,rfl,rfl,rfl,⟨hlg.1,hlg.2.1,hlg.2.2.1⟩,rfl⟩,Step.of_fs hg.upd⟩
structure Put1 (s s':ASt) (n:Int) (l:Nat) (xs:List UInt8) (m:Nat):Prop where
  N:s'.N=s.N
  C:s'.C=updC s.C n l xs
  A:s'.A=s.A
  last:s'.last=s.last
  recs:s'.recs=s.recs
  log:s'.L.last=s.L.last∧s'.L.sectors=s.L.sectors∧s'.L.xs=s.L.xs
  t:s'.t=s.t+m
theorem Like.put {s s1 s2:ASt} {n:Int} {l:Nat} {xs:List UInt8} {i j:Nat} (h:Like s s1 i) (h':Put1 s1 s2 n l xs j):Put1 s s2 n l xs (i+j) :=
  ⟨h'.N.trans h.N,by rw [h'.C,h.C],h'.A.trans h.A,h'.last.trans h.last,h'.recs.trans h.recs,⟨h'.log.1.trans h.log.1,h'.log.2.1.trans h.log.2.1,h'.log.2.2.trans h.log.2.2⟩,by rw [h'.t,h.t];omega⟩
theorem MR.put (h:MR k p w s) {n:Int} {l clock c:Nat} {xs:List UInt8} {M:List (Int × Buf)} {D:Nat→List UInt8} {L:LogV} (hp:∀ j,pinsOf M j=pinsOf s.M j) (hr:Run s.N p.bp p.bd p.bl p.bm p.fro p.pages p.buffers p.sz w' clock c M (updC s.C n l xs) D L)
    (ht:s.clock≤clock∧clock≤s.clock+1) (hc:c≤s.c+1) (hw:Wr p.fro p.pages s.C s.L s.D L D) (hu:Upd (FS s.N p.bm w) w w'):∃ s',MR k p w' s'∧Put1 s s' n l xs 1∧Step p s.N w s'.N w':=by
  have hlg:=hw.log
  exact ⟨_,h.goes hu hr hp (t:=s.t+1) ⟨by have:=h.cnt;omega,by have:=h.cnt;omega⟩ (by omega) ⟨hlg.1,hlg.2.1,hlg.2.2.1⟩,⟨rfl,rfl,rfl,rfl,rfl,⟨hlg.1,hlg.2.1,hlg.2.2.1⟩,rfl⟩,Step.of_fs hu⟩
end
theorem no_pins {M:List (Int × Buf)} (hn:(M.map (·.1)).Nodup) (h:∀ n,pinsOf M n=0):(∀ x∈M,x.2.pins ≠ 0)→M=[]:=fun hp=>by
  rcases M with _ | ⟨⟨n,b⟩,M⟩
  · rfl
  · exact absurd ((pinsOf_at hn (List.mem_cons_self ..)).symm.trans (h n)) (hp (n,b) (by simp))
end Go.Proofs.YtheeomjfpnijbaaGreatDoor
end
section
namespace Go.Proofs.YtheeomjfpnijbaaGreatDoor
open Go.RowKit
set_option maxRecDepth 20000 in
set_option maxHeartbeats 400000 in
theorem mheld_some (b:Nat) (q:Addr) (w:World) (h:w.cell? ⟨b,2,none⟩=some (.pointer (some q))) (h0:w.cell? ⟨b,0,none⟩=some (.int .i32 0)) (hz:w.frozen? ⟨b,0,none⟩=false) :
    Calls Tryz.prog 97 #[.pointer (some ⟨b,0,none⟩)] w fun e w'=>e=.returned (.bool true)∧w'=w.setCell ⟨b,0,none⟩ (.int .i32 1):=by
  go_enter Tryz.func97,Tryz.ntmps97
  go_wp2_with fail
  refine (Go.MuLone.lock_free muLib ⟨b,0,none⟩ _ h0 hz).mono ?_
  rintro e w1 ⟨rfl,rfl⟩
  go_wp2
  go_ret
  exact ⟨rfl,rfl⟩
end Go.Proofs.YtheeomjfpnijbaaGreatDoor
end
