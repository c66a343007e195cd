/- Lemmas: RefM, RefFind, RefApp, RefWo. -/
import Derived.Test.YtheeomjfpnijbaaGreatDoorZRx
import Derived.Test.YtheeomjfpnijbaaGreatDoorDecodeP
import Derived.Deep.RegionHeld3
import Derived.Lib.AppendZeros
set_option linter.unusedVariables false
section
namespace Go.Proofs.YtheeomjfpnijbaaGreatDoor
open Go.RowKit
def RefE (N:Nat→Prop) (w:World) (B E x n:Nat):Prop:=∃ bs c xs,w.heap[x]?=some (.cells #[.slice (some ⟨bs,0,none⟩) n c,.slice none 0 0] 225 (0,0)) ∧
  w.ownsRow (B+1) 76 1 (.slice (some ⟨bs,0,none⟩) n c) n xs∧(∀ u∈xs,∃ g,u=.slice (some ⟨g,0,none⟩) 128 128∧B+1≤g∧w.heap[g]?=some (.cells (Zs 128) 5 (0,0))∧¬ N g)∧B≤x∧0 < n∧n≤4096∧B≤bs∧bs < E
theorem RefE.z {N:Nat→Prop} {w:World} {B E x n:Nat} (h:RefE N w B E x n):RefZ w B x n:=by
  obtain ⟨bs,c,xs,h1,h2,h3,h4,h5,h6,-⟩:=h
  exact ⟨bs,c,xs,h1,h2,fun u hu=>by obtain ⟨g,a,b,d,-⟩:=h3 u hu;exact ⟨g,a,b,d⟩,h4,h5,h6⟩
theorem RefE.of {N:Nat→Prop} {w:World} {B x n:Nat} (h:RefZ w B x n) (hN:∀ k,N k→k < B):RefE N w B w.heap.size x n:=by
  obtain ⟨bs,c,xs,h1,h2,h3,h4,h5,h6⟩:=h
  refine ⟨bs,c,xs,h1,h2,fun u hu=>?_,h4,h5,h6,?_⟩
  · obtain ⟨g,a,b,d⟩:=h3 u hu
    exact ⟨g,a,b,d,fun hn=>by have:=hN g hn;omega⟩
  · rcases h2.2 with ⟨e,h0⟩ | ⟨g,cap,cur,e,hb,hh,-⟩
    · cases e
    · cases e
      exact ⟨by omega,(Array.getElem?_eq_some_iff.1 hh).1⟩
theorem RefE.upd {N:Nat→Prop} {T:Nat→Prop} {w w':World} {B E x n:Nat} (h:RefE N w B E x n) (hu:Upd T w w') (h1:∀ k,T k→¬ Typed w k 225) (h2:∀ k,T k→B≤k→k < E→¬ Typed w k 76) (h3:∀ k,T k→Typed w k 5→N k):RefE N w' B E x n:=by
  obtain ⟨bs,c,xs,a1,a2,a3,a4,a5,a6,a7,a8⟩:=h
  refine ⟨bs,c,xs,(hu.block x (Array.getElem?_eq_some_iff.1 a1).1 (fun ht=>h1 x ht ⟨_,a1⟩)).trans a1,own_updO a2 hu (fun k hk hb ho ht=>?_),fun u hu'=>?_,a4,a5,a6,a7,a8⟩
  · have e:k=bs:=by simpa [Value.ownBlock] using ho
    subst e
    exact h2 k hk a7 a8 ht
  · obtain ⟨g,e,hg,hc,hn⟩:=a3 u hu'
    exact ⟨g,e,hg,(hu.block g (Array.getElem?_eq_some_iff.1 hc).1 (fun ht=>hn (h3 g ht ⟨_,hc⟩))).trans hc,hn⟩
theorem RefE.mono {N N':Nat→Prop} {w:World} {B E x n:Nat} (h:RefE N w B E x n) (hN:∀ k,k < w.heap.size→N' k→N k):RefE N' w B E x n:=by
  obtain ⟨bs,c,xs,a1,a2,a3,a4⟩:=h
  exact ⟨bs,c,xs,a1,a2,fun u hu=>by
    obtain ⟨g,e,hg,hc,hn⟩:=a3 u hu
    exact ⟨g,e,hg,hc,fun h'=>hn (hN g (Array.getElem?_eq_some_iff.1 hc).1 h')⟩,a4⟩
structure DBuf where
  page:Nat
  lsn:Nat
  first:Nat
  lv:Value
  load:List UInt8
def dbCells (b:DBuf):List Value:=[.int .i64 b.page,.int .i64 0,.int .i64 b.lsn,.int .i64 b.first,b.lv]
structure DRec where
  page:Nat
  off:Nat
  ahead:ByteArray
  behind:ByteArray
  lsn:Nat
def drCells (tx:Nat) (r:DRec):List Value:=[.int .i64 1,.int .i64 tx,.int .i64 r.page,.int .i64 r.off,.string r.ahead,.string r.behind,.int .i64 0,.int .i64 r.lsn]
structure RPar where
  B:Nat
  E:Nat
  n:Nat
  x:Nat
  bn:Nat
  bl:Nat
  bq:Nat
  logs:Nat
  pages:Nat
  tx:Nat
  hn:B≤bn
  hl:B≤bl
  hq:B≤bq
structure RPoolB (N:Nat→Prop) (q:RPar) (b:Nat) (w:World) (bs:List DBuf):Prop where
  disk:RefE N w q.B q.E q.x q.n
  cells:∃ lv,w.heap[q.bq]?=some (.cells #[.pointer (some ⟨q.x,0,none⟩),.pointer (some ⟨q.bl,0,none⟩),.int .i64 q.logs,.int .i64 q.pages,.int .i64 64,lv] 254 (0,0))∧w.ownsRow b 251 5 lv bs.length (bs.flatMap dbCells)
  loads:∀ b∈bs,Byt w N b.lv b.load∧b.load.length=112∧b.page < q.pages
  once:(bs.map (·.page)).Nodup
  fits:q.logs+q.pages≤q.n∧q.n≤4096
abbrev RPool (N:Nat→Prop) (q:RPar) (w:World) (bs:List DBuf):Prop:=RPoolB N q q.B w bs
structure RLog (N:Nat→Prop) (q:RPar) (w:World) (last:Nat) (xs:List UInt8):Prop where
  cells:∃ sv,w.heap[q.bl]?=some (.cells #[.pointer (some ⟨q.x,0,none⟩),.int .i64 0,.int .i64 q.logs,.int .i64 1,.int .i64 last,.int .i64 0,sv,.int .i64 0] 292 (0,0))∧Byt w N sv xs
structure RMan (q:RPar) (w:World) (last:Nat) (rs:List DRec):Prop where
  cells:∃ av rv,w.heap[q.bn]?=some (.cells #[.pointer (some ⟨q.x,0,none⟩),.pointer (some ⟨q.bl,0,none⟩),.pointer (some ⟨q.bq,0,none⟩),.int .i64 q.pages,.int .i64 last,av,rv] 205 (0,0)) ∧
    w.ownsRow q.B 3 1 av 1 [.int .i64 q.tx]∧w.ownsRow q.B 231 8 rv rs.length (rs.flatMap (drCells q.tx))
theorem RPoolB.upd {N:Nat→Prop} {T:Nat→Prop} {q:RPar} {b:Nat} {w w':World} {bs:List DBuf} (h:RPoolB N q b w bs) (hu:Upd T w w') (h1:∀ k,T k→¬ Typed w k 225∧¬ Typed w k 254∧¬ Typed w k 251) (h2:∀ k,T k→q.B≤k→k < q.E→¬ Typed w k 76) (h3:∀ k,T k→Typed w k 5→N k):RPoolB N q b w' bs where
  disk:=h.disk.upd hu (fun k hk=>(h1 k hk).1) h2 h3
  cells:=by
    obtain ⟨lv,a,b⟩:=h.cells
    exact ⟨lv,(hu.block _ (Array.getElem?_eq_some_iff.1 a).1 (fun ht=>(h1 _ ht).2.1 ⟨_,a⟩)).trans a,own_upd b hu (fun k hk=>(h1 k hk).2.2)⟩
  loads:=fun b hb=>⟨(h.loads b hb).1.upd hu h3,(h.loads b hb).2⟩
  once:=h.once
  fits:=h.fits
theorem RLog.upd {N:Nat→Prop} {T:Nat→Prop} {q:RPar} {w w':World} {last:Nat} {xs:List UInt8} (h:RLog N q w last xs) (hu:Upd T w w') (h1:∀ k,T k→¬ Typed w k 292) (h3:∀ k,T k→Typed w k 5→N k):RLog N q w' last xs where
  cells:=by
    obtain ⟨sv,a,b⟩:=h.cells
    exact ⟨sv,(hu.block _ (Array.getElem?_eq_some_iff.1 a).1 (fun ht=>h1 _ ht ⟨_,a⟩)).trans a,b.upd hu h3⟩
theorem RMan.upd {T:Nat→Prop} {q:RPar} {w w':World} {last:Nat} {rs:List DRec} (h:RMan q w last rs) (hu:Upd T w w') (h1:∀ k,T k→¬ Typed w k 205∧¬ Typed w k 3∧¬ Typed w k 231):RMan q w' last rs where
  cells:=by
    obtain ⟨av,rv,a,b,c⟩:=h.cells
    exact ⟨av,rv,(hu.block _ (Array.getElem?_eq_some_iff.1 a).1 (fun ht=>(h1 _ ht).1 ⟨_,a⟩)).trans a,own_upd b hu (fun k hk=>(h1 k hk).2.1),own_upd c hu (fun k hk=>(h1 k hk).2.2)⟩
theorem RPoolB.below {N:Nat→Prop} {q:RPar} {b:Nat} {w w':World} {bs:List DBuf} (h:RPoolB N q b w bs) (hb:Below w.heap.size w w'):RPoolB N q b w' bs:=h.upd (Upd.of_below' hb (fun _=>False)) (fun _ h=>h.elim) (fun _ h=>h.elim) (fun _ h=>h.elim)
theorem RLog.below {N:Nat→Prop} {q:RPar} {w w':World} {last:Nat} {xs:List UInt8} (h:RLog N q w last xs) (hb:Below w.heap.size w w'):RLog N q w' last xs:=h.upd (Upd.of_below' hb (fun _=>False)) (fun _ h=>h.elim) (fun _ h=>h.elim)
theorem RMan.below {q:RPar} {w w':World} {last:Nat} {rs:List DRec} (h:RMan q w last rs) (hb:Below w.heap.size w w'):RMan q w' last rs:=h.upd (Upd.of_below' hb (fun _=>False)) (fun _ h=>h.elim)
def PS (q:RPar) (w:World) (k:Nat):Prop:=q.B≤k∧(Typed w k 254 ∨ Typed w k 251)
def LS (q:RPar) (w:World) (k:Nat):Prop:=q.B≤k∧(Typed w k 292 ∨ Typed w k 205 ∨ Typed w k 231)
def RS (q:RPar) (w:World) (k:Nat):Prop:=PS q w k ∨ LS q w k
theorem typed_eq {w w':World} {k:Nat} {t:TypeId} (h:w'.heap[k]?=w.heap[k]?) (ht:Typed w' k t):Typed w k t:=by
  obtain ⟨cs,hc⟩:=ht
  exact ⟨cs,h.symm.trans hc⟩
theorem ps_same {q:RPar} (w w':World) (k:Nat) (h:w'.heap[k]?=w.heap[k]?) (ht:PS q w' k):PS q w k:=⟨ht.1,ht.2.imp (typed_eq h) (typed_eq h)⟩
theorem ls_same {q:RPar} (w w':World) (k:Nat) (h:w'.heap[k]?=w.heap[k]?) (ht:LS q w' k):LS q w k:=⟨ht.1,ht.2.imp (typed_eq h) (fun h'=>h'.imp (typed_eq h) (typed_eq h))⟩
theorem rs_same {q:RPar} (w w':World) (k:Nat) (h:w'.heap[k]?=w.heap[k]?) (ht:RS q w' k):RS q w k:=ht.imp (ps_same _ _ _ h) (ls_same _ _ _ h)
theorem PS.trans {q:RPar} {a b c:World} (h:Upd (PS q a) a b) (k:Upd (PS q b) b c):Upd (PS q a) a c:=Upd.same (R:=PS q) ps_same h k
theorem RS.trans {q:RPar} {a b c:World} (h:Upd (RS q a) a b) (k:Upd (RS q b) b c):Upd (RS q a) a c:=Upd.same (R:=RS q) rs_same h k
theorem PS.rs {q:RPar} {a b:World} (h:Upd (PS q a) a b):Upd (RS q a) a b:=h.mono fun _ _ h=>.inl h
theorem PS.of {q:RPar} {a b:World} (h:Below a.heap.size a b):Upd (PS q a) a b:=Upd.of_below' h _
theorem RS.of {q:RPar} {a b:World} (h:Below a.heap.size a b):Upd (RS q a) a b:=Upd.of_below' h _
theorem RLog.pool {N:Nat→Prop} {q:RPar} {w w':World} {last:Nat} {xs:List UInt8} (h:RLog N q w last xs) (hu:Upd (PS q w) w w'):RLog N q w' last xs :=
  h.upd hu (fun k hk ht=>by rcases hk.2 with hk | hk <;> exact absurd (hk.one ht) (by decide)) (fun k hk ht=>by rcases hk.2 with hk | hk <;> exact absurd (hk.one ht) (by decide))
theorem RMan.pool {q:RPar} {w w':World} {last:Nat} {rs:List DRec} (h:RMan q w last rs) (hu:Upd (PS q w) w w'):RMan q w' last rs :=
  h.upd hu (fun k hk=>by refine ⟨fun ht=>?_,fun ht=>?_,fun ht=>?_⟩ <;> rcases hk.2 with hk | hk <;> exact absurd (hk.one ht) (by decide))
theorem RPoolB.others {N:Nat→Prop} {q:RPar} {b:Nat} {w w':World} {bs:List DBuf} (h:RPoolB N q b w bs) (hu:Upd (LS q w) w w'):RPoolB N q b w' bs :=
  h.upd hu (fun k hk=>by refine ⟨fun ht=>?_,fun ht=>?_,fun ht=>?_⟩ <;> rcases hk.2 with hk | hk | hk <;> exact absurd (hk.one ht) (by decide)) (fun k hk _ _ ht=>by rcases hk.2 with hk | hk | hk <;> exact absurd (hk.one ht) (by decide)) (fun k hk ht=>by rcases hk.2 with hk | hk | hk <;> exact absurd (hk.one ht) (by decide))
theorem byt_rs {q:RPar} {w w':World} {N:Nat→Prop} {v:Value} {xs:List UInt8} (h:Byt w N v xs) (hu:Upd (RS q w) w w'):Byt w' N v xs :=
  h.upd hu (fun k hk ht=>by rcases hk with ⟨-,hk | hk⟩ | ⟨-,hk | hk | hk⟩ <;> exact absurd (hk.one ht) (by decide))
theorem RPoolB.put {N:Nat→Prop} {q:RPar} {b b':Nat} {w w':World} {bs bs':List DBuf} {lv:Value} (h:RPoolB N q b w bs) (hu:Upd (PS q w) w w') (hc:w'.heap[q.bq]?=some (.cells #[.pointer (some ⟨q.x,0,none⟩),.pointer (some ⟨q.bl,0,none⟩),.int .i64 q.logs,.int .i64 q.pages,.int .i64 64,lv] 254 (0,0)))
    (ho:w'.ownsRow b' 251 5 lv bs'.length (bs'.flatMap dbCells)) (hl:∀ x∈bs',x∈bs ∨ (Byt w' N x.lv x.load∧x.load.length=112∧x.page < q.pages)) (hn:(bs'.map (·.page)).Nodup):RPoolB N q b' w' bs' where
  disk:=h.disk.upd hu (fun k hk ht=>by rcases hk.2 with hk | hk <;> exact absurd (hk.one ht) (by decide)) (fun k hk _ _ ht=>by rcases hk.2 with hk | hk <;> exact absurd (hk.one ht) (by decide)) (fun k hk ht=>by rcases hk.2 with hk | hk <;> exact absurd (hk.one ht) (by decide))
  cells:=⟨lv,hc,ho⟩
  loads:=fun x hx=>by
    rcases hl x hx with hx | hx
    · exact ⟨(h.loads x hx).1.upd hu (fun k hk ht=>by rcases hk.2 with hk | hk <;> exact absurd (hk.one ht) (by decide)),(h.loads x hx).2⟩
    · exact hx
  once:=hn
  fits:=h.fits
theorem RPoolB.less {N:Nat→Prop} {q:RPar} {b b':Nat} {w:World} {bs:List DBuf} (h:RPoolB N q b w bs) (hb:b'≤b):RPoolB N q b' w bs where
  disk:=h.disk
  cells:=by obtain ⟨lv,a,o⟩:=h.cells;exact ⟨lv,a,own_mono o hb⟩
  loads:=h.loads
  once:=h.once
  fits:=h.fits
def cd (bs:List DBuf) (n:Nat):List UInt8:=((bs.find? (fun b=>b.page == n)).map (·.load)).getD (zeros 112)
end Go.Proofs.YtheeomjfpnijbaaGreatDoor
namespace Go.Proofs.YtheeomjfpnijbaaGreatDoor
theorem cd_mem {bs:List DBuf} (hn:(bs.map (·.page)).Nodup) {b:DBuf} (hb:b∈bs):cd bs b.page=b.load:=by
  induction bs with
  | nil=>cases hb
  | cons x bs ih =>
    rw [List.map_cons,List.nodup_cons] at hn
    unfold cd
    rw [List.find?_cons]
    rcases List.mem_cons.1 hb with rfl | hb
    · simp
    · have hne:(x.page == b.page)=false:=by
        rw [beq_eq_false_iff_ne]
        exact fun e=>hn.1 (List.mem_map.2 ⟨b,hb,e.symm⟩)
      rw [hne]
      exact ih hn.2 hb
theorem cd_not {bs:List DBuf} {n:Nat} (h:∀ b∈bs,b.page ≠ n):cd bs n=zeros 112:=by
  unfold cd
  rw [List.find?_eq_none.2 (fun b hb=>by simpa using h b hb)]
  rfl
theorem cd_same {bs bs':List DBuf} (hn:(bs.map (·.page)).Nodup) (hn':(bs'.map (·.page)).Nodup) (h:∀ b,b∈bs ↔ b∈bs') (n:Nat):cd bs' n=cd bs n:=by
  by_cases hb:∃ b∈bs,b.page=n
  · obtain ⟨b,hb,rfl⟩:=hb
    rw [cd_mem hn hb,cd_mem hn' ((h b).1 hb)]
  · have h1:∀ b∈bs,b.page ≠ n:=fun b hb' e=>hb ⟨b,hb',e⟩
    rw [cd_not h1,cd_not (fun b hb'=>h1 b ((h b).2 hb'))]
end Go.Proofs.YtheeomjfpnijbaaGreatDoor
end
section
namespace Go.Proofs.YtheeomjfpnijbaaGreatDoor
open Go.RowKit
set_option maxRecDepth 20000
theorem rown_at {w:World} {base n c z:Nat} {e:TypeId} {p:Option Addr} {xs:List Value} (h:w.ownsRow base e z (.slice p n c) n xs) (hn:0 < n):∃ g,p=some ⟨g,0,none⟩∧base≤g∧Typed w g e∧∀ (j:Nat) (x:Value),xs[j]?=some x→w.cell? ⟨g,j,none⟩=some x:=by
  rcases h.2 with ⟨e',h0⟩ | ⟨g,cap,cur,e',hb,hg,h1,h2,h3,h4⟩
  · omega
  · cases e'
    refine ⟨g,rfl,hb,⟨_,hg⟩,fun j x hx=>?_⟩
    have hl:xs.length=n * z:=h.1
    have hj:j < n * z:=by rw [← hl];exact (List.getElem?_eq_some_iff.1 hx).1
    rw [← h4,List.getElem?_take_of_lt hj] at hx
    simp only [World.cell?,hg]
    simpa using hx
theorem rflat_at {α:Type} (f:α→List Value) (c:Nat) (hl:∀ x,(f x).length=c):∀ (ds:List α) (k j:Nat) (x:α) (v:Value),ds[k]?=some x→(f x)[j]?=some v→(ds.flatMap f)[k * c+j]?=some v:=by
  intro ds
  induction ds with
  | nil=>intro k j d v h;simp at h
  | cons x ds ih =>
    intro k j d v h hv
    have hj:j < c:=by have:=(List.getElem?_eq_some_iff.1 hv).1;rwa [hl] at this
    rw [List.flatMap_cons]
    cases k with
    | zero =>
      simp only [List.getElem?_cons_zero,Option.some.injEq] at h
      subst h
      rw [List.getElem?_append_left (by rw [hl];omega),Nat.zero_mul,Nat.zero_add]
      exact hv
    | succ k =>
      rw [List.getElem?_append_right (by rw [hl,Nat.succ_mul];omega),hl,show (k+1) * c+j - c=k * c+j by rw [Nat.succ_mul];omega]
      exact ih k j d v (by simpa using h) hv
theorem rown_sl {w:World} {base n:Nat} {e:TypeId} {v:Value} {xs:List Value} {k:Nat} (h:w.ownsRow base e k v n xs):∃ q c,v=.slice q n c∧n≤c∧c≤maxLen:=by
  rcases h.2 with ⟨rfl,h0⟩ | ⟨g,cap,cur,rfl,_,_,h1,h2,_⟩
  · exact ⟨none,0,by rw [h0],by omega,by simp [maxLen]⟩
  · exact ⟨_,cap,rfl,h1,h2⟩
theorem db_cells {w:World} {base L c:Nat} {p:Option Addr} {bs:List DBuf} (ho:w.ownsRow base 251 5 (.slice p L c) L (bs.flatMap dbCells)) {k:Nat} (hk:k < L) {b:DBuf} (hb:bs[k]?=some b) :
    ∃ g,p=some ⟨g,0,none⟩∧base≤g∧Typed w g 251∧w.cell? ⟨g,k * 5,none⟩=some (.int .i64 b.page)∧w.cell? ⟨g,k * 5+1,none⟩=some (.int .i64 0)∧w.cell? ⟨g,k * 5+2,none⟩=some (.int .i64 b.lsn)∧w.cell? ⟨g,k * 5+3,none⟩=some (.int .i64 b.first)∧w.cell? ⟨g,k * 5+4,none⟩=some b.lv:=by
  obtain ⟨g,rfl,h1,ht,hc⟩:=rown_at ho (by omega)
  have e:=fun j v hv=>hc _ _ (rflat_at dbCells 5 (fun _=>rfl) bs k j b v hb hv)
  exact ⟨g,rfl,h1,ht,e 0 _ rfl,e 1 _ rfl,e 2 _ rfl,e 3 _ rfl,e 4 _ rfl⟩
def FindR (bs:List DBuf) (n:Nat) (v:Int):Prop:=(∃ (i:Nat) (b:DBuf),v=(i:Int)∧bs[i]?=some b∧b.page=n) ∨ (v=-1∧∀ b∈bs,b.page ≠ n)
def NotIn (bs:List DBuf) (n k:Nat):Prop:=∀ b∈bs.take k,b.page ≠ n
theorem NotIn.next {bs:List DBuf} {n k:Nat} {b:DBuf} (h:NotIn bs n k) (hb:bs[k]?=some b) (hn:b.page ≠ n):NotIn bs n (k+1):=fun x hx=>by
  obtain ⟨hk,e⟩:=List.getElem?_eq_some_iff.1 hb
  rw [List.take_succ_eq_append_getElem hk] at hx
  rcases List.mem_append.1 hx with hx | hx
  · exact h x hx
  · rw [List.mem_singleton.1 hx,e];exact hn
section
variable {N:Nat→Prop} {q:RPar} {bs:List DBuf}
theorem RPoolB.slices {b:Nat} {w:World} (h:RPoolB N q b w bs):∀ b∈bs,∃ p c,b.lv=.slice p 112 c∧112≤c∧c≤maxLen:=fun b hb=>by
  obtain ⟨⟨p,c,e,h1,h2,-⟩,hl,-⟩:=h.loads b hb
  rw [hl] at e h1
  exact ⟨p,c,e,h1,h2⟩
set_option maxHeartbeats 1000000 in
theorem rfind_any (n:Nat) {b0:Nat} (w:World) (h:RPoolB N q b0 w bs) (hs:bs.length≤4096) :
    Calls Tryz.prog 151 #[.pointer (some ⟨q.bq,0,none⟩),.int .i64 n] w fun e w'=>∃ v,e=.returned (.int .i64 v)∧FindR bs n v∧Below w.heap.size w w':=by
  obtain ⟨lv,a,ho⟩:=h.cells
  obtain ⟨L,hL⟩:∃ L,L=bs.length:=⟨_,rfl⟩
  rw [← hL] at ho hs
  obtain ⟨p,c,rfl,-⟩:=rown_sl ho
  have k5:w.cell? ⟨q.bq,5,none⟩=some (.slice p L c):=by simp [World.cell?,a]
  have HO:=Lib.hid ho
  have HL:=Lib.hid hL
  have HS:=Lib.hid h.slices
  clear h a ho hL
  go_enter Tryz.func151,Tryz.ntmps151
  go_wp2_with fail
  go_loopw [12] (fun i wr=>∃ k:Nat,k≤L∧i=.int .i64 k∧Hid (NotIn bs n k)∧Hid (Below w.heap.size w wr)) (fun i _=>L - (intOf i).toNat)
  case atStart=>exact ⟨0,Nat.zero_le _,rfl,Lib.hid (fun b hb=>by simp at hb),Lib.hid (Below.refl _ _)⟩
  case round =>
    obtain ⟨k,hk,rfl,HT,HB⟩:=hrel
    by_cases hlt:k < L
    · obtain ⟨b,hb⟩:∃ b,bs[k]?=some b:=⟨_,List.getElem?_eq_getElem (by rw [← HL.out];exact hlt)⟩
      obtain ⟨g,rfl,-,-,c0,c1,c2,c3,c4⟩:=db_cells HO.out hlt hb
      obtain ⟨lp,lc,hlv,-⟩:=HS.out b (List.mem_of_getElem? hb)
      rw [hlv] at c4
      have c0:=keepC HB.out c0
      have c1:=keepC HB.out c1
      have c2:=keepC HB.out c2
      have c3:=keepC HB.out c3
      have c4:=keepC HB.out c4
      have HB2:Hid (Below w.heap.size w (wr.alloc (.cells #[.int .i64 b.page,.int .i64 0,.int .i64 b.lsn,.int .i64 b.first,.slice lp 112 lc] 251))):=Lib.hid (HB.out.alloc HB.out.size _)
      clear hlv
      have HBB:=Lib.hid hb
      by_cases he:b.page=n
      · have ht:((b.page:Int) == (n:Int))=true:=by rw [beq_iff_eq];omega
        have ht':(b.page == n)=true:=by rw [beq_iff_eq];exact he
        have HE:Hid (FindR bs n (k:Int)):=Lib.hid (.inl ⟨k,b,rfl,hb,he⟩)
        clear he hb
        go_wp2_with fail
        go_ret
        exact ⟨_,rfl,HE.out,HB2.out⟩
      · have ht:((b.page:Int) == (n:Int))=false:=by rw [beq_eq_false_iff_ne];omega
        have ht':(b.page == n)=false:=by rw [beq_eq_false_iff_ne];exact he
        have HE:Hid (NotIn bs n (k+1)):=Lib.hid (HT.out.next hb he)
        clear he hb
        go_wp2_with fail
        go_roundw
        case rel=>exact ⟨k+1,by omega,by go_num,HE,HB2⟩
        case measure=>simp [intOf];omega
    · obtain rfl:k=L:=by omega
      have HE:Hid (FindR bs n (-1)):=Lib.hid (.inr ⟨rfl,fun b hb=>HT.out b (by rw [HL.out,List.take_length];exact hb)⟩)
      go_wp2_with fail
      go_ret
      exact ⟨_,rfl,HE.out,HB.out⟩
theorem rhas_any (n:Nat) {b0:Nat} (w:World) (h:RPoolB N q b0 w bs) (hn:n < q.pages) :
    Calls Tryz.prog 149 #[.pointer (some ⟨q.bq,0,none⟩),.int .i64 n] w fun e w'=>e=.returned (.bool true)∧w'=w:=by
  obtain ⟨lv,a,ho⟩:=h.cells
  have k3:w.cell? ⟨q.bq,3,none⟩=some (.int .i64 q.pages):=by simp [World.cell?,a]
  have h1:decide ((n:Int) ≥ 0)=true:=decide_eq_true (by omega)
  have h2:decide ((n:Int) < (q.pages:Int))=true:=decide_eq_true (by omega)
  have h3:decide (n < q.pages)=true:=decide_eq_true hn
  clear h a ho hn
  go_enter Tryz.func149,Tryz.ntmps149
  go_wp2_with fail
  go_ret
  exact ⟨rfl,rfl⟩
end
end Go.Proofs.YtheeomjfpnijbaaGreatDoor
end
section
namespace Go.Proofs.YtheeomjfpnijbaaGreatDoor
open Go.RowKit
set_option maxRecDepth 20000
theorem run_appv {W:World} (t e ty:TypeId) (i:TypeInfo) (z:Value) (size bytes base n m c:Nat) (ht:Tryz.prog.underlying t=some (.slice e)) (hi:Tryz.prog.info? e=some i) (hz:i.zero=some z) (hsize:i.size=size) (hby:i.bytes=bytes) (hzs:z.cells.size=size) (hsz:0 < size)
    (v:Value) (xs ys:List Value) (p:Option Addr) (hown:W.ownsRow base e size v n xs) (hl:ys.length=m * size) (hc:Cells W p ys) (h1:∀ u∈ys,u.oneCell'=true) (h63:n+m≤maxLen) (hbytes:(n+m) * bytes≤140737488355328) (hbase:base≤W.heap.size) :
    ∃ v' w',(Builtin.append_ #[t,t] ty #[v,.slice p m c]).run Tryz.prog W=.ok v' w'∧w'.ownsRow base e size v' (n+m) (xs++ys)∧W.grownBy w' v.ownBlock:=by
  rcases Nat.eq_zero_or_pos m with hm | hm
  · subst hm
    obtain rfl:ys=[]:=List.eq_nil_of_length_eq_zero (by rw [hl,Nat.zero_mul])
    obtain ⟨q,cq,rfl,hq,-⟩:=rown_sl hown
    have hsrc:Src Tryz.prog i.size t (.slice p 0 c) 0 [] W:=by
      cases p with
      | none=>exact Src.ofNil W ht c
      | some ad=>exact Src.ofSlice W ht ad 0 c [] (by simp) (fun j u hj=>by simp at hj) (fun u hu=>by cases hu)
    have hrun:=run_append_nothing (P:=Tryz.prog) W t t ty e i ht hi q n cq hq (.slice p 0 c) hsrc
    exact ⟨_,_,hrun,by simpa using hown,⟨rfl,rfl,rfl,Nat.le_refl _,fun _ _ _=>rfl⟩⟩
  · have hne:ys ≠ []:=fun e=>by
      rw [e] at hl
      have:0 < m * size:=Nat.mul_pos hm hsz
      simp at hl;omega
    obtain ⟨b,o,rfl,hcc⟩:=hc hne
    obtain ⟨g,cap,w',hr,h2,h3,-⟩:=run_append_lies (w:=W) t ty base e i z size bytes ht hi hz hsize hby hzs hsz v n xs hown ⟨b,o,none⟩ m c ys hl (fun j u hj=>by rw [Go.WideShapes.add_plain];exact hcc j u hj) h1 hm h63 hbytes hbase _ rfl
    exact ⟨_,w',hr,h2,h3⟩
theorem step_appv {ops:Array Oper} {o:Oper} {a:Act} {W:World} {K:Act→World→Prop} {Q:Exit→Act→World→Prop} {E:Prop} (hgd:o.guard=none) (s x:Operand) (t e:TypeId)
    (ho:o.op=.call { callee:=.builtin .append,args:=#[s,x],argTypes:=#[t,t] }) (i:TypeInfo) (z:Value) (size bytes base n m c:Nat) (ht:Tryz.prog.underlying t=some (.slice e)) (hi:Tryz.prog.info? e=some i) (hz:i.zero=some z) (hsize:i.size=size) (hby:i.bytes=bytes) (hzs:z.cells.size=size) (hsz:0 < size)
    (v:Value) (xs ys:List Value) (p:Option Addr) (hs:a.eval s=v) (hx:a.eval x=.slice p m c) (hown:W.ownsRow base e size v n xs) (hl:ys.length=m * size) (hc:Cells W p ys) (h1:∀ u∈ys,u.oneCell'=true) (h63:n+m≤maxLen) (hbytes:(n+m) * bytes≤140737488355328) (hbase:base≤W.heap.size)
    (h:∀ v1 w1,w1.ownsRow base e size v1 (n+m) (xs++ys)→W.grownBy w1 v.ownBlock→K (a.put o.dst v1) w1) :
    if Region.wanted o (yielded ops a.tmps)=true then Oper.wp Tryz.prog o a W K Q else E:=by
  have hw:Region.wanted o (yielded ops a.tmps)=true:=by simp [Region.wanted,hgd]
  rw [if_pos hw]
  obtain ⟨v',w',hr,h2,h3⟩:=run_appv t e o.type i z size bytes base n m c ht hi hz hsize hby hzs hsz v xs ys p hown hl hc h1 h63 hbytes hbase
  exact Lib.wp_append_run W s x t t ho _ _ hs hx v' w' hr (h v' w' h2 h3)
theorem wpList_appv {ops:Array Oper} {rest:List Oper} {o:Oper} {a:Act} {W:World} {Q:Exit→Act→World→Prop} (hgd:o.guard=none) (s x:Operand) (t e:TypeId)
    (ho:o.op=.call { callee:=.builtin .append,args:=#[s,x],argTypes:=#[t,t] }) (i:TypeInfo) (z:Value) (size bytes base n m c:Nat) (ht:Tryz.prog.underlying t=some (.slice e)) (hi:Tryz.prog.info? e=some i) (hz:i.zero=some z) (hsize:i.size=size) (hby:i.bytes=bytes) (hzs:z.cells.size=size) (hsz:0 < size)
    (v:Value) (xs ys:List Value) (p:Option Addr) (hs:a.eval s=v) (hx:a.eval x=.slice p m c) (hown:W.ownsRow base e size v n xs) (hl:ys.length=m * size) (hc:Cells W p ys) (h1:∀ u∈ys,u.oneCell'=true) (h63:n+m≤maxLen) (hbytes:(n+m) * bytes≤140737488355328) (hbase:base≤W.heap.size)
    (h:∀ v1 w1,w1.ownsRow base e size v1 (n+m) (xs++ys)→W.grownBy w1 v.ownBlock→wpList Tryz.prog ops Q rest (a.put o.dst v1) w1) :
    wpList Tryz.prog ops Q (o :: rest) a W :=
  wpList_plain hgd fun K hK=>by
    obtain ⟨v',w',hr,h2,h3⟩:=run_appv t e o.type i z size bytes base n m c ht hi hz hsize hby hzs hsz v xs ys p hown hl hc h1 h63 hbytes hbase
    exact Lib.wp_append_run W s x t t ho _ _ hs hx v' w' hr (hK _ _ (h v' w' h2 h3))
theorem infoB5:(Tryz.prog.info? 251).map (fun i=>(i.zero,i.size,i.bytes))=some (some (.agg #[.int .i64 0,.int .i64 0,.int .i64 0,.int .i64 0,.slice none 0 0]),5,56):=by kernel_rfl
theorem infoR6:(Tryz.prog.info? 231).map (fun i=>(i.zero,i.size,i.bytes))=some (some (.agg #[.int .i64 0,.int .i64 0,.int .i64 0,.int .i64 0,.string ⟨#[]⟩,.string ⟨#[]⟩,.int .i64 0,.int .i64 0]),8,80):=by kernel_rfl
theorem rflat_len {α:Type} (f:α→List Value) (c:Nat) (hl:∀ x,(f x).length=c):∀ l:List α,(l.flatMap f).length=l.length * c:=by
  intro l
  induction l with
  | nil=>simp
  | cons x l ih=>rw [List.flatMap_cons,List.length_append,ih,hl,List.length_cons,Nat.succ_mul];omega
theorem db_one {bs:List DBuf} (h:∀ b∈bs,∃ p c,b.lv=.slice p 112 c∧112≤c∧c≤maxLen):∀ u∈bs.flatMap dbCells,u.oneCell'=true:=fun u hu=>by
  obtain ⟨b,hb,hu⟩:=List.mem_flatMap.1 hu
  obtain ⟨p,c,e,-⟩:=h b hb
  unfold dbCells at hu
  rw [e] at hu
  simp only [List.mem_cons,List.not_mem_nil,or_false] at hu
  rcases hu with rfl | rfl | rfl | rfl | rfl <;> rfl
theorem db_part {w:World} {base L c:Nat} {g:Nat} {bs:List DBuf} (ho:w.ownsRow base 251 5 (.slice (some ⟨g,0,none⟩) L c) L (bs.flatMap dbCells)) (i j:Nat):Cells w (some ⟨g,i * 5,none⟩) (((bs.drop i).take j).flatMap dbCells):=fun hne=>by
  refine ⟨g,i * 5,rfl,fun k v hv=>?_⟩
  rcases Nat.eq_zero_or_pos L with h0 | h0
  · have hl:=rflat_len dbCells 5 (fun _=>rfl) bs
    rw [ho.1,h0] at hl
    obtain rfl:bs=[]:=List.eq_nil_of_length_eq_zero (by omega)
    simp at hv
  · obtain ⟨g',e,-,-,hc⟩:=rown_at ho h0
    cases e
    refine hc _ _ ?_
    have e1:bs.flatMap dbCells=(bs.take i).flatMap dbCells++(((bs.drop i).take j).flatMap dbCells++((bs.drop i).drop j).flatMap dbCells):=by
      rw [← List.flatMap_append,List.take_append_drop,← List.flatMap_append,List.take_append_drop]
    have hk:=(List.getElem?_eq_some_iff.1 hv).1
    have hi:i≤bs.length:=by
      refine Nat.le_of_not_lt fun hlt=>?_
      rw [List.drop_of_length_le (by omega)] at hk
      simp at hk
    have hl:((bs.take i).flatMap dbCells).length=i * 5:=by rw [rflat_len dbCells 5 (fun _=>rfl),List.length_take,Nat.min_eq_left hi]
    rw [e1,List.getElem?_append_right (by omega),hl,Nat.add_sub_cancel_left,List.getElem?_append_left hk]
    exact hv
end Go.Proofs.YtheeomjfpnijbaaGreatDoor
end
section
namespace Go.Proofs.YtheeomjfpnijbaaGreatDoor
open Go.RowKit
set_option maxRecDepth 20000
section
variable {N:Nat→Prop} {q:RPar} {bs:List DBuf}
theorem keepR2 {W w5 w6:World} {a:Addr} {v v5:Value} {n z:Nat} {e:TypeId} {xs:List Value} (h:Hid (Below W.heap.size W w5)∧w5.cell? a=some v) (ho:w5.ownsRow W.heap.size e z v5 n xs) (hg:w5.grownBy w6 v5.ownBlock) (ha:a.block < W.heap.size):Hid (Below W.heap.size W w6)∧w6.cell? a=some v :=
  ⟨Lib.hid (h.1.out.grown hg h.1.out.size (fun j hj=>(ho.lt j hj).1)),hg.cell h.2 (fun e=>by have:=(ho.lt _ e.symm).1;omega)⟩
theorem pool_set5 {W:World} {q:RPar} {lv lv':Value} (h:W.heap[q.bq]?=some (.cells #[.pointer (some ⟨q.x,0,none⟩),.pointer (some ⟨q.bl,0,none⟩),.int .i64 q.logs,.int .i64 q.pages,.int .i64 64,lv] 254 (0,0))) :
    (W.setCell ⟨q.bq,5,none⟩ lv').heap[q.bq]?=some (.cells #[.pointer (some ⟨q.x,0,none⟩),.pointer (some ⟨q.bl,0,none⟩),.int .i64 q.logs,.int .i64 q.pages,.int .i64 64,lv'] 254 (0,0)):=by
  have:=heap_setCell_same W q.bq 5 _ _ lv' h
  simpa using this
theorem nodup_rid {bs:List DBuf} (h:(bs.map (·.page)).Nodup) (i:Nat):((bs.take i++bs.drop (i+1)).map (·.page)).Nodup:=by
  rw [List.map_append,List.map_take,List.map_drop]
  refine List.Sublist.nodup ?_ h
  have:(List.take i (bs.map (·.page))++List.drop (i+1) (bs.map (·.page)))=(bs.map (·.page)).eraseIdx i:=(List.eraseIdx_eq_take_drop_succ _ _).symm
  rw [this]
  exact List.eraseIdx_sublist _ _
theorem mem_rid {bs:List DBuf} {i:Nat} {x:DBuf} (h:x∈bs.take i++bs.drop (i+1)):x∈bs:=(List.mem_append.1 h).elim List.mem_of_mem_take List.mem_of_mem_drop
def WoQ (N:Nat→Prop) (q:RPar) (w:World) (bs':List DBuf) (w':World):Prop:=RPoolB N q w.heap.size w' bs'∧Upd (fun k=>k=q.bq) w w'
theorem wo_end {b0 n c:Nat} {w w6:World} {lv:Value} {qq:Option Addr} {xs:List Value} {i:Nat} (h:RPoolB N q b0 w bs) (a:w.heap[q.bq]?=some (.cells #[.pointer (some ⟨q.x,0,none⟩),.pointer (some ⟨q.bl,0,none⟩),.int .i64 q.logs,.int .i64 q.pages,.int .i64 64,lv] 254 (0,0)))
    (hb:Below w.heap.size w w6) (ho:w6.ownsRow w.heap.size 251 5 (.slice qq n c) n xs) (hx:xs=(bs.take i++bs.drop (i+1)).flatMap dbCells) (hn:n=(bs.take i++bs.drop (i+1)).length):WoQ N q w (bs.take i++bs.drop (i+1)) (w6.setCell ⟨q.bq,5,none⟩ (.slice qq n c)):=by
  have hlt:=(Array.getElem?_eq_some_iff.1 a).1
  have hu:Upd (fun k=>k=q.bq) w (w6.setCell ⟨q.bq,5,none⟩ (.slice qq n c)):=(Upd.of_below' hb _).trans' (Upd.setC w6 q.bq 5 _) (fun j hj h=>h)
  refine ⟨h.put (hu.mono fun k _ hk=>by subst hk;exact ⟨q.hq,.inl ⟨_,a⟩⟩) (pool_set5 ((hb.block _ hlt).trans a)) ?_ (fun x hx=>.inl (mem_rid hx)) (nodup_rid h.once i),hu⟩
  rw [← hn,← hx]
  exact ownsRow_setCell_below ho (a:=⟨q.bq,5,none⟩) hlt _
set_option maxHeartbeats 1000000 in
theorem rwithout_any {b0:Nat} (i:Nat) (w:World) (h:RPoolB N q b0 w bs) (hi:i < bs.length) (hs:bs.length≤64) :
    Calls Tryz.prog 211 #[.pointer (some ⟨q.bq,0,none⟩),.int .i64 i] w fun e w'=>e=.returned (.tuple #[])∧WoQ N q w (bs.take i++bs.drop (i+1)) w':=by
  obtain ⟨lv,a,ho⟩:=h.cells
  obtain ⟨L,hL⟩:∃ L,L=bs.length:=⟨_,rfl⟩
  rw [← hL] at ho hs hi
  obtain ⟨p,c,rfl,hLc,hcm⟩:=rown_sl ho
  obtain ⟨g,rfl,hg1,-⟩:=rown_at ho (by omega)
  obtain ⟨i0,hi0,hz0,hz1,hz2⟩:=info_parts infoB5
  have k5:w.cell? ⟨q.bq,5,none⟩=some (.slice (some ⟨g,0,none⟩) L c):=by simp [World.cell?,a]
  obtain ⟨X1,hX1⟩:∃ x,x=(bs.take i).flatMap dbCells:=⟨_,rfl⟩
  obtain ⟨X2,hX2⟩:∃ x,x=(bs.drop (i+1)).flatMap dbCells:=⟨_,rfl⟩
  obtain ⟨j,hj⟩:∃ j,j=i+1:=⟨_,rfl⟩
  have HC1:Hid (Cells w (some ⟨g,0,none⟩) X1∧X1.length=i * 5∧∀ u∈X1,u.oneCell'=true):=Lib.hid (by
    refine ⟨?_,?_,?_⟩
    · have:=db_part ho 0 i
      rw [List.drop_zero,Nat.zero_mul,← hX1] at this
      exact this
    · rw [hX1,rflat_len dbCells 5 (fun _=>rfl),List.length_take,← hL,Nat.min_eq_left (by omega)]
    · rw [hX1];exact db_one (fun b hb=>h.slices b (List.mem_of_mem_take hb)))
  have HC2:Hid (Cells w (some ⟨g,j * 5,none⟩) X2∧X2.length=(L - j) * 5∧∀ u∈X2,u.oneCell'=true):=Lib.hid (by
    refine ⟨?_,?_,?_⟩
    · have:=db_part ho j (bs.length)
      rw [List.take_of_length_le (by simp),hj,← hX2] at this
      rw [hj];exact this
    · rw [hX2,rflat_len dbCells 5 (fun _=>rfl),List.length_drop,← hL,hj]
    · rw [hX2];exact db_one (fun b hb=>h.slices b (List.mem_of_mem_drop hb)))
  have HX:Hid (X1++X2=(bs.take i++bs.drop (i+1)).flatMap dbCells∧i+(L - j)=(bs.take i++bs.drop (i+1)).length):=Lib.hid (by
    rw [List.flatMap_append,← hX1,← hX2]
    refine ⟨rfl,?_⟩
    rw [List.length_append,List.length_take,List.length_drop,← hL,hj]
    omega)
  have H:=Lib.hid h
  have HA:=Lib.hid a
  have hqlt:=cell_lt k5
  have k5':w.drew.cell? ⟨q.bq,5,none⟩=some (.slice (some ⟨g,0,none⟩) L c):=k5
  obtain ⟨WA,hWA⟩:∃ W,W=(w.alloc (.cells #[] 251)).drew:=⟨_,rfl⟩
  have hbA:Below w.heap.size w WA:=by rw [hWA];exact ((Below.refl _ w).alloc (Nat.le_refl _) _).drew
  have S0:Hid (Hid (Below w.heap.size w WA)∧WA.cell? ⟨q.bq,5,none⟩=some (.slice (some ⟨g,0,none⟩) L c)):=Lib.hid ⟨Lib.hid hbA,keepC hbA k5⟩
  have OA:Hid (WA.ownsRow w.heap.size 251 5 (.slice (some ⟨w.heap.size,0,none⟩) 0 0) 0 []):=Lib.hid (by rw [hWA];exact World.ownsRow_made w #[] 0 (Nat.le_refl _) (Nat.zero_le _) rfl)
  rw [hWA] at S0 OA
  have f5:w.frozen? ⟨q.bq,5,none⟩=false:=frozenC a
  have hic:i≤c:=by omega
  have hjL:j≤L:=by omega
  have hjc:j≤c:=by omega
  have HB1:Hid (0+i≤maxLen∧(0+i) * 56≤140737488355328):=Lib.hid ⟨by simp only [maxLen];omega,by omega⟩
  have HB2:Hid (i+(L - j)≤maxLen∧(i+(L - j)) * 56≤140737488355328):=Lib.hid ⟨by simp only [maxLen];omega,by omega⟩
  have hw:IntKind.i64.wrap ((i:Int)+1)=(j:Int):=by rw [IntKind.wrap_i64,hj];omega
  have HJ:Hid (c=j→X2=[]):=Lib.hid (fun e=>List.eq_nil_of_length_eq_zero (by rw [HC2.out.2.1];omega))
  clear h a ho hL hX1 hX2 hj hbA hWA hi hs hcm hLc hg1
  obtain ⟨p2,hif,hc2⟩:∃ p2,(if c=j then (some ⟨g,0,none⟩:Option Addr) else some ⟨g,j * 5,none⟩)=p2∧Hid (Cells w p2 X2):=by
    refine ⟨_,rfl,Lib.hid ?_⟩
    by_cases hcj:c=j
    · rw [HJ.out hcj]
      exact Cells.nil _ _
    · rw [if_neg hcj]
      exact HC2.out.1
  go_enter Tryz.func211,Tryz.ntmps211
  go_wp2_with fail
  go_region_law
    (first
      | (refine step_appv rfl (.tmp 5) (.tmp 11) 252 251 rfl i0 _ 5 56 w.heap.size 0 i c Tryz.underlying252 hi0 hz0 hz1 hz2 rfl (by decide) _ [] X1 (some ⟨g,0,none⟩) rfl rfl OA.out HC1.out.2.1 (HC1.out.1.below S0.out.1.out) HC1.out.2.2 HB1.out.1 HB1.out.2 S0.out.1.out.size ?_;intro v5 w5 ho5 hg5;rw [Nat.zero_add,List.nil_append] at ho5;obtain ⟨q5,d5,rfl,-⟩:=rown_sl ho5;have S5:=Lib.hid (keepR2 S0.out OA.out hg5 hqlt);have HO5:=Lib.hid ho5;have k55:=S5.out.2;clear ho5 hg5)
      | (refine step_appv rfl (.tmp 12) (.tmp 19) 252 251 rfl i0 _ 5 56 w.heap.size i (L - j) _ Tryz.underlying252 hi0 hz0 hz1 hz2 rfl (by decide) _ _ X2 p2 rfl rfl HO5.out HC2.out.2.1 (hc2.out.below S5.out.1.out) HC2.out.2.2 HB2.out.1 HB2.out.2 S5.out.1.out.size ?_;intro v6 w6 ho6 hg6;obtain ⟨q6,d6,rfl,-⟩:=rown_sl ho6;have S6:=Lib.hid (keepR2 S5.out HO5.out hg6 hqlt);have HO6:=Lib.hid ho6;have k66:=S6.out.2;have f6:=frozenC (i:=5) ((S6.out.1.out.block q.bq hqlt).trans HA.out);clear ho6 hg6))
  all_goals
    go_wp2
    refine bodyPost_end (results_none rfl _ _ _) rfl ?_
    exact ⟨rfl,wo_end H.out HA.out S6.out.1.out HO6.out HX.out.1 HX.out.2⟩
end
end Go.Proofs.YtheeomjfpnijbaaGreatDoor
end
