/- Lemmas: StateD. -/
import Derived.Test.YtheeomjfpnijbaaGreatDoorLogZeroP
import Derived.Test.YtheeomjfpnijbaaGreatDoorBackP
set_option linter.unusedVariables false
namespace Go.Proofs.YtheeomjfpnijbaaGreatDoor
open Go.RowKit Go.Shelf
def DiskIs (w:World) (N:Zone) (bd n:Nat) (D:Nat→List UInt8) (c:Nat):Prop:=∃ S P,DiskAt w N bd S P∧S.length=n∧P.length≤c∧∀ i,i < n→seen S P i=D i
def updD (D:Nat→List UInt8) (i:Nat) (xs:List UInt8):Nat→List UInt8:=fun j=>if j=i then xs else D j
theorem seen_write {S:List (List UInt8)} {P:List (Nat × List UInt8)} {i j:Nat} {xs:List UInt8} (hi:i < S.length):seen S (P++[(i,xs)]) j=if j=i then xs else seen S P j:=by
  unfold seen
  rw [applyW_snoc]
  by_cases h:j=i
  · subst h
    rw [if_pos rfl,List.getElem?_set_self (by rw [applyW_length];exact hi)]
    rfl
  · rw [if_neg h,List.getElem?_set_ne (fun e=>h e.symm)]
theorem DiskIs.upd {w w':World} {N:Zone} {T:Nat→Prop} {bd n c:Nat} {D:Nat→List UInt8} (h:DiskIs w N bd n D c) (hu:Upd T w w') (h1:∀ k,T k→¬ DS N w k) (h2:∀ k,T k→Typed w k 5→N k):DiskIs w' N bd n D c:=by
  obtain ⟨S,P,hd,r⟩:=h
  exact ⟨S,P,hd.upd hu h1 h2,r⟩
theorem disIs_read {N:Zone} (bd n c i:Nat) (D:Nat→List UInt8) (w:World) (h:DiskIs w N bd n D c) (hN:∀ k,N k→k < w.heap.size) (hi:i < n) (hc:c < 1000000000) :
    Calls Tryz.prog 161 #[.pointer (some ⟨bd,0,none⟩),.int .i64 i] w fun e w'=>∃ v,e=.returned (.tuple #[v,.int .i64 0])∧w'.ownsRow w.heap.size 5 1 v 128 (B8s (D i))∧Below w.heap.size w w':=by
  obtain ⟨S,P,hd,hn,hp,hD⟩:=h
  refine (diskRead_any bd S P i w hd hN (by omega) (by omega)).mono ?_
  rintro e w' ⟨v,rfl,ho,hb⟩
  rw [hD i hi] at ho
  exact ⟨v,rfl,ho,hb⟩
theorem disIs_write {N:Zone} (bd n c i:Nat) (D:Nat→List UInt8) (q:Option Addr) (cc:Nat) (xs:List UInt8) (w:World) (h:DiskIs w N bd n D c) (hN:∀ k,N k→k < w.heap.size) (hi:i < n) (hx:xs.length=128) (hr:Rd w q xs) (hc:c < 1000000000) :
    Calls Tryz.prog 159 #[.pointer (some ⟨bd,0,none⟩),.int .i64 i,.slice q 128 cc] w fun e w'=>e=.returned (.int .i64 0)∧DiskIs w' N bd n (updD D i xs) (c+1)∧Upd (DS N w) w w':=by
  obtain ⟨S,P,hd,hn,hp,hD⟩:=h
  refine (diskWrite_any bd S P i q cc xs w hd hN (by omega) hx hr (by omega)).mono ?_
  rintro e w' ⟨rfl,hd',hu⟩
  refine ⟨rfl,⟨S,_,hd',hn,by simp;omega,fun j hj=>?_⟩,hu⟩
  rw [seen_write (by omega),hD j hj]
  rfl
theorem disIs_flush {N:Zone} (bd n c:Nat) (D:Nat→List UInt8) (w:World) (h:DiskIs w N bd n D c) (hN:∀ k,N k→k < w.heap.size) (hc:c < 1000000000) :
    Calls Tryz.prog 157 #[.pointer (some ⟨bd,0,none⟩)] w fun e w'=>e=.returned (.int .i64 0)∧DiskIs w' N bd n D 0∧Upd (DS N w) w w':=by
  obtain ⟨S,P,hd,hn,hp,hD⟩:=h
  refine (diskFlush_any bd S P w hd hN (by omega)).mono ?_
  rintro e w' ⟨rfl,hd',hu⟩
  exact ⟨rfl,⟨_,[],hd',by rw [applyW_length,hn],by simp,fun j hj=>hD j hj⟩,hu⟩
structure LogV where
  fro:Nat
  sectors:Nat
  first:Nat
  last:Nat
  forced:Nat
  durable:Nat
  sv:Value
  xs:List UInt8
structure LogOk (L:LogV) (n:Nat):Prop where
  inn:L.fro+L.sectors≤n
  long:L.xs.length≤L.sectors * 112
  dur:L.durable≤L.xs.length
  last:L.last≤4611686018427387904
  first:1≤L.first∧L.first≤4611686018427387904
  forced:L.forced≤L.last
structure St (w:World) (N:Zone) (bd bl n c:Nat) (D:Nat→List UInt8) (L:LogV):Prop where
  disk:DiskIs w N bd n D c
  log:LogAt w N.B bl bd L.fro L.sectors L.first L.last L.forced L.durable L.sv L.xs
  lown:∀ g,L.sv.ownBlock=some g→N g
  llow:N.B≤bl
  lok:LogOk L n
  no:∀ k,N k→k < w.heap.size
  halves:Halves w
  hlow:0 < N.B
  base:N.B≤w.heap.size
def FS (N:Zone) (bm:Nat) (w:World) (k:Nat):Prop:=N.B≤k∧(Typed w k 90 ∨ RowT N w k ∨ Typed w k 159 ∨ Typed w k 267 ∨ Typed w k 261 ∨ Typed w k 321 ∨ k=bm)
theorem fs_same {N:Zone} {bm:Nat} (w w':World) (k:Nat) (h:w'.heap[k]?=w.heap[k]?) (ht:FS N bm w' k):FS N bm w k:=by
  obtain ⟨hb,ht⟩:=ht
  refine ⟨hb,?_⟩
  rcases ht with ht | ht | ht | ht | ht | ht | ht
  · exact .inl (typed_same w w' k h ht)
  · exact .inr (.inl (rowt_same w w' k h ht))
  · exact .inr (.inr (.inl (typed_same w w' k h ht)))
  · exact .inr (.inr (.inr (.inl (typed_same w w' k h ht))))
  · exact .inr (.inr (.inr (.inr (.inl (typed_same w w' k h ht)))))
  · exact .inr (.inr (.inr (.inr (.inr (.inl (typed_same w w' k h ht))))))
  · exact .inr (.inr (.inr (.inr (.inr (.inr ht)))))
theorem FS.of_ds {N:Zone} {bm:Nat} {w:World} {k:Nat} (h:DS N w k):FS N bm w k:=by
  obtain ⟨hb,h⟩:=h
  rcases h with h | h | h
  · exact ⟨hb,.inl h⟩
  · exact ⟨hb,.inr (.inl h)⟩
  · exact ⟨hb,.inr (.inr (.inl h))⟩
theorem FS.trans {N:Zone} {bm:Nat} {a b c:World} (h:Upd (FS N bm a) a b) (k:Upd (FS N bm b) b c):Upd (FS N bm a) a c:=Upd.same (R:=FS N bm) fs_same h k
theorem FS.of_below {N:Zone} {bm:Nat} {w w':World} (h:Below w.heap.size w w'):Upd (FS N bm w) w w':=Upd.of_below' h _
theorem Halves.upd {w w':World} {T:Nat→Prop} (h:Halves w) (hu:Upd T w w') (hT:¬ T 0):Halves w':=fun i=>hu.cell (h i) hT
theorem LogAt.upd {w w':World} {T:Nat→Prop} {B bl bd fro sectors first last forced durable:Nat} {sv:Value} {xs:List UInt8} (h:LogAt w B bl bd fro sectors first last forced durable sv xs) (hu:Upd T w w') (h1:¬ T bl) (h2:∀ k,T k→B≤k→¬ Typed w k 5):LogAt w' B bl bd fro sectors first last forced durable sv xs :=
  ⟨(hu.block bl (Array.getElem?_eq_some_iff.1 h.cells).1 h1).trans h.cells,own_updB h.own hu h2⟩
theorem St.upd {w w':World} {N:Zone} {T:Nat→Prop} {bd bl n c:Nat} {D:Nat→List UInt8} {L:LogV} (h:St w N bd bl n c D L) (hu:Upd T w w') (hB:∀ k,T k→N.B≤k) (h1:∀ k,T k→¬ DS N w k∧¬ Typed w k 267∧¬ Typed w k 5):St w' N bd bl n c D L where
  disk:=h.disk.upd hu (fun k hk=>(h1 k hk).1) (fun k hk ht=>absurd ht (h1 k hk).2.2)
  log:=h.log.upd hu (fun hk=>(h1 _ hk).2.1 h.log.typed) (fun k hk _=>(h1 k hk).2.2)
  lown:=h.lown
  llow:=h.llow
  lok:=h.lok
  no:=fun k hk=>Nat.lt_of_lt_of_le (h.no k hk) hu.size
  halves:=h.halves.upd hu (fun ht=>by have:=hB _ ht;have:=h.hlow;omega)
  hlow:=h.hlow
  base:=Nat.le_trans h.base hu.size
theorem St.below {w w':World} {N:Zone} {bd bl n c:Nat} {D:Nat→List UInt8} {L:LogV} (h:St w N bd bl n c D L) (hb:Below w.heap.size w w'):St w' N bd bl n c D L :=
  h.upd (T:=fun _=>False) (Upd.of_below' hb _) (fun k hk=>hk.elim) (fun k hk=>hk.elim)
theorem St.disked {w w':World} {N:Zone} {bd bl n c c':Nat} {D D':Nat→List UInt8} {L:LogV} (h:St w N bd bl n c D L) (hu:Upd (DS N w) w w') (hd:DiskIs w' N bd n D' c'):St w' N bd bl n c' D' L where
  disk:=hd
  log:=h.log.upd hu (fun hk=>by rcases hk with ⟨-,hk | hk | hk⟩ <;> exact absurd (hk.one h.log.typed) (by decide)) (fun k hk _ ht=>by rcases hk with ⟨-,hk | hk | hk⟩ <;> exact absurd (hk.one ht) (by decide))
  lown:=h.lown
  llow:=h.llow
  lok:=h.lok
  no:=fun k hk=>Nat.lt_of_lt_of_le (h.no k hk) hu.size
  halves:=h.halves.upd hu (fun ht=>by have:=ht.1;have:=h.hlow;omega)
  hlow:=h.hlow
  base:=Nat.le_trans h.base hu.size
theorem FS.of_pool {N:Zone} {bm:Nat} {w w':World} {T:Nat→Prop} (hu:Upd T w w') (hT:∀ k,T k→N.B≤k∧(Typed w k 261 ∨ Typed w k 321 ∨ k=bm)):Upd (FS N bm w) w w' :=
  hu.mono fun k _ hk=>by
    obtain ⟨hb,h | h | h⟩:=hT k hk
    · exact ⟨hb,.inr (.inr (.inr (.inr (.inl h))))⟩
    · exact ⟨hb,.inr (.inr (.inr (.inr (.inr (.inl h)))))⟩
    · exact ⟨hb,.inr (.inr (.inr (.inr (.inr (.inr h)))))⟩
theorem FS.of_disk {N:Zone} {bm:Nat} {w w':World} (hu:Upd (DS N w) w w'):Upd (FS N bm w) w w':=hu.mono fun k _ hk=>FS.of_ds hk
end Go.Proofs.YtheeomjfpnijbaaGreatDoor
