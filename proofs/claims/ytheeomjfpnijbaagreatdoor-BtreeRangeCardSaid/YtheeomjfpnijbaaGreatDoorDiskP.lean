/- Lemmas: Disk. -/
import Derived.Test.YtheeomjfpnijbaaGreatDoorDecodeP
import Derived.Test.YtheeomjfpnijbaaGreatDoorPutPP
import Derived.Deep.AppendLies
import Derived.Deep.RegionHeld3
set_option linter.unusedVariables false
namespace Go.Proofs.YtheeomjfpnijbaaGreatDoor
open Go.RowKit
def Typed (w:World) (k:Nat) (t:TypeId):Prop:=∃ cs,w.heap[k]?=some (.cells cs t (0,0))
theorem Typed.one {w:World} {k:Nat} {t u:TypeId} (h:Typed w k t) (h':Typed w k u):t=u:=by
  obtain ⟨a,ha⟩:=h
  obtain ⟨b,hb⟩:=h'
  rw [ha] at hb
  cases hb
  rfl
def Byt (w:World) (N:Nat→Prop) (v:Value) (xs:List UInt8):Prop :=
  ∃ p c,v=.slice p xs.length c∧xs.length≤c∧c≤maxLen∧(0 < xs.length→∃ g o cs,p=some ⟨g,o,none⟩∧w.heap[g]?=some (.cells cs 5 (0,0))∧¬ N g∧∀ i x,xs[i]?=some x→cs[o+i]?=some (B8 x))
theorem Byt.rd {w:World} {N:Nat→Prop} {p:Option Addr} {n c:Nat} {xs:List UInt8} (h:Byt w N (.slice p n c) xs):Rd w p xs∧xs.length=n∧n≤c∧c≤maxLen:=by
  obtain ⟨p',c',e,h1,h2,h3⟩:=h
  cases e
  refine ⟨fun hne=>?_,rfl,h1,h2⟩
  obtain ⟨g,o,cs,rfl,hh,hn,hc⟩:=h3 (by rcases xs with _ | ⟨x,xs⟩ <;> simp [B8s] at hne ⊢)
  refine ⟨g,o,rfl,fun i v hv=>?_⟩
  obtain ⟨x,hx,rfl⟩:∃ x,xs[i]?=some x∧B8 x=v:=by simpa [B8s] using hv
  simp only [World.cell?,hh]
  simpa using hc i x hx
theorem Byt.slice {w:World} {N:Nat→Prop} {v:Value} {xs:List UInt8} (h:Byt w N v xs):∃ p c,v=.slice p xs.length c:=by
  obtain ⟨p,c,rfl,-⟩:=h
  exact ⟨p,c,rfl⟩
theorem Byt.upd {w w':World} {N S:Nat→Prop} {v:Value} {xs:List UInt8} (h:Byt w N v xs) (hu:Upd S w w') (hS:∀ k,S k→Typed w k 5→N k):Byt w' N v xs:=by
  obtain ⟨p,c,rfl,h1,h2,h3⟩:=h
  refine ⟨p,c,rfl,h1,h2,fun hp=>?_⟩
  obtain ⟨g,o,cs,rfl,hh,hn,hc⟩:=h3 hp
  exact ⟨g,o,cs,rfl,(hu.block g (Array.getElem?_eq_some_iff.1 hh).1 (fun hs=>hn (hS g hs ⟨cs,hh⟩))).trans hh,hn,hc⟩
theorem Byt.mono {w:World} {N N':Nat→Prop} {v:Value} {xs:List UInt8} (h:Byt w N v xs) (hN:∀ k,k < w.heap.size→N' k→N k):Byt w N' v xs:=by
  obtain ⟨p,c,rfl,h1,h2,h3⟩:=h
  refine ⟨p,c,rfl,h1,h2,fun hp=>?_⟩
  obtain ⟨g,o,cs,rfl,hh,hn,hc⟩:=h3 hp
  exact ⟨g,o,cs,rfl,hh,fun hn'=>hn (hN g (Array.getElem?_eq_some_iff.1 hh).1 hn'),hc⟩
theorem Byt.own {w:World} {N:Nat→Prop} {base n:Nat} {v:Value} {xs:List UInt8} (h:w.ownsRow base 5 1 v n (B8s xs)) (hN:∀ k,N k→k < base):Byt w N v xs:=by
  rcases Nat.eq_zero_or_pos n with h0 | h0
  · subst h0
    obtain ⟨p,c,e,hr,hl,hm,hb⟩:=own_rd h
    obtain ⟨p',c',e',hle,hcm⟩:∃ p c,v=.slice p 0 c∧0≤c∧c≤maxLen:=by
      rcases h.2 with ⟨rfl,_⟩ | ⟨g,cap,cur,rfl,hb,hh,h1,h2,_⟩
      · exact ⟨none,0,rfl,Nat.le_refl _,by simp⟩
      · exact ⟨_,cap,rfl,Nat.zero_le _,h2⟩
    have hx:xs=[]:=List.eq_nil_of_length_eq_zero hl
    subst hx
    exact ⟨p',c',e',hle,hcm,fun hp=>by simp at hp⟩
  · obtain ⟨g,cap,cur,rfl,hb,hh,hx,hc,hm⟩:=own8 h h0
    refine ⟨some ⟨g,0,none⟩,cap,by rw [hx],by omega,hm,fun hp=>⟨g,0,_,rfl,hh,fun hn=>by have:=hN g hn;omega,fun i x hi=>?_⟩⟩
    have hil:i < (B8s xs).length:=by rw [B8s_length];exact (List.getElem?_eq_some_iff.1 hi).1
    rw [Nat.zero_add,List.getElem?_toArray,List.getElem?_append_left hil]
    simp [B8s,hi]
structure Zone where
  B:Nat
  no:Nat→Prop
  far:Nat→Prop
instance:CoeFun Zone (fun _=>Nat→Prop):=⟨Zone.no⟩
instance:Coe Zone (Nat→Prop):=⟨Zone.no⟩
structure DiskAt (w:World) (N:Zone) (bd:Nat) (S:List (List UInt8)) (P:List (Nat × List UInt8)):Prop where
  cells:∃ (bs cs:Nat) (pv:Value) (vs us:List Value),w.heap[bd]?=some (.cells #[.slice (some ⟨bs,0,none⟩) S.length cs,pv] 90 (0,0)) ∧
    w.ownsRow N.B 76 1 (.slice (some ⟨bs,0,none⟩) S.length cs) S.length vs∧vs.length=S.length∧(∀ (i:Nat) (x:List UInt8) (v:Value),S[i]?=some x→vs[i]?=some v→Byt w N v x) ∧
    w.ownsRow N.B 159 2 pv P.length ((P.zip us).flatMap fun x=>[.int .i64 x.1.1,x.2])∧us.length=P.length∧(∀ (i:Nat) (x:Nat × List UInt8) (v:Value),P[i]?=some x→us[i]?=some v→Byt w N v x.2)
  pos:0 < S.length
  small:S.length≤4096
  size:∀ x∈S,x.length=128
  psize:∀ x∈P,x.2.length=128
  pin:∀ x∈P,x.1 < S.length
  low:N.B≤bd
  nfar:∀ bs m cs,w.cell? ⟨bd,0,none⟩=some (.slice (some ⟨bs,0,none⟩) m cs)→¬ N.far bs
def RowT (N:Zone) (w:World) (k:Nat):Prop:=Typed w k 76∧¬ N.far k
theorem RowT.one {N:Zone} {w:World} {k:Nat} {u:TypeId} (h:RowT N w k) (h':Typed w k u):76=u:=h.1.one h'
instance {N:Zone} {w:World} {k:Nat}:CoeOut (RowT N w k) (Typed w k 76):=⟨fun h=>h.1⟩
def DS (N:Zone) (w:World) (k:Nat):Prop:=N.B≤k∧(Typed w k 90 ∨ RowT N w k ∨ Typed w k 159)
theorem own_upd {w w':World} {S:Nat→Prop} {base:Nat} {e:TypeId} {size n:Nat} {v:Value} {xs:List Value} (h:w.ownsRow base e size v n xs) (hu:Upd S w w') (hS:∀ k,S k→¬ Typed w k e):w'.ownsRow base e size v n xs:=by
  refine ⟨h.1,?_⟩
  rcases h.2 with hn | ⟨g,cap,cur,rfl,hb,hg,rest⟩
  · exact .inl hn
  · exact .inr ⟨g,cap,cur,rfl,hb,(hu.block g (Array.getElem?_eq_some_iff.1 hg).1 (fun hs=>hS g hs ⟨cur,hg⟩)).trans hg,rest⟩
theorem own_updB {w w':World} {S:Nat→Prop} {base:Nat} {e:TypeId} {size n:Nat} {v:Value} {xs:List Value} (h:w.ownsRow base e size v n xs) (hu:Upd S w w') (hS:∀ k,S k→base≤k→¬ Typed w k e):w'.ownsRow base e size v n xs:=by
  refine ⟨h.1,?_⟩
  rcases h.2 with hn | ⟨g,cap,cur,rfl,hb,hg,rest⟩
  · exact .inl hn
  · exact .inr ⟨g,cap,cur,rfl,hb,(hu.block g (Array.getElem?_eq_some_iff.1 hg).1 (fun hs=>hS g hs hb ⟨cur,hg⟩)).trans hg,rest⟩
theorem own_updO {w w':World} {S:Nat→Prop} {base:Nat} {e:TypeId} {size n:Nat} {v:Value} {xs:List Value} (h:w.ownsRow base e size v n xs) (hu:Upd S w w') (hS:∀ k,S k→base≤k→some k=v.ownBlock→¬ Typed w k e):w'.ownsRow base e size v n xs:=by
  refine ⟨h.1,?_⟩
  rcases h.2 with hn | ⟨g,cap,cur,rfl,hb,hg,rest⟩
  · exact .inl hn
  · exact .inr ⟨g,cap,cur,rfl,hb,(hu.block g (Array.getElem?_eq_some_iff.1 hg).1 (fun hs=>hS g hs hb rfl ⟨cur,hg⟩)).trans hg,rest⟩
theorem DiskAt.upd {w w':World} {N:Zone} {T:Nat→Prop} {bd:Nat} {S:List (List UInt8)} {P:List (Nat × List UInt8)} (h:DiskAt w N bd S P) (hu:Upd T w w') (h1:∀ k,T k→¬ DS N w k) (h2:∀ k,T k→Typed w k 5→N k):DiskAt w' N bd S P:=by
  obtain ⟨⟨bs,cs,pv,vs,us,hh,hv,hvl,hvb,hp,hpl,hpb⟩,a1,a2,a3,a4,a5,a6,a7⟩:=h
  have hbd:=(hu.block bd (Array.getElem?_eq_some_iff.1 hh).1 (fun hs=>h1 bd hs ⟨a6,.inl ⟨_,hh⟩⟩)).trans hh
  have hnf:¬ N.far bs:=a7 bs _ _ (by simp only [World.cell?,hh];rfl)
  refine ⟨⟨bs,cs,pv,vs,us,?_,own_updO hv hu (fun k hk hb ho ht=>h1 k hk ⟨hb,.inr (.inl ⟨ht,by have e:k=bs:=(by simpa [Value.ownBlock] using ho);rw [e];exact hnf⟩)⟩),hvl,fun i x v hx hv'=>(hvb i x v hx hv').upd hu h2,own_updB hp hu (fun k hk hb ht=>h1 k hk ⟨hb,.inr (.inr ht)⟩),hpl,fun i x v hx hv'=>(hpb i x v hx hv').upd hu h2⟩,a1,a2,a3,a4,a5,a6,fun b m c hc=>?_⟩
  · exact hbd
  · simp only [World.cell?,hbd] at hc
    cases hc
    exact hnf
theorem DiskAt.mono {w:World} {N N':Zone} {bd:Nat} {S:List (List UInt8)} {P:List (Nat × List UInt8)} (h:DiskAt w N bd S P) (hN:∀ k,k < w.heap.size→N' k→N k) (hB:N'.B≤N.B) (hF:∀ k,N'.far k→N.far k):DiskAt w N' bd S P:=by
  obtain ⟨⟨bs,cs,pv,vs,us,hh,hv,hvl,hvb,hp,hpl,hpb⟩,a1,a2,a3,a4,a5,a6,a7⟩:=h
  exact ⟨⟨bs,cs,pv,vs,us,hh,own_mono hv hB,hvl,fun i x v hx hv'=>(hvb i x v hx hv').mono hN,own_mono hp hB,hpl,fun i x v hx hv'=>(hpb i x v hx hv').mono hN⟩,a1,a2,a3,a4,a5,Nat.le_trans hB a6,fun b m c hc hf=>a7 b m c hc (hF b hf)⟩
theorem keepC {w w':World} {p:Addr} {v:Value} (hb:Below w.heap.size w w') (h:w.cell? p=some v):w'.cell? p=some v:=(hb.cell (cell_lt h)).trans h
theorem chainC {w W1 W2:World} (h1:Below w.heap.size w W1) (h2:Below W1.heap.size W1 W2):Below w.heap.size w W2:=h1.trans (h2.mono h1.size)
theorem cellNew {w:World} {cs:Array Value} {t:TypeId} {j:Nat} {v:Value} (hj:cs[j]?=some v):(w.alloc (.cells cs t)).cell? ⟨w.heap.size,j,none⟩=some v:=by
  have:=heap_alloc_new w (.cells cs t)
  simp only [World.cell?,this]
  simpa using hj
theorem wrapK {k n:Nat} (h:k < n) (hn:n≤9223372036854775807):wrap64 ((k:Int)+1)=((k+1:Nat):Int):=by
  unfold wrap64
  omega
theorem frozenC {w:World} {g i:Nat} {c:Array Value} {t:TypeId} (h:w.heap[g]?=some (.cells c t (0,0))):w.frozen? ⟨g,i,none⟩=false:=by simp [World.frozen?,h]
def NoDisk (w:World) (p:Option Addr):Prop:=p=none ∨ ∃ b c,p=some ⟨b,0,none⟩∧w.cell? ⟨b,0,none⟩=some (.slice none 0 c)
theorem DiskAt.load {w:World} {N:Zone} {bd:Nat} {S:List (List UInt8)} {P:List (Nat × List UInt8)} (h:DiskAt w N bd S P) :
    ∃ bs cs pv,w.cell? ⟨bd,0,none⟩=some (.slice (some ⟨bs,0,none⟩) S.length cs)∧w.cell? ⟨bd,1,none⟩=some pv:=by
  obtain ⟨⟨bs,cs,pv,vs,us,hh,-⟩,-⟩:=h
  exact ⟨bs,cs,pv,by simp [World.cell?,hh],by simp [World.cell?,hh]⟩
set_option maxHeartbeats 400000 in
theorem sectors_none (p:Option Addr) (w:World) (h:NoDisk w p) :
    Calls Tryz.prog 76 #[.pointer p] w fun e w'=>e=.returned (.int .i64 0)∧w'=w:=by
  rcases h with rfl | ⟨b,c,rfl,h⟩
  · go_enter Tryz.func76,Tryz.ntmps76
    go_wp2
    go_ret
    exact ⟨rfl,rfl⟩
  · go_enter Tryz.func76,Tryz.ntmps76
    go_wp2
    go_ret
    exact ⟨rfl,rfl⟩
set_option maxHeartbeats 400000 in
theorem sectors_any {N:Zone} (bd:Nat) (S:List (List UInt8)) (P:List (Nat × List UInt8)) (w:World) (h:DiskAt w N bd S P) :
    Calls Tryz.prog 76 #[.pointer (some ⟨bd,0,none⟩)] w fun e w'=>e=.returned (.int .i64 S.length)∧w'=w:=by
  obtain ⟨bs,cs,pv,h0,h1⟩:=h.load
  clear h h1
  go_enter Tryz.func76,Tryz.ntmps76
  go_wp2
  go_ret
  exact ⟨rfl,rfl⟩
def lookE (i:Int) (n:Nat):Int:=if 0≤i∧i < n then 0 else 1
set_option maxHeartbeats 400000 in
theorem look_none (p:Option Addr) (i:Int) (w:World) (h:NoDisk w p) :
    Calls Tryz.prog 219 #[.pointer p,.int .i64 i] w fun e w'=>e=.returned (.int .i64 2)∧w'=w:=by
  have H:=Lib.hid h
  clear h
  go_enter Tryz.func219,Tryz.ntmps219
  go_wp2_with fail
  refine (sectors_none p _ H.out).mono ?_
  rintro e w' ⟨rfl,rfl⟩
  go_wp2
  go_ret
  exact ⟨rfl,rfl⟩
set_option maxHeartbeats 400000 in
theorem look_any {N:Zone} (bd:Nat) (S:List (List UInt8)) (P:List (Nat × List UInt8)) (i:Int) (w:World) (h:DiskAt w N bd S P) :
    Calls Tryz.prog 219 #[.pointer (some ⟨bd,0,none⟩),.int .i64 i] w fun e w'=>e=.returned (.int .i64 (lookE i S.length))∧w'=w:=by
  have hpos:=h.pos
  obtain ⟨bs,cs,pv,h0,h1⟩:=h.load
  have H:=Lib.hid h
  obtain ⟨n,hn⟩:∃ n,n=S.length:=⟨_,rfl⟩
  rw [← hn] at h0 hpos ⊢
  have HN:=Lib.hid hn
  have hz:((n:Int) == 0)=false:=by simp;omega
  clear h h1 hn
  unfold lookE
  go_enter Tryz.func219,Tryz.ntmps219
  go_wp2_with fail
  refine (sectors_any bd S P _ H.out).mono ?_
  rintro e w' ⟨rfl,rfl⟩
  rw [← HN.out]
  by_cases hi:i < 0
  · have hd:decide (i < 0)=true:=decide_eq_true hi
    go_wp2
    go_ret
    exact ⟨rfl,rfl⟩
  · have hd:decide (i < 0)=false:=decide_eq_false hi
    by_cases hi2:i < n
    · have hd2:decide (i ≥ (n:Int))=false:=decide_eq_false (by omega)
      go_wp2
      go_ret
      exact ⟨rfl,rfl⟩
    · have hd2:decide (i ≥ (n:Int))=true:=decide_eq_true (by omega)
      go_wp2
      go_ret
      exact ⟨rfl,rfl⟩
end Go.Proofs.YtheeomjfpnijbaaGreatDoor
namespace Go.Proofs.YtheeomjfpnijbaaGreatDoor
open Go.RowKit
def zeros (n:Nat):List UInt8:=List.replicate n 0
def zeroS (n:Nat):List (List UInt8):=List.replicate n (zeros 128)
def cutV (ga i:Nat):Value:=.slice (some ⟨ga,i * 128,none⟩) 128 128
theorem infoSlD:(Tryz.prog.info? 76).map (fun i=>(i.zero,i.size,i.bytes))=some (some (.slice none 0 0),1,24):=by kernel_rfl
theorem grown_keep {W w1:World} {o:Obj} {v:Value} {base:Nat} {e:TypeId} {size n:Nat} {xs:List Value} (ho:W.ownsRow base e size v n xs) (hg:(W.alloc o).drew.grownBy w1 v.ownBlock) (k:Nat) (hk:k < base) (hkw:k < W.heap.size):w1.heap[k]?=W.heap[k]?:=by
  have h1:=hg.block k (by show k < (W.alloc o).heap.size;simp;omega) (fun e'=>by have:=(ho.lt k e'.symm).1;omega)
  exact h1.trans (Below.heap_alloc _ _ k hkw)
set_option maxHeartbeats 2000000 in
set_option maxRecDepth 20000 in
theorem diskNew_any (n:Nat) (w:World) (h1:1≤n) (h2:n≤4096) :
    Calls Tryz.prog 27 #[.int .i64 n] w fun e w'=>∃ bd,e=.returned (.tuple #[.pointer (some ⟨bd,0,none⟩),.int .i64 0])∧w.heap.size≤bd∧bd < w'.heap.size ∧
      (∀ N:Zone,N.B≤w.heap.size→(∀ k,N k→k < w.heap.size)→(∀ k,N.far k→k < w.heap.size ∨ w'.heap.size≤k)→DiskAt w' N bd (zeroS n) [])∧Below w.heap.size w w':=by
  have HN1:=Lib.hid h1
  have HN2:=Lib.hid h2
  have hd1:decide ((n:Int) < 1)=false:=decide_eq_false (by omega)
  have hd2:decide ((n:Int) > 4096)=false:=decide_eq_false (by omega)
  have hm:IntKind.i64.wrap ((n:Int) * 128)=(n * 128:Nat):=by rw [IntKind.wrap_i64];omega
  obtain ⟨i0,hi,hz0,hz1,hz2⟩:=info_parts infoSlD
  have hmk:∀ W:World,(Instr.makeSlice 76 (.int .i64 ((n:Int) * 128)) (.int .i64 ((n:Int) * 128))).run Tryz.prog W=.ok (.slice (some ⟨W.heap.size,0,none⟩) (n * 128) (n * 128)) (W.alloc (.cells (Zs (n * 128)) 5)):=fun W=>make8 (n * 128) (by omega) W
  go_enter Tryz.func27,Tryz.ntmps27
  go_wp2
  go_loopw [19] (fun i wr=>∃ (k:Nat) (v:Value),k≤n∧i=.int .i64 k∧Hid (wr.heap[w.heap.size]?=some (.cells (Zs (n * 128)) 5 (0,0)))∧Hid (wr.heap[w.heap.size+1]?=some (.cells #[v,.slice none 0 0] 90 (0,0))) ∧
    Hid (wr.ownsRow (w.heap.size+2) 76 1 v k ((List.range k).map (cutV w.heap.size)))∧Hid (Below w.heap.size w wr)∧w.heap.size+2≤wr.heap.size) (fun i _=>n - (intOf i).toNat)
  case atStart =>
    have e1:((w.alloc (.cells (Zs (n * 128)) 5)).alloc (.cells #[.slice none 0 0,.slice none 0 0] 90)).heap[w.heap.size+1]?=some (.cells #[.slice none 0 0,.slice none 0 0] 90 (0,0)):=by
      have:=heap_alloc_new (w.alloc (.cells (Zs (n * 128)) 5)) (.cells #[.slice none 0 0,.slice none 0 0] 90)
      rw [World.size_alloc] at this
      exact this
    exact ⟨0,_,Nat.zero_le _,rfl,Lib.hid ((Below.heap_alloc _ _ _ (by simp)).trans (heap_alloc_new w _)),Lib.hid e1,Lib.hid (World.ownsRow_nil _ _ _ _),Lib.hid (((Below.refl _ w).alloc (Nat.le_refl _) _).alloc (by simp) _),by simp⟩
  case round =>
    obtain ⟨k,v,hk,rfl,HA,HD,HR,HB,hsz⟩:=hrel
    by_cases hlt:k < n
    · obtain ⟨q,cq,rfl,hqc⟩:∃ q c,v=.slice q k c∧k≤c:=by
        rcases HR.out.2 with ⟨rfl,h0⟩ | ⟨g,cap,cur,rfl,_,_,h1,_⟩
        · exact ⟨none,0,by rw [h0],by omega⟩
        · exact ⟨_,cap,rfl,h1⟩
      have k0:wr.cell? ⟨w.heap.size+1,0,none⟩=some (.slice q k cq):=by simp [World.cell?,HD.out]
      have f0:wr.frozen? ⟨w.heap.size+1,0,none⟩=false:=frozenC HD.out
      have hkn:k+1≤n:=hlt
      have hlt1:w.heap.size+1 < wr.heap.size:=hsz
      obtain ⟨A,hA⟩:∃ A,A=k * 128:=⟨_,rfl⟩
      obtain ⟨B,hBB⟩:∃ B,B=k+1:=⟨_,rfl⟩
      obtain ⟨C,hC⟩:∃ C,C=B * 128:=⟨_,rfl⟩
      have hw1:IntKind.i64.wrap ((k:Int) * 128)=(A:Int):=by rw [IntKind.wrap_i64];omega
      have hw2:IntKind.i64.wrap ((k:Int)+1)=(B:Int):=by rw [IntKind.wrap_i64];omega
      have hw3:IntKind.i64.wrap ((B:Int) * 128)=(C:Int):=by rw [IntKind.wrap_i64];omega
      have hCn:(C:Int)≤(n:Int) * 128:=by omega
      have hC0:(0:Int)≤(C:Int):=by omega
      have hmx:max (C:Int) 0=(C:Int):=by omega
      have hAC:(A:Int)≤(C:Int):=by omega
      have hne:(C=A)=False:=eq_false (by omega)
      have hsub:C - A=128:=by omega
      have hcv:Hid (cutV w.heap.size k=.slice (some ⟨w.heap.size,A,none⟩) 128 128):=Lib.hid (by unfold cutV;rw [hA])
      have HWB:=Lib.hid hBB
      clear hA hBB hC
      have HOA:Hid ((wr.alloc (.cells #[.slice (some ⟨w.heap.size,A,none⟩) 128 128] 76)).drew.ownsRow (w.heap.size+2) 76 1 (.slice q k cq) k ((List.range k).map (cutV w.heap.size))):=Lib.hid (HR.out.alloc _).drew
      go_wp2
      go_region_law (first
        | (refine step_append_lies _ rfl (.tmp 27) (.tmp 38) 85 rfl (w.heap.size+2) 76 i0 (.slice none 0 0) 1 24 Tryz.underlying85 hi hz0 hz1 hz2 rfl (by decide) (.slice q k cq) k ((List.range k).map (cutV w.heap.size)) rfl HOA.out ⟨wr.heap.size,0,none⟩ 1 1 [.slice (some ⟨w.heap.size,A,none⟩) 128 128] (by rfl) rfl (cell_one_new _ _ _) (by simp [Value.oneCell']) (by omega) (by simp only [maxLen];have:=HN2.out;omega) (by have:=HN2.out;omega) (by simp;omega) (wr.heap.size+1) (by simp) ?_;intro gg cap w1 hown1 hgrow hat hltg;have HD1:=Lib.hid ((grown_keep HR.out hgrow (w.heap.size+1) (by omega) (by omega)).trans HD.out);have HA1:=Lib.hid ((grown_keep HR.out hgrow w.heap.size (by omega) (by omega)).trans HA.out);have k01:w1.cell? ⟨w.heap.size+1,0,none⟩=some (.slice q k cq):=(by simp [World.cell?,HD1.out]);have f01:=frozenC (i:=0) HD1.out;have HR1:=Lib.hid hown1;have HG1:=Lib.hid hgrow;clear hown1 hgrow hat))
      all_goals go_wp2
      all_goals go_roundw
      all_goals first
        | exact ⟨k+1,_,hkn,by rw [HWB.out],
            Lib.hid ((heap_setCell_other w1 ⟨w.heap.size+1,0,none⟩ w.heap.size _ (by simp)).trans HA1.out),
            Lib.hid (heap_setCell_same w1 (w.heap.size+1) 0 _ _ _ HD1.out),
            Lib.hid (by
              have:=ownsRow_setCell_below HR1.out (a:=⟨w.heap.size+1,0,none⟩) (by show w.heap.size+1 < w.heap.size+2;omega) (.slice (some ⟨gg,0,none⟩) (k+1) cap)
              rw [List.range_succ,List.map_append,List.map_singleton,hcv.out]
              exact this),
            Lib.hid (((((HB.out.alloc (by omega) _).drew).grown HG1.out (by simp;omega) (fun j hj=>by have:=(HR.out.lt j hj).1;omega))).setCell (p:=⟨w.heap.size+1,0,none⟩) (by show w.heap.size≤w.heap.size+1;omega) _),
            by have:=HG1.out.size;simp at this ⊢;omega⟩
        | (have:=HWB.out;simp [intOf];omega)
    · obtain rfl:k=n:=by omega
      go_wp2
      go_ret2
      refine ⟨w.heap.size+1,rfl,by omega,by omega,fun N hNB hN hNF=>?_,HB.out⟩
      have hpos:0 < k:=HN1.out
      rcases HR.out.2 with ⟨rfl,h0⟩ | ⟨g,cap,cur,rfl,hb,hh,hr1,hr2,hr3,hr4⟩
      · omega
      · refine ⟨⟨g,cap,.slice none 0 0,(List.range k).map (cutV w.heap.size),[],?_,?_,?_,?_,?_,rfl,?_⟩,by simp [zeroS];omega,by simp [zeroS];exact HN2.out,?_,by simp,by simp,by omega,fun b m c hc hf=>?_⟩
        · simpa [zeroS] using HD.out
        · have:=own_mono HR.out (show N.B≤w.heap.size+2 by omega)
          simpa [zeroS] using this
        · simp [zeroS]
        · intro i x v hx hv
          have hik:i < k:=by simpa using (List.getElem?_eq_some_iff.1 hv).1
          have hx':x=zeros 128:=by
            have:=List.getElem?_eq_some_iff.1 hx
            obtain ⟨h',e⟩:=this
            rw [← e];simp [zeroS]
          have hv':v=cutV w.heap.size i:=by
            obtain ⟨h',e⟩:=List.getElem?_eq_some_iff.1 hv
            rw [← e];simp
          subst hx' hv'
          refine ⟨some ⟨w.heap.size,i * 128,none⟩,128,by simp [cutV,zeros],by simp [zeros],by decide,fun _=>⟨w.heap.size,i * 128,Zs (k * 128),rfl,HA.out,fun h=>by have:=hN _ h;omega,fun j y hj=>?_⟩⟩
          have hj2:j < 128:=by have:=(List.getElem?_eq_some_iff.1 hj).1;simpa [zeros] using this
          have hy:y=0:=List.eq_of_mem_replicate (List.mem_of_getElem? hj)
          have hlt2:i * 128+j < k * 128:=by
            have:(i+1) * 128≤k * 128:=Nat.mul_le_mul_right _ hik
            omega
          rw [hy,Zs_arr,List.getElem?_toArray]
          unfold B8s
          rw [List.getElem?_map,List.getElem?_replicate,if_pos hlt2]
          rfl
        · exact World.ownsRow_nil _ _ _ _
        · intro i x v hx;simp at hx
        · intro x hx
          have:=List.eq_of_mem_replicate hx
          rw [this];simp [zeros]
        · simp only [World.cell?,HD.out] at hc
          cases hc
          have h1:=hNF _ hf
          have h2:=(Array.getElem?_eq_some_iff.1 hh).1
          omega
end Go.Proofs.YtheeomjfpnijbaaGreatDoor
namespace Go.Proofs.YtheeomjfpnijbaaGreatDoor
open Go.RowKit
theorem Upd.trans' {S T:Nat→Prop} {a b c:World} (h:Upd S a b) (k:Upd T b c) (hT:∀ j,j < a.heap.size→T j→S j):Upd S a c :=
  (h.trans k).mono fun j hj hs=>hs.elim id (hT j hj)
theorem own_ne {W:World} {base:Nat} {e t:TypeId} {size n k:Nat} {v:Value} {xs:List Value} {cs:Array Value} (h:W.ownsRow base e size v n xs) (hk:W.heap[k]?=some (.cells cs t (0,0))) (ht:t ≠ e):some k ≠ v.ownBlock:=fun e'=>by
  rcases h.2 with ⟨rfl,_⟩ | ⟨g,cap,cur,rfl,_,hgb,_⟩
  · simp [Value.ownBlock] at e'
  · have:k=g:=by simpa [Value.ownBlock] using e'
    subst this
    rw [hk] at hgb
    cases hgb
    exact ht rfl
theorem own_typed {W:World} {base:Nat} {e:TypeId} {size n k:Nat} {v:Value} {xs:List Value} (h:W.ownsRow base e size v n xs) (hk:some k=v.ownBlock):Typed W k e:=by
  rcases h.2 with ⟨rfl,_⟩ | ⟨g,cap,cur,rfl,_,hgb,_⟩
  · simp [Value.ownBlock] at hk
  · have:k=g:=by simpa [Value.ownBlock] using hk
    subst this
    exact ⟨cur,hgb⟩
theorem grown_at {W w1:World} {v:Value} {base:Nat} {e t:TypeId} {size n k:Nat} {xs:List Value} {cs:Array Value} (hk:W.heap[k]?=some (.cells cs t (0,0))) (ho:W.ownsRow base e size v n xs) (hg:W.grownBy w1 v.ownBlock) (ht:t ≠ e):w1.heap[k]?=some (.cells cs t (0,0)) :=
  (hg.block k (Array.getElem?_eq_some_iff.1 hk).1 (own_ne ho hk ht)).trans hk
theorem alloc_at {W:World} {k:Nat} {o o':Obj} (h:W.heap[k]?=some o'):(W.alloc o).heap[k]?=some o':=(Below.heap_alloc _ _ k (Array.getElem?_eq_some_iff.1 h).1).trans h
theorem own_ge {W:World} {base:Nat} {e:TypeId} {size n k:Nat} {v:Value} {xs:List Value} (h:W.ownsRow base e size v n xs) (hk:some k=v.ownBlock):base≤k:=by
  rcases h.2 with ⟨rfl,_⟩ | ⟨g,cap,cur,rfl,hb,hgb,_⟩
  · simp [Value.ownBlock] at hk
  · have:k=g:=by simpa [Value.ownBlock] using hk
    omega
theorem own_apart {W w:World} {base base':Nat} {e e':TypeId} {size size' n n':Nat} {v v':Value} {xs xs':List Value} (h:W.ownsRow base e size v n xs) (h':w.ownsRow base' e' size' v' n' xs') (hb:w.heap.size≤base:=by exact Nat.le_refl _):v.ownBlock=none ∨ v.ownBlock ≠ v'.ownBlock:=by
  rcases h.2 with ⟨rfl,_⟩ | ⟨g,cap,cur,rfl,hg,hgb,_⟩
  · exact .inl rfl
  · refine .inr fun e=>?_
    have:=(h'.lt g (by rw [← e];rfl)).2
    omega
theorem Upd.setC (w:World) (b i:Nat) (v:Value):Upd (fun k=>k=b) w (w.setCell ⟨b,i,none⟩ v) :=
  ⟨rfl,rfl,rfl,by simp [World.setCell],fun k _ hk=>heap_setCell_other _ _ _ _ hk⟩
theorem Upd.drewBelow {w w2:World} (h:Below w.drew.heap.size w.drew w2) (T:Nat→Prop):Upd T w w2:=⟨h.os,h.tape,h.output,h.size,fun k hk _=>h.block k hk⟩
theorem Upd.allocU {w w2:World} {T:Nat→Prop} (h:Upd T w w2) (o:Obj):Upd T w (w2.alloc o) :=
  h.trans' (Upd.of_below' ((Below.refl _ w2).alloc (Nat.le_refl _) o) T) (fun j _ h=>h)
theorem write_end {w w2 w3:World} {N:Zone} {bd i:Nat} {S:List (List UInt8)} {P:List (Nat × List UInt8)} {xs:List UInt8} {bs cs:Nat} {vs us:List Value} {pq q2:Option Addr} {L pc c2 gg cap:Nat}
    (HL:L=P.length) (HX:xs.length=128) (HI:i < S.length) (HNN:∀ k,N k→k < w.heap.size)
    (HH:w.heap[bd]?=some (.cells #[.slice (some ⟨bs,0,none⟩) S.length cs,.slice pq L pc] 90 (0,0))) (HV:w.ownsRow N.B 76 1 (.slice (some ⟨bs,0,none⟩) S.length cs) S.length vs) (HVL:vs.length=S.length)
    (HVB:∀ (i:Nat) (x:List UInt8) (v:Value),S[i]?=some x→vs[i]?=some v→Byt w N v x)
    (HPR:w.ownsRow N.B 159 2 (.slice pq L pc) L ((P.zip us).flatMap fun x=>[.int .i64 x.1.1,x.2])) (HPL:us.length=P.length) (HPB:∀ (i:Nat) (x:Nat × List UInt8) (v:Value),P[i]?=some x→us[i]?=some v→Byt w N v x.2)
    (HA:0 < S.length∧S.length≤4096∧(∀ x∈S,x.length=128)∧(∀ x∈P,x.2.length=128)∧(∀ x∈P,x.1 < S.length))
    (HO2:w2.ownsRow w.drew.heap.size 5 1 (.slice q2 128 c2) 128 (B8s xs)) (HB2:Below w.drew.heap.size w.drew w2)
    (HG3:(w2.alloc (.cells #[.int .i64 i,.slice q2 128 c2] 159)).grownBy w3 (Value.slice pq L pc).ownBlock)
    (HO3:w3.ownsRow N.B 159 2 (.slice (some ⟨gg,0,none⟩) (L+1) cap) (L+1) (((P.zip us).flatMap fun x=>[.int .i64 x.1.1,x.2])++[.int .i64 i,.slice q2 128 c2]))
    (HLO:N.B≤bd) (HNF:¬ N.far bs) (HD3:w3.heap[bd]?=some (.cells #[.slice (some ⟨bs,0,none⟩) S.length cs,.slice pq L pc] 90 (0,0))) :
    DiskAt (w3.setCell ⟨bd,1,none⟩ (.slice (some ⟨gg,0,none⟩) (L+1) cap)) N bd S (P++[(i,xs)])∧Upd (DS N w) w (w3.setCell ⟨bd,1,none⟩ (.slice (some ⟨gg,0,none⟩) (L+1) cap)):=by
  have hU:Upd (fun k=>(N.B≤k∧Typed w k 159) ∨ k=bd) w (w3.setCell ⟨bd,1,none⟩ (.slice (some ⟨gg,0,none⟩) (L+1) cap)) :=
    ((((Upd.drewBelow HB2 _).allocU _).trans' (Upd.of_grown HG3) (fun j _ hj=>.inl ⟨own_ge HPR hj,own_typed HPR hj⟩)).trans' (Upd.setC w3 bd 1 _) (fun j _ hj=>.inr hj))
  have hbd:Typed w bd 90:=⟨_,HH⟩
  have hn:∀ t,t ≠ 159→t ≠ 90→∀ k,((N.B≤k∧Typed w k 159) ∨ k=bd)→¬ Typed w k t:=fun t h1 h2 k hk ht=>by
    rcases hk with ⟨-,hk⟩ | rfl
    · exact h1 (ht.one hk)
    · exact h2 (ht.one hbd)
  have n8:∀ k,((N.B≤k∧Typed w k 159) ∨ k=bd)→Typed w k 5→N k:=fun k hk ht=>absurd ht (hn _ (by decide) (by decide) k hk)
  have hnew:Byt (w3.setCell ⟨bd,1,none⟩ (.slice (some ⟨gg,0,none⟩) (L+1) cap)) N (.slice q2 128 c2) xs:=by
    refine Byt.own (base:=w.heap.size) (n:=128) ?_ HNN
    have o3:=(HO2.alloc (.cells #[.int .i64 i,.slice q2 128 c2] 159)).kept HG3 (own_apart HO2 HPR)
    exact own_upd o3 (Upd.setC w3 bd 1 _) (fun k hk ht=>by subst hk;obtain ⟨cs',h'⟩:=ht;rw [HD3] at h';cases h')
  refine ⟨⟨⟨bs,cs,.slice (some ⟨gg,0,none⟩) (L+1) cap,vs,us++[.slice q2 128 c2],heap_setCell_same w3 bd 1 _ _ _ HD3,own_upd HV hU (hn _ (by decide) (by decide)),HVL,fun j x v hx hv=>(HVB j x v hx hv).upd hU n8,?_,by simp [HPL],?_⟩,HA.1,HA.2.1,HA.2.2.1,?_,?_,HLO,fun b m c hc=>?_⟩,hU.mono ?_⟩
  · have:=own_upd HO3 (Upd.setC w3 bd 1 (.slice (some ⟨gg,0,none⟩) (L+1) cap)) (fun k hk ht=>by subst hk;obtain ⟨cs',h'⟩:=ht;rw [HD3] at h';cases h')
    rw [List.zip_append HPL.symm,List.flatMap_append,List.length_append,← HL]
    simpa using this
  · intro j x v hx hv
    rcases Nat.lt_or_ge j P.length with hj | hj
    · rw [List.getElem?_append_left hj] at hx
      rw [List.getElem?_append_left (by omega)] at hv
      exact (HPB j x v hx hv).upd hU n8
    · have hj2:j=P.length:=by have:=(List.getElem?_eq_some_iff.1 hx).1;simp at this;omega
      subst hj2
      simp at hx
      subst hx
      rw [← HPL] at hv
      simp at hv
      subst hv
      exact hnew
  · intro x hx
    rcases List.mem_append.1 hx with h | h
    · exact HA.2.2.2.1 x h
    · rw [List.mem_singleton.1 h];exact HX
  · intro x hx
    rcases List.mem_append.1 hx with h | h
    · exact HA.2.2.2.2 x h
    · rw [List.mem_singleton.1 h];exact HI
  · simp only [World.cell?,heap_setCell_same w3 bd 1 _ _ _ HD3] at hc
    cases hc
    exact HNF
  · intro k _ hk
    rcases hk with ⟨hl,hk⟩ | rfl
    · exact ⟨hl,.inr (.inr hk)⟩
    · exact ⟨HLO,.inl hbd⟩
theorem infoSent:(Tryz.prog.info? 159).map (fun i=>(i.zero,i.size,i.bytes))=some (some (.agg #[.int .i64 0,.slice none 0 0]),2,32):=by kernel_rfl
theorem sent_news (W:World) (i:Int) (v:Value) (j:Nat) (u:Value) (h:[.int .i64 i,v][j]?=some u) :
    (W.alloc (.cells #[.int .i64 i,v] 159)).cell? ((⟨W.heap.size,0,none⟩:Addr).add j)=some u:=by
  have hj:j=0 ∨ j=1:=by
    have:=(List.getElem?_eq_some_iff.1 h).1
    simp at this
    omega
  rcases hj with rfl | rfl
  · cases h;exact cellNew rfl
  · cases h;exact cellNew rfl
set_option maxHeartbeats 2000000 in
set_option maxRecDepth 20000 in
theorem diskWrite_any {N:Zone} (bd:Nat) (S:List (List UInt8)) (P:List (Nat × List UInt8)) (i:Nat) (q:Option Addr) (c:Nat) (xs:List UInt8) (w:World) (h:DiskAt w N bd S P) (hN:∀ k,N k→k < w.heap.size) (hi:i < S.length) (hx:xs.length=128) (hr:Rd w q xs) (hP:P.length < 1000000000) :
    Calls Tryz.prog 159 #[.pointer (some ⟨bd,0,none⟩),.int .i64 i,.slice q 128 c] w fun e w'=>e=.returned (.int .i64 0)∧DiskAt w' N bd S (P++[(i,xs)])∧Upd (DS N w) w w':=by
  have H:=Lib.hid h
  have HX:=Lib.hid hx
  have HR:=Lib.hid hr
  have HP:=Lib.hid hP
  obtain ⟨⟨bs,cs,pv,vs,us,hh,hv,hvl,hvb,hp,hpl,hpb⟩,a1,a2,a3,a4,a5⟩:=h
  have HLK:Hid (lookE i S.length=0):=Lib.hid (if_pos (by omega))
  obtain ⟨pq,pc,rfl,hpc⟩:∃ q c,pv=.slice q P.length c∧P.length≤c:=by
    rcases hp.2 with ⟨rfl,h0⟩ | ⟨g,cap,cur,rfl,_,_,h1,_⟩
    · exact ⟨none,0,by rw [h0],by omega⟩
    · exact ⟨_,cap,rfl,h1⟩
  obtain ⟨L,hL⟩:∃ L,L=P.length:=⟨_,rfl⟩
  rw [← hL] at hh hp hpc HP
  have HL:=Lib.hid hL
  have HH:=Lib.hid hh
  have HV:=Lib.hid hv
  have HPR:=Lib.hid hp
  have HVL:=Lib.hid hvl
  have HVB:=Lib.hid hvb
  have HPL:=Lib.hid hpl
  have HPB:=Lib.hid hpb
  have k1:w.cell? ⟨bd,1,none⟩=some (.slice pq L pc):=by simp [World.cell?,hh]
  have f1:w.frozen? ⟨bd,1,none⟩=false:=frozenC hh
  have hlt:=cell_lt k1
  have HNF:Hid (¬ N.far bs):=Lib.hid (H.out.nfar bs _ _ (by simp only [World.cell?,hh];rfl))
  have HLB:Hid (N.B≤w.heap.size):=Lib.hid (by have h1:=H.out.low;have h2:bd < w.heap.size:=hlt;omega)
  have HI:=Lib.hid hi
  have HA:Hid (0 < S.length∧S.length≤4096∧(∀ x∈S,x.length=128)∧(∀ x∈P,x.2.length=128)∧(∀ x∈P,x.1 < S.length)):=Lib.hid ⟨a1,a2,a3,a4,a5⟩
  have HNN:=Lib.hid hN
  have HRD:=Lib.hid (HR.out.drewN 1)
  rw [show w.drewN 1=w.drew from rfl] at HRD
  clear hh hv hvl hvb hp hpl hpb a1 a2 a3 a4 a5 hx hr hi hN hL hP
  obtain ⟨i0,hi,hz0,hz1,hz2⟩:=info_parts infoSent
  go_enter Tryz.func159,Tryz.ntmps159
  go_wp2_with fail
  refine (look_any bd S P i _ H.out).mono ?_
  rintro e w1 ⟨rfl,rfl⟩
  rw [HLK.out]
  go_wp2_with fail
  go_region_law (first
    | (go_simp;go_at_call 75;refine (clone_any q 128 c xs _ HX.out (by omega) ?_).mono ?_;exact HRD.out;rintro e w2 ⟨v2,rfl,hown2,hb2⟩;obtain ⟨q2,c2,rfl,hc2⟩:=own_slice hown2;have HO2:=Lib.hid hown2;have HB2:=Lib.hid hb2;have k12:w2.cell? ⟨bd,1,none⟩=some (.slice pq L pc):=(keepC hb2 (show w1.drew.cell? _=_ from k1));have hlt2:=cell_lt k12;have HD2:=Lib.hid (alloc_at (o:=.cells #[.int .i64 i,.slice q2 128 c2] 159) ((hb2.block bd (cell_lt k1)).trans HH.out));have HOA:=Lib.hid ((own_later HPR.out.drew hb2).alloc (.cells #[.int .i64 i,.slice q2 128 c2] 159));clear hown2 hb2)
    | (refine step_append_lies _ rfl (.tmp 21) (.tmp 26) 88 rfl N.B 159 i0 (.agg #[.int .i64 0,.slice none 0 0]) 2 32 Tryz.underlying88 hi hz0 hz1 hz2 rfl (by decide) (.slice pq L pc) L _ rfl HOA.out ⟨w2.heap.size,0,none⟩ 1 1 [.int .i64 i,.slice q2 128 c2] (by rfl) rfl (sent_news w2 i _) (by simp [Value.oneCell']) (by omega) (by simp only [maxLen];have:=HP.out;omega) (by have:=HP.out;omega) (by have h1:=HLB.out;have h2:w1.heap.size≤w2.heap.size:=HB2.out.size;simp;omega) (w2.heap.size+1) (by simp) ?_;intro gg cap w3 hown3 hgrow3 hat hltg;have HD3:=Lib.hid (grown_at HD2.out HOA.out hgrow3 (by decide));have k13:w3.cell? ⟨bd,1,none⟩=some (.slice pq L pc):=(by simp [World.cell?,HD3.out]);have f13:=frozenC (i:=1) HD3.out;have HG3:=Lib.hid hgrow3;have HO3:=Lib.hid hown3;clear hown3 hgrow3 hat))
  all_goals go_wp2
  all_goals go_ret
  all_goals exact ⟨rfl,write_end HL.out HX.out HI.out HNN.out HH.out HV.out HVL.out HVB.out HPR.out HPL.out HPB.out HA.out HO2.out HB2.out HG3.out HO3.out H.out.low HNF.out HD3.out⟩
end Go.Proofs.YtheeomjfpnijbaaGreatDoor
