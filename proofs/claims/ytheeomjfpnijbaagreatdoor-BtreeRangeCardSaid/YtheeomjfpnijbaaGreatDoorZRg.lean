/- Lemmas: RgI, PairEq, BtRange. -/
import Derived.Test.YtheeomjfpnijbaaGreatDoorZFr
import Derived.Test.YtheeomjfpnijbaaGreatDoorZBg
import Derived.Test.YtheeomjfpnijbaaGreatDoorZTs
import Derived.Test.YtheeomjfpnijbaaGreatDoorZBe
import Derived.BigQuiet
import Derived.Test.YtheeomjfpnijbaaGreatDoorZLa
set_option linter.unusedVariables false
section
namespace Go.Proofs.YtheeomjfpnijbaaGreatDoor
open Go.RowKit Go.Shelf
set_option maxRecDepth 20000
def RgI (Z pb bn bd x:Nat) (p:Par) (b:Nat) (w:World):Prop :=
  ∃ (s:ASt) (n:Nat) (t:Tr n) (X:Nat→Prop) (z:Met) (fl:List Nat),TM p 1 (3000 * 112) w s∧Tree p.pages (pst s).F X z fl t∧s.t≤b∧s.N.B=Z∧w.heap[pb]?=some (pairObj p.bg bn bd x)
section
variable {Z pb bn bd x b:Nat} {p:Par} {w w':World}
theorem RgI.below (h:RgI Z pb bn bd x p b w) (hb:Below w.heap.size w w'):RgI Z pb bn bd x p b w':=by
  obtain ⟨s,n,t,X,z,fl,h1,h2,h3,h4,h5⟩:=h
  exact ⟨s,n,t,X,z,fl,h1.below hb,h2,h3,h4,(hb.block _ (Array.getElem?_eq_some_iff.1 h5).1).trans h5⟩
theorem bstr_of (s:ByteArray):bstr s.data.toList=s:=by
  unfold bstr
  simp
theorem put_round (h:RgI Z pb bn bd x p b w) (hb:b≤200000) (key val:ByteArray) :
    Calls Tryz.prog 10 #[.pointer (some ⟨p.bg,0,none⟩),.int .i64 1,.string key,.string val] w fun e w'=>∃ c:Int,e=.returned (.int .i64 c)∧RgI Z pb bn bd x p (b+1000) w'∧Below Z w w':=by
  obtain ⟨s,n,t,X,z,fl,h1,h2,h3,h4,h5⟩:=h
  have hz:Z≤w.heap.size:=by rw [← h4];exact h1.base
  rw [← bstr_of key,← bstr_of val]
  by_cases hf:¬ (1≤key.data.toList.length∧key.data.toList.length≤12) ∨ 12 < val.data.toList.length
  · refine (put_unfit (tx:=1) key.data.toList val.data.toList w h1 hf).mono ?_
    rintro e w' ⟨rfl,hbw⟩
    exact ⟨70,rfl,⟨s,n,t,X,z,fl,h1.below hbw,h2,by omega,h4,(hbw.block _ (Array.getElem?_eq_some_iff.1 h5).1).trans h5⟩,hbw.mono hz⟩
  · have hk:1≤key.data.toList.length∧key.data.toList.length≤12:=Classical.byContradiction fun hn=>hf (.inl hn)
    have hv:val.data.toList.length≤12:=Nat.le_of_not_lt fun hn=>hf (.inr hn)
    refine (put_law (tx:=1) key.data.toList val.data.toList w h1 h2 (by omega) hk hv).mono ?_
    rintro e w' ⟨c,s',m,T,X',z',fl',rfl,hP,hm,ht,hst⟩
    refine ⟨(c:Int),rfl,⟨s',m,T,X',z',fl',hm,hP.tree,by omega,hst.B.trans h4,h1.keep hst h5 (by decide)⟩,?_⟩
    have:=hst.below h1.base
    rwa [h4] at this
def FlatI (Z pb bn bd x:Nat) (p:Par) (b:Nat) (l:List (Key × Key)) (w:World):Prop :=
  ∃ (s:ASt) (n:Nat) (t:Tr n) (X:Nat→Prop) (z:Met) (fl:List Nat),t.flat=l∧TM p 1 (3000 * 112) w s∧Tree p.pages (pst s).F X z fl t∧s.t≤b∧s.N.B=Z∧w.heap[pb]?=some (pairObj p.bg bn bd x)
theorem RgI.flat (h:RgI Z pb bn bd x p b w) (hp:p.pages≤100):∃ l,FlatI Z pb bn bd x p b l w∧l.length≤11000∧Rise l:=by
  obtain ⟨s,n,t,X,z,fl,h1,h2,h3,h4,h5⟩:=h
  have:=h2.few
  exact ⟨t.flat,⟨s,n,t,X,z,fl,rfl,h1,h2,h3,h4,h5⟩,by omega,h2.rise⟩
theorem FlatI.below {l:List (Key × Key)} (h:FlatI Z pb bn bd x p b l w) (hb:Below w.heap.size w w'):FlatI Z pb bn bd x p b l w':=by
  obtain ⟨s,n,t,X,z,fl,h0,h1,h2,h3,h4,h5⟩:=h
  exact ⟨s,n,t,X,z,fl,h0,h1.below hb,h2,h3,h4,(hb.block _ (Array.getElem?_eq_some_iff.1 h5).1).trans h5⟩
theorem FlatI.pair {l:List (Key × Key)} (h:FlatI Z pb bn bd x p b l w):w.heap[pb]?=some (pairObj p.bg bn bd x):=by
  obtain ⟨s,n,t,X,z,fl,h0,h1,h2,h3,h4,h5⟩:=h
  exact h5
theorem RgI.pair (h:RgI Z pb bn bd x p b w):w.heap[pb]?=some (pairObj p.bg bn bd x):=by
  obtain ⟨s,n,t,X,z,fl,h1,h2,h3,h4,h5⟩:=h
  exact h5
theorem pair_facts (h:w.heap[pb]?=some (pairObj p.bg bn bd x)):w.cell? ⟨pb,0,none⟩=some (.pointer (some ⟨p.bg,0,none⟩))∧w.cell? ⟨pb,2,none⟩=some (.int .i64 1):=by
  unfold pairObj at h
  exact ⟨cell_of_block5 h 0 rfl,cell_of_block5 h 2 rfl⟩
theorem upTo_all {l:List (Key × Key)} {most:Int} (h:(l.length:Int)≤most):upTo most [] (fromK [] l)=l:=by
  unfold upTo
  rw [fromK_nil,List.nil_append,List.take_of_length_le (by simp;omega)]
def RangedQ (Z pb bn bd x:Nat) (p:Par) (b:Nat) (l r:List (Key × Key)) (w:World) (e:Ending) (w':World):Prop :=
  ∃ (q:Option Addr) (c:Nat),e=.returned (.tuple #[.slice q r.length c,.int .i64 0])∧w'.ownsRow w.heap.size 42 2 (.slice q r.length c) r.length (r.flatMap pairV)∧FlatI Z pb bn bd x p (b+1000) l w'∧Below Z w w' ∧
    ∀ (base k z:Nat) (v:Value) (xs:List Value),w.ownsRow base 42 z v k xs→w'.ownsRow base 42 z v k xs
theorem range_round {l:List (Key × Key)} (h:FlatI Z pb bn bd x p b l w) (hb:b≤200000) (hp:p.pages≤100) (from_:ByteArray) (most:Int) :
    Calls Tryz.prog 11 #[.pointer (some ⟨p.bg,0,none⟩),.int .i64 1,.string from_,.int .i64 most] w (RangedQ Z pb bn bd x p b l (upTo most [] (fromK from_.data.toList l)) w):=by
  obtain ⟨s,n,t,X,z,fl,h0,h1,h2,h3,h4,h5⟩:=h
  have hfew:=h2.few
  obtain ⟨k,hk⟩:∃ k,k=from_.data.toList:=⟨_,rfl⟩
  have e:from_=bstr k:=by rw [hk,bstr_of]
  rw [← hk,e]
  refine (range_law (tx:=1) k most w h1 h2 (by omega) (by omega)).mono ?_
  rintro e w' ⟨q,c,s',rfl,ho,hm,hp',ht',hn',hst⟩
  rw [h0] at ho ⊢
  refine ⟨q,c,rfl,ho,⟨s',n,t,X,z,fl,h0,hm,by rw [hp'];exact h2,by omega,hst.B.trans h4,h1.keep hst h5 (by decide)⟩,?_,fun base k z v xs hr=>own_upd hr hst.upd (fun j hj ht=>h1.mr.free (by decide) ht hj)⟩
  have:=hst.below h1.base
  rwa [h4] at this
theorem rgi_of_fresh {pages:Nat} {s:ASt} {q:RPar} {sd:RSt} (h:FreshP Z bd x pages pb p s q sd w) (h1:2≤pages) (h2:pages≤1000):RgI Z pb q.bn bd x p 30 w:=by
  have hpp:=h.pp
  refine ⟨s,0,Tr.one,fun k=>k=1,⟨1,2,0,1⟩,[],h.tm,tree_one (by omega) (by omega) ?_ ?_ (fun k hk=>h.tm.len k hk),h.t,h.zone,h.pair⟩
  · rw [h.F];rfl
  · rw [h.F];rfl
end
end Go.Proofs.YtheeomjfpnijbaaGreatDoor
end
section
namespace Go.Proofs.YtheeomjfpnijbaaGreatDoor
open Go.RowKit Go.Shelf
set_option maxRecDepth 20000
theorem pair_cells {w:World} {p:Option Addr} {l:List (Key × Key)} (h:Cells w p (l.flatMap pairV)) {k:Nat} (hk:k < l.length) :
    ∃ b o,p=some ⟨b,o,none⟩∧w.cell? ⟨b,o+k * 2,none⟩=some (.string (bstr l[k].1))∧w.cell? ⟨b,o+k * 2+1,none⟩=some (.string (bstr l[k].2)):=by
  have hf:∀ (j:Nat) (v:Value),(pairV l[k])[j]?=some v→(l.flatMap pairV)[k * 2+j]?=some v:=fun j v hv=>flat_at pairV 2 (fun _=>rfl) l k j l[k] v (List.getElem?_eq_getElem hk) hv
  obtain ⟨b,o,hp,hc⟩:=h (by
    intro e
    have:=hf 0 _ rfl
    rw [e] at this
    simp at this)
  exact ⟨b,o,hp,hc _ _ (hf 0 _ rfl),hc _ _ (hf 1 _ rfl)⟩
theorem neq_pair (a b:ByteArray) (w:World):(binOp .neq 42 (.agg #[.string a,.string b]) (.agg #[.string a,.string b])).run Tryz.prog w=.ok (.bool false) w:=by
  go_simp
set_option maxHeartbeats 1000000 in
theorem pairseq_any (p q:Option Addr) (n c d:Nat) (l:List (Key × Key)) (w:World) (hl:l.length=n) (hn:n≤1000000) (h1:Cells w p (l.flatMap pairV)) (h2:Cells w q (l.flatMap pairV)) :
    Calls Tryz.prog 12 #[.slice p n c,.slice q n d] w fun e w'=>e=.returned (.bool true)∧Below w.heap.size w w':=by
  have nr:=fun a b=>neq_pair a b
  have HL:=Lib.hid hl
  have H1:=Lib.hid h1
  have H2:=Lib.hid h2
  clear hl h1 h2
  go_enter Tryz.func12,Tryz.ntmps12
  go_wp2_with fail
  go_loopw [13] (fun i wr=>∃ k:Nat,k≤n∧i=.int .i64 k∧Hid (Below w.heap.size w wr)) (fun i _=>n - (intOf i).toNat)
  case atStart=>exact ⟨0,Nat.zero_le _,rfl,Lib.hid (Below.refl _ _)⟩
  case round =>
    obtain ⟨k,hk,rfl,HB⟩:=hrel
    by_cases hlt:k < n
    · have hkl:k < l.length:=by rw [HL.out];exact hlt
      obtain ⟨b1,o1,rfl,a0,a1⟩:=pair_cells H1.out hkl
      obtain ⟨b2,o2,rfl,e0,e1⟩:=pair_cells H2.out hkl
      have a0:=keepC HB.out a0
      have a1:=keepC HB.out a1
      have e0:=keepC HB.out e0
      have e1:=keepC HB.out e1
      generalize bstr l[k].1=s1 at *
      generalize bstr l[k].2=s2 at *
      clear hkl
      go_wp2_with fail
      go_quiet (fail)
      go_wp2_with fail
      go_roundw
      case rel=>exact ⟨k+1,by omega,by go_num,Lib.hid (by first | exact HB.out.drewN _ | exact drewN_below HB.out _)⟩
      case measure=>simp [intOf];omega
    · obtain rfl:k=n:=by omega
      go_wp2_with fail
      go_ret
      exact ⟨rfl,HB.out⟩
end Go.Proofs.YtheeomjfpnijbaaGreatDoor
end
section
namespace Go.Proofs.YtheeomjfpnijbaaGreatDoor
open Go.RowKit Go.Shelf
set_option maxRecDepth 20000
theorem do7_cells {w:World} {p:Option Addr} {l:List Do7} (h:Cells w p (l.flatMap do7Cells)) {k:Nat} (hk:k < l.length) :
    ∃ b o,p=some ⟨b,o,none⟩∧w.cell? ⟨b,o+k * 4,none⟩=some (.int .i64 l[k].op)∧w.cell? ⟨b,o+k * 4+1,none⟩=some (.int .i64 l[k].n)∧w.cell? ⟨b,o+k * 4+2,none⟩=some (.string l[k].key)∧w.cell? ⟨b,o+k * 4+3,none⟩=some (.string l[k].val):=by
  have hf:∀ (j:Nat) (v:Value),(do7Cells l[k])[j]?=some v→(l.flatMap do7Cells)[k * 4+j]?=some v:=fun j v hv=>flat_at do7Cells 4 (fun _=>rfl) l k j l[k] v (List.getElem?_eq_getElem hk) hv
  obtain ⟨b,o,hp,hc⟩:=h (by
    intro e
    have:=hf 0 _ rfl
    rw [e] at this
    simp at this)
  exact ⟨b,o,hp,hc _ _ (hf 0 _ rfl),hc _ _ (hf 1 _ rfl),hc _ _ (hf 2 _ rfl),hc _ _ (hf 3 _ rfl)⟩
theorem upTo_few (a2:Int) (k0:Key) (l:List (Key × Key)) (j:Nat):(upTo a2 [] (fromK k0 (l.take j))).length≤l.length:=by
  unfold upTo fromK
  rw [List.nil_append,List.length_take]
  refine Nat.le_trans (Nat.min_le_right _ _) (Nat.le_trans (List.length_filter_le _ _) ?_)
  rw [List.length_take]
  exact Nat.min_le_right _ _
theorem own_cellsG {w:World} {base n c size:Nat} {e:TypeId} {q:Option Addr} {xs:List Value} (h:w.ownsRow base e size (.slice q n c) n xs):Cells w q xs:=by
  intro hne
  obtain ⟨hl,h | ⟨g,cap,cur,e,hb,hg,h1,h2,h3,h4⟩⟩:=h
  · rw [h.2] at hl
    exact absurd (List.eq_nil_of_length_eq_zero (by rw [hl,Nat.zero_mul])) hne
  · cases e
    refine ⟨g,0,rfl,fun i v hv=>?_⟩
    have hi:i < n * size:=by have:=(List.getElem?_eq_some_iff.1 hv).1;omega
    rw [← h4,List.getElem?_take_of_lt hi] at hv
    simp only [World.cell?,hg]
    simpa using hv
theorem upTo_more {a2:Int} {A:List (Key × Key)} {x:Key × Key} (h:((upTo a2 [] A).length:Int) < a2):upTo a2 [] (A++[x])=upTo a2 [] A++[x]:=by
  unfold upTo at *
  simp only [List.nil_append,List.length_nil,Nat.sub_zero] at *
  rw [List.length_take] at h
  rw [List.take_of_length_le (by rw [List.length_append];simp;omega),List.take_of_length_le (by omega)]
set_option maxHeartbeats 4000000 in
theorem btreeRange_walk (a0:Option Addr) (n0 c0:Nat) (xs0:List Do7) (a1:ByteArray) (a2:Int) (W:World) (hT:Halves W) (hg:0 < W.heap.size) (hx0:xs0.length=n0) (hc0:Cells W a0 (xs0.flatMap do7Cells)) (hm0:n0≤c0) (hr0:c0≤maxLen) :
    Calls Tryz.prog 3 #[.slice a0 n0 c0,.string a1,.int .i64 a2] W fun e w'=>e=.returned (.bool true)∧Below W.heap.size W w':=by
  obtain ⟨k0,rfl⟩:∃ k0,a1=bstr k0:=⟨_,(bstr_of a1).symm⟩
  have HFR:Hid (Calls Tryz.prog 9 #[.int .i64 60] W (FreshQ 60 W)):=Lib.hid (fresh_any 60 W hT hg (by omega))
  have HC:=Lib.hid hc0
  have HN:=Lib.hid (And.intro hx0 (Nat.le_trans hm0 hr0))
  clear hT hg hx0 hc0 hm0 hr0
  go_enter Tryz.func3,Tryz.ntmps3
  go_wp2_with fail
  (with_reducible refine (HFR.out).mono ?_)
  intro e w1 hq
  unfold FreshQ at hq
  obtain ⟨bd,x,pb,p,s,q,sd,rfl,hF,hb1⟩:=hq
  have HB1:=Lib.hid hb1
  have HP:Hid (p.pages=60):=Lib.hid hF.pp
  have HI1:Hid (RgI W.heap.size pb q.bn bd x p 30 w1):=Lib.hid (rgi_of_fresh hF (by omega) (by omega))
  clear hF hb1 HFR
  go_wp2_with fail
  go_loopw [25] (fun i wr=>∃ k:Nat,k≤n0∧i=.int .i64 k∧Hid (RgI W.heap.size pb q.bn bd x p (30+1000 * min k 60) wr)∧Hid (Below W.heap.size W wr)) (fun i _=>n0 - (intOf i).toNat)
  case atStart=>exact ⟨0,Nat.zero_le _,rfl,HI1,HB1⟩
  case round =>
    obtain ⟨k,hk,rfl,HI,HB⟩:=hrel
    by_cases hlt:k < n0
    · have hd:decide ((k:Int) < (n0:Int))=true:=decide_eq_true (by omega)
      have hkx:k < xs0.length:=by rw [HN.out.1];exact hlt
      have hd7:=do7_cells HC.out hkx
      generalize xs0[k]=D at hd7
      clear hkx
      obtain ⟨v0,v1,v2,v3⟩:=D
      obtain ⟨b,o,rfl,d0,d1,d2,d3⟩:=hd7
      have d0:=keepC HB.out d0
      have d1:=keepC HB.out d1
      have d2:=keepC HB.out d2
      have d3:=keepC HB.out d3
      dsimp only at d0 d1 d2 d3
      have HKP:Hid (IntKind.i64.wrap ((k:Int)+1)=((k+1:Nat):Int)):=Lib.hid (by rw [IntKind.wrap_i64];have:=HN.out.2;simp only [maxLen] at this;omega)
      have HKP2:Hid (wrap64 ((k:Int)+1)=((k+1:Nat):Int)):=Lib.hid (by have:=HN.out.2;simp only [maxLen] at this;unfold wrap64;omega)
      by_cases hs:k < 60
      · have hd6:decide ((k:Int) < 60)=true:=decide_eq_true (by omega)
        obtain ⟨WA,hWA⟩:∃ WA,WA=wr.alloc (.cells #[.int .i64 v0,.int .i64 v1,.string v2,.string v3] 27):=⟨_,rfl⟩
        obtain ⟨X,hX⟩:∃ X,X=wr.heap.size:=⟨_,rfl⟩
        have hBA:Below wr.heap.size wr WA.drew:=by rw [hWA];exact ((Below.refl _ wr).alloc (Nat.le_refl _) _).drew
        have hIA:RgI W.heap.size pb q.bn bd x p (30+1000 * min k 60) WA.drew:=HI.out.below hBA
        obtain ⟨f0,f2⟩:=pair_facts hIA.pair
        have xx:WA.drew.heap[X]?=some (.cells #[.int .i64 v0,.int .i64 v1,.string v2,.string v3] 27 (0,0)):=by rw [hWA,hX];exact heap_alloc_new wr _
        have x2:=cell_of_block5 xx 2 rfl
        have x3:=cell_of_block5 xx 3 rfl
        have HPU:Hid (Calls Tryz.prog 10 #[.pointer (some ⟨p.bg,0,none⟩),.int .i64 1,.string v2,.string v3] WA.drew fun e w'=>∃ c:Int,e=.returned (.int .i64 c)∧RgI W.heap.size pb q.bn bd x p (30+1000 * min k 60+1000) w'∧Below W.heap.size WA.drew w'):=Lib.hid (put_round hIA (by omega) v2 v3)
        have HBA:Hid (Below W.heap.size W WA.drew):=Lib.hid (HB.out.trans (hBA.mono HB.out.size))
        have HW:=Lib.hid (And.intro hWA hX)
        clear hBA hIA xx hWA hX
        go_wp2_with fail
        rw [← HW.out.1,← HW.out.2]
        go_region_law (go_simp;go_at_call 10;(with_reducible refine (HPU.out).mono ?_);rintro e w2 ⟨c,rfl,hI2,hB2⟩;have HI2:=Lib.hid hI2;have HB2:=Lib.hid hB2;clear hI2 hB2)
        all_goals go_wp2
        all_goals (first | rw [HKP2.out] | rw [HKP.out] | skip)
        all_goals go_roundw
        all_goals first
          | (simp only [intOf,Int.toNat_natCast];omega)
          | exact ⟨k+1,hlt,by go_num,Lib.hid (by have h:=HI2.out;rw [show 30+1000 * min k 60+1000=30+1000 * min (k+1) 60 by omega] at h;exact h),Lib.hid (HBA.out.trans HB2.out)⟩
          | (simp [intOf];omega)
      · have hd6:decide ((k:Int) < 60)=false:=decide_eq_false (by omega)
        go_wp2
        (first | rw [HKP2.out] | rw [HKP.out] | skip)
        go_roundw
        case rel=>exact ⟨k+1,hlt,by go_num,Lib.hid (by have h:=HI.out;rw [show 30+1000 * min k 60=30+1000 * min (k+1) 60 by omega] at h;exact h.below ((Below.refl _ wr).alloc (Nat.le_refl _) _)),Lib.hid (HB.out.alloc HB.out.size _)⟩
        case measure=>simp [intOf];omega
    · obtain rfl:k=n0:=by omega
      have hd:decide ((k:Int) < (k:Int))=false:=decide_eq_false (by omega)
      obtain ⟨l,hl1,hl2,hl3⟩:=HI.out.flat (by rw [HP.out];omega)
      obtain ⟨b,hb⟩:∃ b,b=30+1000 * min k 60:=⟨_,rfl⟩
      have hbb:b≤70000:=by omega
      rw [← hb] at hl1
      have hFD:FlatI W.heap.size pb q.bn bd x p b l wr.drew:=hl1.below ((Below.refl _ wr).drew)
      obtain ⟨f0,f2⟩:=pair_facts hFD.pair
      have HRG:Hid (Calls Tryz.prog 11 #[.pointer (some ⟨p.bg,0,none⟩),.int .i64 1,.string ⟨#[]⟩,.int .i64 1073741824] wr.drew (RangedQ W.heap.size pb q.bn bd x p b l l wr.drew)):=Lib.hid (by
        have h:=range_round hFD (by omega) (by rw [HP.out];omega) ⟨#[]⟩ 1073741824
        rw [show (⟨#[]⟩:ByteArray).data.toList=([]:List UInt8) from rfl,upTo_all (by omega)] at h
        exact h)
      have HL:=Lib.hid (And.intro hl2 (And.intro hl3 hbb))
      clear hb hFD hl1 hl2 hl3 hbb HI
      go_wp2_with fail
      go_cut [11,12] (fun v u wx=>∃ (qq:Option Addr) (c:Nat),v=.slice qq l.length c∧u=.int .i64 0∧Hid (Cells wx qq (l.flatMap pairV))∧Hid (FlatI W.heap.size pb q.bn bd x p (b+1000) l wx)∧Hid (Below W.heap.size W wx))
      case first =>
        go_region_law (go_simp;go_at_call 11;(with_reducible refine (HRG.out).mono ?_);intro e w2 hq;unfold RangedQ at hq;obtain ⟨qq,c,rfl,ho,hI2,hB2,-⟩:=hq;have HO2:=Lib.hid (own_cellsG ho);have HI2:=Lib.hid hI2;have HB2:=Lib.hid hB2;clear ho hI2 hB2)
        all_goals go_wp2
        all_goals go_meet
        all_goals exact ⟨qq,c,rfl,rfl,HO2,HI2,Lib.hid (HB.out.drew.trans HB2.out)⟩
      case rest =>
        obtain ⟨qq,c,rfl,rfl,HA,HI2,HBC⟩:=hcut
        obtain ⟨WC,hWC⟩:∃ WC,WC=wc:=⟨_,rfl⟩
        subst hWC
        clear f0 f2 HRG
        go_wp2_with fail
        go_loopw [13,62] (fun v i wr=>∃ (k m:Nat) (q3:Option Addr) (d3:Nat),k≤l.length∧v=.slice q3 m d3∧i=.int .i64 k∧Hid (m=(upTo a2 [] (fromK k0 (l.take k))).length)∧Hid (wr.ownsRow WC.heap.size 42 2 (.slice q3 m d3) m ((upTo a2 [] (fromK k0 (l.take k))).flatMap pairV))∧Hid (Below WC.heap.size WC wr)) (fun _ i _=>l.length - (intOf i).toNat)
        case atStart =>
          have e0:upTo a2 [] (fromK k0 (l.take 0))=[]:=by simp [upTo,fromK]
          exact ⟨0,0,none,0,Nat.zero_le _,rfl,rfl,Lib.hid (by rw [e0];rfl),Lib.hid (by rw [e0];exact World.ownsRow_nil _ _ _ _),Lib.hid (Below.refl _ _)⟩
        case round =>
          obtain ⟨j,m,q3,d3,hj,rfl,rfl,HM,HO,HBR⟩:=hrel
          by_cases hlt:j < l.length
          · have hd2:decide ((j:Int) < (l.length:Int))=true:=decide_eq_true (by omega)
            obtain ⟨b5,o5,rfl,e0,e1⟩:=pair_cells HA.out hlt
            have e0:=keepC HBR.out e0
            have e1:=keepC HBR.out e1
            obtain ⟨x5,hx5⟩:∃ x5,x5=l[j]:=⟨_,rfl⟩
            rw [← hx5] at e0 e1
            obtain ⟨sa,hsa⟩:∃ s,s=bstr x5.1:=⟨_,rfl⟩
            obtain ⟨sb,hsb⟩:∃ s,s=bstr x5.2:=⟨_,rfl⟩
            rw [← hsa] at e0
            rw [← hsb] at e1
            have hless:Op.bytesLess sa.toList (bstr k0).toList=decide (x5.1 < k0):=by rw [hsa,less_bstr]
            have htk:l.take (j+1)=l.take j++[x5]:=by rw [List.take_add_one,List.getElem?_eq_getElem hlt,hx5];rfl
            have HKP:Hid (IntKind.i64.wrap ((j:Int)+1)=((j+1:Nat):Int)):=Lib.hid (by rw [IntKind.wrap_i64];have:=HL.out.1;omega)
            have HKP2:Hid (wrap64 ((j:Int)+1)=((j+1:Nat):Int)):=Lib.hid (by have:=HL.out.1;unfold wrap64;omega)
            have HMB:Hid (m≤11000):=Lib.hid (by rw [HM.out];have h1:=HL.out.1;have h2:=upTo_few a2 k0 l j;omega)
            have HB1:Hid (Below WC.heap.size WC (wr.alloc (.cells #[.string sa,.string sb] 42))):=Lib.hid (HBR.out.alloc HBR.out.size _)
            have HR1:Hid ((wr.alloc (.cells #[.string sa,.string sb] 42)).ownsRow WC.heap.size 42 2 (.slice q3 m d3) m ((upTo a2 [] (fromK k0 (l.take j))).flatMap pairV)):=Lib.hid (HO.out.alloc _)
            have HTK:=Lib.hid htk
            have HXS:Hid (pairV x5=[.string sa,.string sb]):=Lib.hid (by rw [hsa,hsb];rfl)
            clear hx5 hsa hsb htk
            by_cases hlk:x5.1 < k0
            · rw [decide_eq_true hlk] at hless
              have HST:Hid (upTo a2 [] (fromK k0 (l.take (j+1)))=upTo a2 [] (fromK k0 (l.take j))):=Lib.hid (by rw [HTK.out,fromK_app,show fromK k0 [x5]=[] from fromK_none (fun x hx=>by rw [List.mem_singleton.1 hx];exact hlk),List.append_nil])
              clear hlk
              go_wp2_with fail
              (first | rw [HKP2.out] | rw [HKP.out] | skip)
              go_roundw
              case rel=>exact ⟨j+1,m,q3,d3,hlt,rfl,by go_num,Lib.hid (by rw [HST.out];exact HM.out),Lib.hid (by rw [HST.out];exact HR1.out),HB1⟩
              case measure=>simp [intOf];omega
            · rw [decide_eq_false hlk] at hless
              have HF1:Hid (fromK k0 (l.take (j+1))=fromK k0 (l.take j)++[x5]):=Lib.hid (by rw [HTK.out,fromK_app,show fromK k0 [x5]=[x5] from fromK_all (fun x hx=>by rw [List.mem_singleton.1 hx];exact hlk)])
              clear hlk
              by_cases hmm:(m:Int) < a2
              · have hm1:decide ((m:Int) < a2)=true:=decide_eq_true hmm
                have HST:Hid (upTo a2 [] (fromK k0 (l.take (j+1)))=upTo a2 [] (fromK k0 (l.take j))++[x5]):=Lib.hid (by rw [HF1.out];exact upTo_more (by rw [← HM.out];exact hmm))
                obtain ⟨i0,hi0,hz0,hz1,hz2⟩:=info_parts infoPair
                have HB2:Hid (Below WC.heap.size WC ((wr.alloc (.cells #[.string sa,.string sb] 42)).alloc (.cells #[.string sa,.string sb] 42))):=Lib.hid (HB1.out.alloc HB1.out.size _)
                have HR2:Hid (((wr.alloc (.cells #[.string sa,.string sb] 42)).alloc (.cells #[.string sa,.string sb] 42)).ownsRow WC.heap.size 42 2 (.slice q3 m d3) m ((upTo a2 [] (fromK k0 (l.take j))).flatMap pairV)):=Lib.hid (HR1.out.alloc _)
                have CA:Hid (Cells ((wr.alloc (.cells #[.string sa,.string sb] 42)).alloc (.cells #[.string sa,.string sb] 42)) (some ⟨wr.heap.size+1,0,none⟩) [.string sa,.string sb]):=Lib.hid (fun _=>⟨_,0,rfl,fun i v hv=>by
                  rw [Nat.zero_add]
                  have hsz:(wr.alloc (.cells #[.string sa,.string sb] 42)).heap.size=wr.heap.size+1:=by show (wr.heap.push _).size=_;rw [Array.size_push]
                  rw [← hsz]
                  exact cellNew (by simpa using hv)⟩)
                have hmxl:m+1≤maxLen:=by have:=HMB.out;simp only [maxLen];omega
                have hmby:(m+1) * 32≤140737488355328:=by have:=HMB.out;omega
                clear hmm
                go_wp2_with (at_builtin;refine wpList_appv rfl (.tmp 76) (.tmp 78) 38 42 rfl i0 _ 2 32 WC.heap.size m 1 1 Tryz.underlying38 hi0 hz0 hz1 hz2 rfl (by decide) (.slice q3 m d3) ((upTo a2 [] (fromK k0 (l.take j))).flatMap pairV) [.string sa,.string sb] (some ⟨wr.heap.size+1,0,none⟩) rfl rfl HR2.out rfl CA.out (fun u hu=>by simp at hu;rcases hu with rfl | rfl <;> rfl) hmxl hmby HB2.out.size ?_)
                intro v5 w5 ho5 hg5
                obtain ⟨q5,d5,rfl,-⟩:=rown_sl ho5
                have HO5:Hid (w5.ownsRow WC.heap.size 42 2 (.slice q5 (m+1) d5) (m+1) ((upTo a2 [] (fromK k0 (l.take (j+1)))).flatMap pairV)):=Lib.hid (by rw [HST.out,List.flatMap_append];simpa [HXS.out] using ho5)
                have HB5:Hid (Below WC.heap.size WC w5):=Lib.hid (HB2.out.grown hg5 HB2.out.size (fun i hi=>(HR2.out.lt i hi).1))
                clear ho5 hg5
                go_wp2_with fail
                (first | rw [HKP2.out] | rw [HKP.out] | skip)
                go_roundw
                case rel=>exact ⟨j+1,m+1,q5,d5,hlt,rfl,by go_num,Lib.hid (by rw [HST.out,List.length_append,← HM.out];rfl),HO5,HB5⟩
                case measure=>simp [intOf];omega
              · have hm1:decide ((m:Int) < a2)=false:=decide_eq_false hmm
                have HST:Hid (upTo a2 [] (fromK k0 (l.take (j+1)))=upTo a2 [] (fromK k0 (l.take j))):=Lib.hid (by rw [HF1.out];exact upTo_stop (by rw [← HM.out];omega) _)
                clear hmm
                go_wp2_with fail
                (first | rw [HKP2.out] | rw [HKP.out] | skip)
                go_roundw
                case rel=>exact ⟨j+1,m,q3,d3,hlt,rfl,by go_num,Lib.hid (by rw [HST.out];exact HM.out),Lib.hid (by rw [HST.out];exact HR1.out),HB1⟩
                case measure=>simp [intOf];omega
          · obtain rfl:j=l.length:=by omega
            have hd2:decide ((l.length:Int) < (l.length:Int))=false:=decide_eq_false (by omega)
            rw [List.take_length] at HM HO
            have hFD:FlatI W.heap.size pb q.bn bd x p (b+1000) l wr.drew:=HI2.out.below (HBR.out.drew)
            obtain ⟨f0,f2⟩:=pair_facts hFD.pair
            obtain ⟨R,hR⟩:∃ R,R=upTo a2 [] (fromK k0 l):=⟨_,rfl⟩
            rw [← hR] at HM HO
            have HRG:Hid (Calls Tryz.prog 11 #[.pointer (some ⟨p.bg,0,none⟩),.int .i64 1,.string (bstr k0),.int .i64 a2] wr.drew (RangedQ W.heap.size pb q.bn bd x p (b+1000) l R wr.drew)):=Lib.hid (by
              have h:=range_round hFD (by have:=HL.out.2.2;omega) (by rw [HP.out];omega) (bstr k0) a2
              rw [show (bstr k0).data.toList=k0 by simp [bstr],← hR] at h
              exact h)
            have HRN:Hid (R.length≤1000000):=Lib.hid (by
              have h1:=HL.out.1
              have h2:=upTo_few a2 k0 l l.length
              rw [List.take_length] at h2
              rw [hR];omega)
            have HOD:Hid (wr.drew.ownsRow WC.heap.size 42 2 (.slice q3 m d3) m (R.flatMap pairV)):=Lib.hid HO.out.drew
            clear hR hFD
            go_wp2_with fail
            go_cut [16,12] (fun v u wx=>∃ (qq:Option Addr) (c:Nat),v=.slice qq R.length c∧u=.int .i64 0∧Hid (Cells wx qq (R.flatMap pairV))∧Hid (Cells wx q3 (R.flatMap pairV))∧Hid (Below W.heap.size W wx))
            case first =>
              go_region_law (go_simp;go_at_call 11;(with_reducible refine (HRG.out).mono ?_);intro e w2 hq;unfold RangedQ at hq;obtain ⟨qq,c9,rfl,ho,-,hB2,hkp⟩:=hq;have HO2:=Lib.hid (own_cellsG ho);have HO3:=Lib.hid (own_cellsG (hkp _ _ _ _ _ HOD.out));have HB2:=Lib.hid hB2;clear ho hB2 hkp)
              all_goals go_wp2
              all_goals go_meet
              all_goals exact ⟨qq,c9,rfl,rfl,HO2,HO3,Lib.hid ((HBC.out.trans (HBR.out.drew.mono HBC.out.size)).trans HB2.out)⟩
            case rest =>
              obtain ⟨q9,c9,rfl,rfl,H9,H3,HB9⟩:=hcut
              have hmr:=HM.out
              subst hmr
              have HEQ:Hid (Calls Tryz.prog 12 #[.slice q9 R.length c9,.slice q3 R.length d3] wc fun e w'=>e=.returned (.bool true)∧Below wc.heap.size wc w'):=Lib.hid (pairseq_any q9 q3 R.length c9 d3 R wc rfl HRN.out H9.out H3.out)
              clear f0 f2 HRG
              go_wp2_with fail
              (with_reducible refine (HEQ.out).mono ?_)
              rintro e w9 ⟨rfl,hb9⟩
              go_wp2_with fail
              go_ret
              exact ⟨rfl,HB9.out.trans (hb9.mono HB9.out.size)⟩
end Go.Proofs.YtheeomjfpnijbaaGreatDoor
end
