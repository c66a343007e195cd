/- Lemmas: Base. -/
import Derived.Test.YtheeomjfpnijbaaGreatDoorProg
import Derived.WalkKit
import Derived.ProofKit
import Derived.Lib.Hide
import Derived.Lib.ConvBytes
import Derived.WalkSpells
import Derived.WalkLawsBesides
import Derived.Laws.CopyOwn
import Derived.Deep.QuietTactic
import Derived.BigQuiet
import Derived.Deep.LoopGhost
import Derived.Deep.DeepCutAuto
set_option linter.unusedVariables false
namespace Go.Proofs.YtheeomjfpnijbaaGreatDoor
open Go.RowKit
def B8 (x:UInt8):Value:=.int .u8 (x.toNat:Int)
def B8s (xs:List UInt8):List Value:=xs.map B8
theorem B8s_length (xs:List UInt8):(B8s xs).length=xs.length:=by simp [B8s]
def Cells (w:World) (p:Option Addr) (vs:List Value):Prop :=
  vs ≠ []→∃ b o,p=some ⟨b,o,none⟩∧∀ i v,vs[i]?=some v→w.cell? ⟨b,o+i,none⟩=some v
def Rd (w:World) (p:Option Addr) (xs:List UInt8):Prop:=Cells w p (B8s xs)
structure Upd (S:Nat→Prop) (w w':World):Prop where
  os:w'.os=w.os
  tape:w'.tape=w.tape
  output:w'.output=w.output
  size:w.heap.size≤w'.heap.size
  block:∀ k,k < w.heap.size→¬ S k→w'.heap[k]?=w.heap[k]?
theorem Upd.refl (S:Nat→Prop) (w:World):Upd S w w:=⟨rfl,rfl,rfl,Nat.le_refl _,fun _ _ _=>rfl⟩
theorem Upd.mono {S T:Nat→Prop} {w w':World} (h:Upd S w w') (hT:∀ k,k < w.heap.size→S k→T k):Upd T w w' :=
  ⟨h.os,h.tape,h.output,h.size,fun k hk hn=>h.block k hk fun hs=>hn (hT k hk hs)⟩
theorem Upd.trans {S T:Nat→Prop} {a b c:World} (h:Upd S a b) (k:Upd T b c):Upd (fun i=>S i ∨ T i) a c :=
  ⟨k.os.trans h.os,k.tape.trans h.tape,k.output.trans h.output,Nat.le_trans h.size k.size,
   fun i hi hn=>(k.block i (Nat.lt_of_lt_of_le hi h.size) fun ht=>hn (.inr ht)).trans (h.block i hi fun hs=>hn (.inl hs))⟩
theorem Upd.below {w w':World} {S:Nat→Prop} {B:Nat} (h:Upd S w w') (hB:B≤w.heap.size) (hS:∀ k,S k→B≤k):Below B w w' :=
  ⟨h.os,h.tape,h.output,h.size,fun k hk=>h.block k (Nat.lt_of_lt_of_le hk hB) fun hs=>by have:=hS k hs;omega⟩
theorem Upd.of_below' {w w':World} (h:Below w.heap.size w w') (S:Nat→Prop):Upd S w w' :=
  ⟨h.os,h.tape,h.output,h.size,fun k hk _=>h.block k hk⟩
theorem Upd.of_grown {w w':World} {r:Option Nat} (h:w.grownBy w' r):Upd (fun k=>some k=r) w w' :=
  ⟨h.os,h.tape,h.output,h.size,fun k hk hn=>h.block k hk hn⟩
theorem cell_lt {w:World} {a:Addr} {v:Value} (h:w.cell? a=some v):a.block < w.heap.size:=World.block_lt_of_cell? w a h
theorem Upd.cell {S:Nat→Prop} {w w':World} (h:Upd S w w') {a:Addr} {v:Value} (hc:w.cell? a=some v) (hn:¬ S a.block):w'.cell? a=some v :=
  (World.cell?_of_block (h.block _ (cell_lt hc) hn)).trans hc
theorem Cells.nil (w:World) (p:Option Addr):Cells w p []:=fun h=>absurd rfl h
theorem Cells.upd {S:Nat→Prop} {w w':World} {p:Option Addr} {vs:List Value} (h:Cells w p vs) (hu:Upd S w w')
    (hn:∀ b o s,p=some ⟨b,o,s⟩→¬ S b):Cells w' p vs:=fun hne=>by
  obtain ⟨b,o,rfl,hc⟩:=h hne
  exact ⟨b,o,rfl,fun i v hv=>hu.cell (hc i v hv) (hn b o none rfl)⟩
theorem Cells.below {w w':World} {p:Option Addr} {vs:List Value} (h:Cells w p vs) (hb:Below w.heap.size w w'):Cells w' p vs:=fun hne=>by
  obtain ⟨b,o,rfl,hc⟩:=h hne
  exact ⟨b,o,rfl,fun i v hv=>(hb.cell (p:=⟨b,o+i,none⟩) (cell_lt (hc i v hv))).trans (hc i v hv)⟩
theorem Rd.below {w w':World} {p:Option Addr} {xs:List UInt8} (h:Rd w p xs) (hb:Below w.heap.size w w'):Rd w' p xs:=Cells.below h hb
theorem Rd.nil (w:World) (p:Option Addr):Rd w p []:=Cells.nil w p
theorem Rd.upd {S:Nat→Prop} {w w':World} {p:Option Addr} {xs:List UInt8} (h:Rd w p xs) (hu:Upd S w w')
    (hn:∀ b o s,p=some ⟨b,o,s⟩→¬ S b):Rd w' p xs:=Cells.upd h hu hn
theorem B8s_get {xs:List UInt8} {i:Nat} (h:i < xs.length):(B8s xs)[i]?=some (B8 xs[i]):=by simp [B8s,h]
theorem Rd.at {w:World} {p:Option Addr} {xs:List UInt8} (h:Rd w p xs) (hn:0 < xs.length) :
    ∃ b o,p=some ⟨b,o,none⟩∧∀ i (hi:i < xs.length),w.cell? ⟨b,o+i,none⟩=some (B8 xs[i]):=by
  obtain ⟨b,o,rfl,hc⟩:=h (by intro e;have:=congrArg List.length e;simp [B8s] at this;simp [this] at hn)
  exact ⟨b,o,rfl,fun i hi=>hc i _ (B8s_get hi)⟩
def nums8 (xs:List UInt8):List Int:=xs.map fun x=>(x.toNat:Int)
theorem nums8_getD {xs:List UInt8} {i:Nat} (h:i < xs.length):(nums8 xs).getD i 0=((xs[i]).toNat:Int):=by
  simp [nums8,List.getD_eq_getElem?_getD,h]
theorem strOfNums8 (xs:List UInt8):strOfNums (nums8 xs)=⟨xs.toArray⟩:=by
  unfold strOfNums nums8
  simp [List.map_map,Function.comp_def]
end Go.Proofs.YtheeomjfpnijbaaGreatDoor
namespace Go.Proofs.YtheeomjfpnijbaaGreatDoor
open Go.RowKit
theorem info8:(Tryz.prog.info? 5).map (fun i=>(i.zero,i.size,i.bytes))=some (some (.int .u8 0),1,1):=by kernel_rfl
theorem Rd.news {w:World} {p:Option Addr} {xs:List UInt8} (h:Rd w p xs) (hn:0 < xs.length) :
    ∃ ad,p=some ad∧∀ j u,(B8s xs)[j]?=some u→w.cell? (ad.add j)=some u:=by
  obtain ⟨b,o,rfl,hc⟩:=h.at hn
  refine ⟨_,rfl,fun j u hj=>?_⟩
  have hj':j < xs.length:=by
    have:=(List.getElem?_eq_some_iff.1 hj).1
    simpa [B8s] using this
  rw [B8s_get hj'] at hj
  cases hj
  rw [Go.WideShapes.add_plain]
  exact hc j hj'
theorem B8s_one {xs:List UInt8}:∀ u∈B8s xs,u.oneCell'=true:=by
  intro u hu
  obtain ⟨x,_,rfl⟩:=List.mem_map.1 hu
  rfl
set_option maxHeartbeats 400000 in
theorem clone_any (p:Option Addr) (n c:Nat) (xs:List UInt8) (w:World) (hx:xs.length=n) (hbig:n≤140737488355328) (hr:Rd w p xs) :
    Calls Tryz.prog 75 #[.slice p n c] w fun e w'=>∃ v',e=.returned v'∧w'.ownsRow w.heap.size 5 1 v' n (B8s xs)∧Below w.heap.size w w':=by
  obtain ⟨i0,hi,hz0,hz1,hz2⟩:=info_parts info8
  have q22:∀ (w:World) (a:Option Addr) (n c n' c':Nat),(binOp .eql 76 (.slice a n c) (.slice none n' c')).run Tryz.prog w=.ok (.bool a.isNone) w:=fun w a n c n' c'=>Lib.run_eql_slice_nil w _ _ a n c n' c' Tryz.underlying76
  cases p with
  | none =>
    obtain rfl:xs=[]:=by
      rcases xs with _ | ⟨x,xs⟩
      · rfl
      · obtain ⟨b,o,h,_⟩:=hr.at (by simp)
        cases h
    subst hx
    go_enter Tryz.func75,Tryz.ntmps75
    go_wp2
    go_ret
    exact ⟨_,rfl,World.ownsRow_nil _ _ _ _,Below.refl _ _⟩
  | some a =>
    have H:=Lib.hid hr
    have HX:=Lib.hid hx
    clear hr hx
    go_enter Tryz.func75,Tryz.ntmps75
    go_wp2_with (at_builtin;refine wpList_append_own _ rfl _ _ 76 rfl w.heap.size 5 i0 (.int .u8 0) 1 1 Tryz.underlying76 hi hz0 hz1 hz2 rfl (by decide) _ _ _ rfl (World.ownsRow_made w #[] 0 (Nat.le_refl _) (Nat.zero_le _) rfl) a n c (B8s xs) rfl ?qc1 ?qc2 ?qc3 ?qc4 ?qc5 ?qc6 ?_)
    case qc1=>rw [B8s_length,HX.out];simp
    case qc2 =>
      intro j u hj
      have hn:0 < xs.length:=by
        have:=(List.getElem?_eq_some_iff.1 hj).1
        rw [B8s_length] at this
        omega
      obtain ⟨ad,hp,hc⟩:=H.out.news hn
      cases hp
      have hcj:=hc j u hj
      exact ((Upd.of_below' ((Below.refl _ w).alloc (Nat.le_refl _) _) (fun _=>False)).cell hcj (fun h=>h))
    case qc3=>exact B8s_one
    case qc4=>unfold maxLen;omega
    case qc5=>omega
    case qc6=>simp
    intro v' w1 hown hgrow _
    go_wp2
    go_ret
    refine ⟨v',rfl,by simpa using hown,?_⟩
    exact ((Below.refl _ w).alloc (Nat.le_refl _) _).grown hgrow (by simp) (by intro k hk;simp [Value.ownBlock] at hk;omega)
theorem Rd.convert {w:World} {p:Option Addr} {xs:List UInt8} (h:Rd w p xs) {n:Nat} (hx:xs.length=n) (c:Nat) (src e dst:TypeId)
    (hs:Tryz.prog.underlying src=some (.slice e)) (he:Tryz.prog.underlying e=some (.int .u8)) (hd:Tryz.prog.underlying dst=some .string) :
    (convert src dst (.slice p n c)).run Tryz.prog w=.ok (.string ⟨xs.toArray⟩) w:=by
  rw [← strOfNums8]
  rcases Nat.eq_zero_or_pos n with hn | hn
  · subst hn
    obtain rfl:xs=[]:=List.eq_nil_of_length_eq_zero hx
    cases p with
    | none=>exact run_convert_bytes_nil w src e hs he 0 c dst hd
    | some a =>
      have hl:(loadCells a 0).run Tryz.prog w=.ok (([]:List Int).map (Value.int .u8)).toArray w:=by
        have:=run_loadCells_list (P:=Tryz.prog) w a [] (fun j v hj=>by simp at hj)
        simpa using this
      rw [run_convert_bytes_string w src dst e _ 0 c hs he hd,run_bytesToString w _ 0 c [] hl,foldl_push_bytes]
      simp [strOfNums,nums8,ByteArray.empty,ByteArray.emptyWithCapacity]
      try rfl
  · obtain ⟨b,o,rfl,hc⟩:=h.at (by omega)
    refine run_convert_bytes_arg (P:=Tryz.prog) w src e hs he b o n c (nums8 xs) (by simp [nums8,hx]) (fun i hi=>?_) dst hd
    rw [hc i (by omega),nums8_getD (by omega)]
    rfl
set_option maxHeartbeats 400000 in
theorem equal_any (p q:Option Addr) (n c m d:Nat) (xs ys:List UInt8) (w:World) (hx:xs.length=n) (hy:ys.length=m) (h1:Rd w p xs) (h2:Rd w q ys) :
    Calls Tryz.prog 33 #[.slice p n c,.slice q m d] w fun e w'=>e=.returned (.bool (xs == ys))∧w=w':=by
  have k1:=h1.convert hx c _ _ _ Tryz.underlying76 Tryz.underlying5 Tryz.underlying9
  have k2:=h2.convert hy d _ _ _ Tryz.underlying76 Tryz.underlying5 Tryz.underlying9
  clear hx hy h1 h2
  go_enter Tryz.func33,Tryz.ntmps33
  go_wp2
  go_ret
  exact ⟨rfl,rfl⟩
end Go.Proofs.YtheeomjfpnijbaaGreatDoor
namespace Go.Proofs.YtheeomjfpnijbaaGreatDoor
open Go.RowKit
theorem sz8:(Tryz.prog.info? 5).map (·.size)=some 1:=by kernel_rfl
theorem own8 {w:World} {base:Nat} {v:Value} {n:Nat} {xs:List UInt8} (h:w.ownsRow base 5 1 v n (B8s xs)) (hn:0 < n) :
    ∃ g cap cur,v=.slice (some ⟨g,0,none⟩) n cap∧base≤g∧w.heap[g]?=some (.cells (B8s xs++cur).toArray 5 (0,0))∧xs.length=n∧n+cur.length=cap∧cap≤maxLen:=by
  obtain ⟨hl,h | ⟨g,cap,cur,rfl,hb,hh,h1,h2,h3,h4⟩⟩:=h
  · omega
  · rw [B8s_length] at hl
    refine ⟨g,cap,cur.toList.drop n,rfl,hb,?_,by omega,?_,h2⟩
    · rw [hh,← h4,Nat.mul_one,List.take_append_drop]
    · rw [List.length_drop,Array.length_toList,h3];omega
theorem own8_mk {w:World} {base g n cap:Nat} {xs:List UInt8} {cur:List Value} (hg:base≤g) (hh:w.heap[g]?=some (.cells (B8s xs++cur).toArray 5 (0,0))) (hx:xs.length=n) (hc:n+cur.length=cap) (hm:cap≤maxLen) :
    w.ownsRow base 5 1 (.slice (some ⟨g,0,none⟩) n cap) n (B8s xs) :=
  ⟨by rw [B8s_length];omega,.inr ⟨g,cap,_,rfl,hg,hh,by omega,hm,by simp [B8s_length];omega,by
    show List.take (n * 1) (B8s xs++cur)=B8s xs
    rw [Nat.mul_one,List.take_append_of_le_length (by rw [B8s_length];omega),List.take_of_length_le (by rw [B8s_length];omega)]⟩⟩
theorem own_rd {w:World} {base:Nat} {v:Value} {n:Nat} {xs:List UInt8} (h:w.ownsRow base 5 1 v n (B8s xs)) :
    ∃ p c,v=.slice p n c∧Rd w p xs∧xs.length=n∧n≤maxLen∧(∀ b o s,p=some ⟨b,o,s⟩→base≤b∧b < w.heap.size):=by
  rcases Nat.eq_zero_or_pos n with hn | hn
  · subst hn
    have hx:xs=[]:=by
      have:=h.1
      rw [B8s_length] at this
      exact List.eq_nil_of_length_eq_zero (by omega)
    subst hx
    rcases h.2 with ⟨rfl,_⟩ | ⟨g,cap,cur,rfl,hb,hh,_⟩
    · exact ⟨none,0,rfl,Rd.nil _ _,rfl,Nat.zero_le _,fun b o s h=>by cases h⟩
    · exact ⟨_,cap,rfl,Rd.nil _ _,rfl,Nat.zero_le _,fun b o s h=>by cases h;exact ⟨hb,(Array.getElem?_eq_some_iff.1 hh).1⟩⟩
  · obtain ⟨g,cap,cur,rfl,hb,hh,hx,hc,hm⟩:=own8 h hn
    refine ⟨_,cap,rfl,fun _=>⟨g,0,rfl,fun i v hv=>?_⟩,hx,by omega,fun b o s h=>by cases h;exact ⟨hb,(Array.getElem?_eq_some_iff.1 hh).1⟩⟩
    have hi:i < (B8s xs).length:=(List.getElem?_eq_some_iff.1 hv).1
    simp only [World.cell?,hh,Nat.zero_add]
    simp [List.getElem?_append_left hi,hv]
theorem Rd.sub {w:World} {b o:Nat} {xs:List UInt8} (h:Rd w (some ⟨b,o,none⟩) xs) (i n:Nat):Rd w (some ⟨b,o+i,none⟩) ((xs.drop i).take n):=fun hne=>by
  have hpos:0 < xs.length:=by
    rcases xs with _ | ⟨x,xs⟩
    · simp [B8s] at hne
    · simp
  obtain ⟨b',o',e,hc⟩:=h.at hpos
  cases e
  refine ⟨b,o+i,rfl,fun j v hv=>?_⟩
  have hj:j < n∧i+j < xs.length:=by
    have:=(List.getElem?_eq_some_iff.1 hv).1
    simp [B8s] at this
    omega
  have hcj:=hc (i+j) hj.2
  rw [show o+i+j=o+(i+j) from by omega,hcj,← hv]
  simp [B8s,hj.1,List.getElem?_drop,List.getElem?_eq_getElem hj.2]
theorem Rd.drewN {w:World} {p:Option Addr} {xs:List UInt8} (h:Rd w p xs) (n:Nat):Rd (w.drewN n) p xs:=fun hne=>by
  obtain ⟨b,o,rfl,hc⟩:=h hne
  exact ⟨b,o,rfl,hc⟩
theorem drewN_below {B:Nat} {w w':World} (h:Below B w w') (n:Nat):Below B w (w'.drewN n):=⟨h.os,h.tape,h.output,h.size,h.block⟩
theorem equal_same (p q:Option Addr) (n c m d:Nat) (xs:List UInt8) (w:World) (hx:xs.length=n) (hy:xs.length=m) (h1:Rd w p xs) (h2:Rd w q xs) :
    Calls Tryz.prog 33 #[.slice p n c,.slice q m d] w fun e w'=>e=.returned (.bool true)∧w'=w :=
  (equal_any p q n c m d xs xs w hx hy h1 h2).mono fun e w' h=>⟨by rw [h.1,beq_self_eq_true],h.2.symm⟩
theorem ret_two {k1 k2:IntKind} {a b a' b':Int} (h1:a=a') (h2:b=b'):Ending.returned (.tuple #[.int k1 a,.int k2 b])=.returned (.tuple #[.int k1 a',.int k2 b']):=by rw [h1,h2]
theorem below_of_drewN {B j:Nat} {w w':World} (h:Below B (w.drewN j) w'):Below B w w':=⟨h.os,h.tape,h.output,h.size,h.block⟩
theorem below_drewN' {B:Nat} (w:World) (j:Nat):Below B w (w.drewN j):=⟨rfl,rfl,rfl,Nat.le_refl _,fun _ _=>rfl⟩
end Go.Proofs.YtheeomjfpnijbaaGreatDoor
