/- Lemmas: Bt1, RangeW, Bt2, Bt3, Bt4, Concat. -/
import Derived.Test.YtheeomjfpnijbaaGreatDoorBaseP
import Derived.Test.YtheeomjfpnijbaaGreatDoorDiskP
import Derived.Test.YtheeomjfpnijbaaGreatDoorZTr
import Derived.Deep.DeepFit
import Derived.Handy
import Derived.OwnWalk
import Derived.Test.YtheeomjfpnijbaaGreatDoorBackP
import Derived.Test.YtheeomjfpnijbaaGreatDoorZPa
import Derived.Test.YtheeomjfpnijbaaGreatDoorZWi
import Derived.Sort.CutIn
import Derived.Lib.BufStepsIn
import Derived.Test.YtheeomjfpnijbaaGreatDoorWriteMP
import Derived.Test.YtheeomjfpnijbaaGreatDoorApartP
import Derived.Lib.AppendZeros
set_option linter.unusedVariables false
section
namespace Go.Proofs.YtheeomjfpnijbaaGreatDoor
open Go.RowKit
theorem own8_new (w:World) (cs:Array Value) (xs:List UInt8) {n:Nat} (hc:cs=(B8s xs).toArray) (hn:xs.length=n) (hm:n≤maxLen) :
    (w.alloc (.cells cs 5)).ownsRow w.heap.size 5 1 (.slice (some ⟨w.heap.size,0,none⟩) n n) n (B8s xs) :=
  own8_mk (cur:=[]) (Nat.le_refl _) (by rw [List.append_nil,hc];exact heap_alloc_new w _) hn (by simp) hm
theorem le2_lo {n:Nat}:((UInt8.ofNat n).toNat:Int)=(n:Int) % 256:=by simp
theorem le2_hi {n:Nat} (h:n < 65536):((UInt8.ofNat (n / 256)).toNat:Int)=(n:Int) / 256:=by
  have h1:(UInt8.ofNat (n / 256)).toNat=n / 256:=by simp;omega
  rw [h1]
  omega
theorem le16_any (n:Nat) (w:World) (hn:n < 65536) :
    Calls Tryz.prog 95 #[.int .i64 n] w fun e w'=>∃ v,e=.returned v∧w'.ownsRow w.heap.size 5 1 v 2 (B8s (le2 n))∧Below w.heap.size w w':=by
  have h1:(n:Int) < 65536:=by omega
  go_enter Tryz.func95,Tryz.ntmps95
  go_wp2
  go_ret
  refine ⟨_,rfl,own8_new w _ (le2 n) ?_ rfl (by decide),(Below.refl _ w).alloc (Nat.le_refl _) _⟩
  simp only [le2,B8s,List.map_cons,List.map_nil,B8,le2_lo,le2_hi hn]
def num2 (x y:UInt8):Nat:=x.toNat+y.toNat * 256
theorem num2_le2 {n:Nat} (h:n < 65536):num2 (UInt8.ofNat n) (UInt8.ofNat (n / 256))=n:=by
  unfold num2
  simp
  omega
theorem num2_lt (x y:UInt8):num2 x y < 65536:=by
  unfold num2
  have:=x.toNat_lt
  have:=y.toNat_lt
  omega
theorem le2_num2 (x y:UInt8):le2 (num2 x y)=[x,y]:=by
  unfold le2 num2
  have h1:UInt8.ofNat (x.toNat+y.toNat * 256)=x:=by
    apply UInt8.toNat.inj
    have:=x.toNat_lt
    simp
  have h2:UInt8.ofNat ((x.toNat+y.toNat * 256) / 256)=y:=by
    apply UInt8.toNat.inj
    have:=x.toNat_lt
    have:=y.toNat_lt
    simp
    omega
  rw [h1,h2]
theorem ofInt_i64n (a:Nat) (ha:a < 18446744073709551616):(BitVec.ofInt 64 (a:Int)).toNat=a:=by
  rw [BitVec.ofInt_natCast,BitVec.toNat_ofNat]
  exact Nat.mod_eq_of_lt (by omega)
theorem or8 (x y:UInt8):bits .or .i64 (wrap64 (x.toNat:Int)) (wrap64 (wrap64 (y.toNat:Int) * 256))=((num2 x y:Nat):Int):=by
  have hx:=x.toNat_lt
  have hy:=y.toNat_lt
  have e1:wrap64 (x.toNat:Int)=((x.toNat:Nat):Int):=by unfold wrap64;omega
  have e2:wrap64 (wrap64 (y.toNat:Int) * 256)=((y.toNat * 256:Nat):Int):=by unfold wrap64;omega
  rw [e1,e2]
  have h1:y.toNat * 256=2 ^ 8 * y.toNat:=by omega
  have h3:x.toNat ||| y.toNat * 256=num2 x y:=by
    rw [h1,Nat.or_comm,← Nat.two_pow_add_eq_or_of_lt (show x.toNat < 2 ^ 8 from hx)]
    unfold num2
    omega
  have h4:=num2_lt x y
  show IntKind.i64.wrap ((BitVec.ofInt 64 ((x.toNat:Nat):Int) ||| BitVec.ofInt 64 ((y.toNat * 256:Nat):Int)).toNat:Int)=_
  rw [BitVec.toNat_or,ofInt_i64n _ (by omega),ofInt_i64n _ (by omega),h3,IntKind.wrap_i64]
  omega
set_option maxHeartbeats 400000 in
theorem get16_any (p:Option Addr) (n c:Nat) (x y:UInt8) (xs:List UInt8) (w:World) (hx:xs.length+2=n) (hr:Rd w p (x :: y :: xs)) :
    Calls Tryz.prog 52 #[.slice p n c] w fun e w'=>e=.returned (.int .i64 (num2 x y:Nat))∧Below w.heap.size w w':=by
  obtain ⟨b,o,rfl,hc⟩:=hr.at (by simp)
  have c0:=hc 0 (by simp)
  have c1:=hc 1 (by simp)
  simp only [List.getElem_cons_zero,List.getElem_cons_succ,B8,Nat.add_zero] at c0 c1
  have h0:(0:Int) < (n:Int):=by omega
  have h1:(1:Int) < (n:Int):=by omega
  clear hc hr
  go_enter Tryz.func52,Tryz.ntmps52
  go_wp2
  go_region
  all_goals go_wp2
  all_goals go_ret
  all_goals exact ⟨congrArg (fun z=>Ending.returned (.int .i64 z)) (or8 x y),(Below.refl _ w).drew⟩
theorem Rd.drop {w:World} {b o:Nat} {xs:List UInt8} (h:Rd w (some ⟨b,o,none⟩) xs) (i:Nat):Rd w (some ⟨b,o+i,none⟩) (xs.drop i):=by
  have:=h.sub i (xs.drop i).length
  rwa [List.take_length] at this
set_option maxHeartbeats 400000 in
theorem cut_any (b o m n c:Nat) (w:World) (h:m≤n) (hc:n≤c) :
    Calls Tryz.prog 193 #[.slice (some ⟨b,o,none⟩) n c,.int .i64 m] w fun e w'=>(∃ q r c' d',e=.returned (.tuple #[.slice q m c',.slice r (n - m) d',.bool true])∧q=some ⟨b,o,none⟩∧(n=m ∨ r=some ⟨b,o+m,none⟩)∧(m≤c'∧c'≤c)∧n - m≤d'∧d'≤c)∧Below w.heap.size w w':=by
  have h1:(m:Int)≤(n:Int):=by omega
  have h2:(n:Int)≤(c:Int):=by omega
  have h3:(m:Int)≤(c:Int):=by omega
  go_enter Tryz.func193,Tryz.ntmps193
  go_wp2
  go_region
  all_goals go_wp2
  all_goals go_returns
  · exact ⟨⟨_,_,_,_,rfl,rfl,.inl (by omega),⟨Nat.le_refl _,by omega⟩,by omega,by omega⟩,(Below.refl _ w).drew⟩
  · exact ⟨⟨_,_,_,_,rfl,rfl,.inr rfl,⟨by omega,by omega⟩,by omega,by omega⟩,(Below.refl _ w).drew⟩
theorem isnt_any (x:UInt8) (w:World):Calls Tryz.prog 92 #[.int .u8 (x.toNat:Int)] w fun e w'=>e=.returned (.bool ((x.toNat:Int) != 0))∧w'=w:=by
  go_enter Tryz.func92,Tryz.ntmps92
  go_wp2
  go_ret
  exact ⟨rfl,rfl⟩
theorem isnt2_any (x:UInt8) (w:World):Calls Tryz.prog 194 #[.int .u8 (x.toNat:Int)] w fun e w'=>e=.returned (.bool ((x.toNat:Int) != 0))∧w'=w:=by
  go_enter Tryz.func194,Tryz.ntmps194
  go_wp2
  go_ret
  exact ⟨rfl,rfl⟩
set_option maxHeartbeats 1000000 in
set_option maxRecDepth 20000 in
theorem indexZ_any (p:Option Addr) (n c:Nat) (w:World) (hr:Rd w p (List.replicate n 0)) (hm:n≤112) :
    Calls Tryz.prog 118 #[.slice p n c,.func (.func 92) #[] #[]] w fun e w'=>e=.returned (.int .i64 (-1))∧Below w.heap.size w w':=by
  have HR:=Lib.hid hr
  clear hr
  go_enter Tryz.func118,Tryz.ntmps118
  go_wp2_with fail
  go_loopw [8] (fun i wr=>∃ k:Nat,k≤n∧i=.int .i64 k∧Hid (Below w.heap.size w wr)) (fun i _=>n - (intOf i).toNat)
  case atStart=>exact ⟨0,Nat.zero_le _,rfl,Lib.hid (Below.refl _ _)⟩
  case round =>
    obtain ⟨k,hk,rfl,HB⟩:=hrel
    by_cases hlt:k < n
    · obtain ⟨b,o,rfl,hc⟩:=HR.out.at (by simp;omega)
      have ck:=keepC HB.out (hc k (by simpa using hlt))
      rw [List.getElem_replicate] at ck
      have ck:wr.cell? ⟨b,o+k,none⟩=some (.int .u8 ((0:UInt8).toNat:Int)):=ck
      clear hc
      go_wp2_with fail
      refine (isnt_any 0 _).mono ?_
      rintro e w1 ⟨rfl,rfl⟩
      go_wp2_with fail
      go_roundw
      case rel=>exact ⟨k+1,hlt,by go_num,HB⟩
      case measure=>simp [intOf];omega
    · obtain rfl:k=n:=by omega
      go_wp2_with fail
      go_ret
      exact ⟨rfl,HB.out⟩
set_option maxHeartbeats 400000 in
theorem containsZ_any (p:Option Addr) (n c:Nat) (w:World) (hr:Rd w p (List.replicate n 0)) (hm:n≤112) :
    Calls Tryz.prog 73 #[.slice p n c,.func (.func 92) #[] #[]] w fun e w'=>e=.returned (.bool false)∧Below w.heap.size w w':=by
  have H:=Lib.hid (indexZ_any p n c w hr hm)
  clear hr
  go_enter Tryz.func73,Tryz.ntmps73
  go_wp2_with fail
  refine H.out.mono ?_
  rintro e w1 ⟨rfl,hb⟩
  have HB:=Lib.hid hb
  clear hb
  go_wp2
  go_ret
  exact ⟨rfl,HB.out⟩
set_option maxHeartbeats 1000000 in
set_option maxRecDepth 20000 in
theorem indexY_any (p:Option Addr) (n c:Nat) (w:World) (hr:Rd w p (List.replicate n 0)) (hm:n≤112) :
    Calls Tryz.prog 118 #[.slice p n c,.func (.func 194) #[] #[]] w fun e w'=>e=.returned (.int .i64 (-1))∧Below w.heap.size w w':=by
  have HR:=Lib.hid hr
  clear hr
  go_enter Tryz.func118,Tryz.ntmps118
  go_wp2_with fail
  go_loopw [8] (fun i wr=>∃ k:Nat,k≤n∧i=.int .i64 k∧Hid (Below w.heap.size w wr)) (fun i _=>n - (intOf i).toNat)
  case atStart=>exact ⟨0,Nat.zero_le _,rfl,Lib.hid (Below.refl _ _)⟩
  case round =>
    obtain ⟨k,hk,rfl,HB⟩:=hrel
    by_cases hlt:k < n
    · obtain ⟨b,o,rfl,hc⟩:=HR.out.at (by simp;omega)
      have ck:=keepC HB.out (hc k (by simpa using hlt))
      rw [List.getElem_replicate] at ck
      have ck:wr.cell? ⟨b,o+k,none⟩=some (.int .u8 ((0:UInt8).toNat:Int)):=ck
      clear hc
      go_wp2_with fail
      refine (isnt2_any 0 _).mono ?_
      rintro e w1 ⟨rfl,rfl⟩
      go_wp2_with fail
      go_roundw
      case rel=>exact ⟨k+1,hlt,by go_num,HB⟩
      case measure=>simp [intOf];omega
    · obtain rfl:k=n:=by omega
      go_wp2_with fail
      go_ret
      exact ⟨rfl,HB.out⟩
set_option maxHeartbeats 400000 in
theorem containsY_any (p:Option Addr) (n c:Nat) (w:World) (hr:Rd w p (List.replicate n 0)) (hm:n≤112) :
    Calls Tryz.prog 73 #[.slice p n c,.func (.func 194) #[] #[]] w fun e w'=>e=.returned (.bool false)∧Below w.heap.size w w':=by
  have H:=Lib.hid (indexY_any p n c w hr hm)
  clear hr
  go_enter Tryz.func73,Tryz.ntmps73
  go_wp2_with fail
  refine H.out.mono ?_
  rintro e w1 ⟨rfl,hb⟩
  have HB:=Lib.hid hb
  clear hb
  go_wp2
  go_ret
  exact ⟨rfl,HB.out⟩
end Go.Proofs.YtheeomjfpnijbaaGreatDoor
end
section
namespace Go.Proofs.YtheeomjfpnijbaaGreatDoor
open Go.RowKit Go.Shelf
theorem putObj_upd {S:Nat→Prop} {l:Nat} {W:World} {o:Obj} (h:S l):Upd S W (W.putObj l o) :=
  ⟨rfl,rfl,rfl,by simp,fun k hk hn=>World.putObj_heap_other (fun e=>hn (e ▸ h))⟩
theorem Upd.tr {S:Nat→Prop} {a b c:World} (h:Upd S a b) (k:Upd S b c):Upd S a c:=(h.trans k).mono fun _ _ hs=>hs.elim id id
def postW (S:Nat→Prop) (B:Nat) (I:Nat→World→Prop) (Ix:Code→World→Prop) (k:Nat) (W:World):Exit→Act→World→Prop
  | .normal,_,W'=>KeepsFrom B W W'∧Upd S W W'∧I (k+1) W'
  | .ret,_,W'=>KeepsFrom B W W'∧Ix .ret W'
  | .exit id,_,W'=>KeepsFrom B W W'∧Ix (.exit id) W'
  | .goto t,_,W'=>KeepsFrom B W W'∧Ix (.goto t) W'
  | .panic _,_,_=>False
  | .outgrown,_,_=>False
def GivesW (F:Fence) (n:Nat) (P:Program) (gf:Nat) (lb:Array Value) (S:Nat→Prop) (m:Nat) (G:Nat→Array Value→World→Prop) (w:World):Prop :=
  ∀ (l:Nat) (J:Nat→World→Prop) (Jx:World→Prop) (W:World),Below w.heap.size w W →
    (∀ k A B,J k A→Below A.heap.size A B→J k B)→(∀ A B,Jx A→Below A.heap.size A B→Jx B) →
    (∀ k args W1,J k W1→k < m→G k args W1→YieldAt F (n - 1) P l args W1 fun e W'=>(e=.returned (.bool true)∧J (k+1) W'∧Upd S W1 W') ∨ (e=.returned (.bool false)∧Jx W')) →
    J 0 W→CallsIn F n P gf (#[.func (.yield l) #[] #[]]++lb) W fun e W'=>(∃ v,e=.returned v)∧(J m W' ∨ Jx W')
theorem range_walk {F:Fence} {n:Nat} {P:Program} {g:Operand} {ps:Array Tmp} {assign body:Code} {Q:Exit→Act→World→Prop} {a:Act} {w:World}
    (hro:F.round=none) (h1:1≤n) {gf:Nat} {lb:Array Value} (hg:a.eval g=.func (.func gf) #[] lb) (hFg:F.fn gf) (eg:∀ args w,(callFunc gf args).run P w=.ok (.enter gf args) w)
    {S:Nat→Prop} {m:Nat} (hN:∀ k,w.heap.size≤k→S k) {G:Nat→Array Value→World→Prop} (hit:GivesW F (n - 1) P gf lb S m G w)
    (hGs:∀ k args W,G k args W→args.size=ps.size) (hGp:∀ k args W l o o',G k args W→w.heap.size≤l→W.heap[l]?=some o→o.isCells=false→G k args (W.putObj l o'))
    (I:Nat→World→Prop) (Ix:Code→World→Prop) (hI:∀ k A B,I k A→Below A.heap.size A B→I k B) (hIx:∀ c A B,Ix c A→Below A.heap.size A B→Ix c B)
    (hIp:∀ k W l o o',I k W→w.heap.size≤l→W.heap[l]?=some o→o.isCells=false→I k (W.putObj l o')) (hIxp:∀ c W l o o',Ix c W→w.heap.size≤l→W.heap[l]?=some o→o.isCells=false→Ix c (W.putObj l o'))
    (h0:I 0 w) (a₁:Array Value→Act)
    (hassign:∀ (l k:Nat) (args:Array Value) (W:World) (K:Act→World→Prop),G k args W→K (a₁ args) W →
      assign.wpIn (F.inRound l) (n - 1 - 1) P (Exit.then K (fun _ _ _=>False)) { tmps:=(ps.zip args).foldl (fun t (p,v)=>t.setIfInBounds p v) a.tmps,defers:=[] } W)
    (hbody:∀ (l k:Nat) (args:Array Value) (W:World),w.heap.size≤l→I k W→k < m→G k args W→body.wpIn (F.inRound l) (n - 1 - 1) P (postW S w.heap.size I Ix k W) (a₁ args) W)
    (hdone:∀ (D:Nat) (W:World),w.heap.size≤D→I m W→W.heap[D]?=some (.deferred (some []))→Q .normal { a with defers:={ target:=.collected D,args:=#[] } :: a.defers } W)
    (hstop:∀ (D:Nat) (c:Code) (W:World),w.heap.size≤D→Ix c W→W.heap[D]?=some (.deferred (some []))→c.wpIn F n P Q { a with defers:={ target:=.collected D,args:=#[] } :: a.defers } W) :
    (Code.rangeFunc g ps assign body).wpIn F n P Q a w:=by
  refine wpIn_rangeFunc fun fn hfn=>?_
  rw [hro]
  -- the two blocks of the loop
  let R:LoopState→Option Code→Loop:=fun st pe=>{ state:=st,pending:=pe,fn:=fn,tmps:=a.tmps,params:=ps,assign:=assign,body:=body,defers:=w.heap.size }
  let W0:=w.alloc (.deferred (some []))
  let W1:=W0.alloc (.loop (R .ready none))
  have hs0:W0.heap.size=w.heap.size+1:=by simp [W0]
  have hL:W1.heap[w.heap.size+1]?=some (.loop (R .ready none)):=by rw [← hs0];exact World.alloc_heap_new W0 _
  have hD:W1.heap[w.heap.size]?=some (.deferred (some [])):=(Below.heap_alloc W0 _ _ (by rw [hs0];omega)).trans (World.alloc_heap_new w _)
  have hb:Below w.heap.size w W1:=((Below.refl _ w).alloc (Nat.le_refl _) _).alloc (by rw [hs0];omega) _
  refine ⟨w.heap.size+1,[{ target:=.collected w.heap.size,args:=#[] }],W1,{ target:=.fn (.func gf) lb,args:=#[.func (.yield (w.heap.size+1)) #[] #[]] },W1,gf,#[.func (.yield (w.heap.size+1)) #[] #[]]++lb,W1,run_enterLoop_outer _ _ _ _ _,?_,?_,?_,fun _=>h1,?_⟩
  · simp only [resolve,hg]
    simp [go_sem]
  · intro f' hf'
    simp [Target.leads] at hf'
    subst hf'
    exact hFg
  · simp [invoke,go_sem,eg]
  · have keep:∀ {A B:World} {k:Nat} {o:Obj},A.heap[k]?=some o→Below A.heap.size A B→B.heap[k]?=some o:=fun hk hb=>(hb.block _ (Array.getElem?_eq_some_iff.1 hk).1).trans hk
    refine (hit (w.heap.size+1) (fun k W=>I k W∧W.heap[w.heap.size+1]?=some (.loop (R .ready none))∧W.heap[w.heap.size]?=some (.deferred (some [])))
      (fun W=>∃ c,Ix c W∧W.heap[w.heap.size+1]?=some (.loop (R .done (some c)))∧W.heap[w.heap.size]?=some (.deferred (some []))) W1 hb
      (fun k A B h hb=>⟨hI k A B h.1 hb,keep h.2.1 hb,keep h.2.2 hb⟩) (fun A B ⟨c,h1,h2,h3⟩ hb=>⟨c,hIx c A B h1 hb,keep h2 hb,keep h3 hb⟩) ?_ ⟨hI 0 w W1 h0 hb,hL,hD⟩).mono ?_
    · rintro k args W ⟨hi,hl,hd⟩ hk hG
      have hlt:w.heap.size+1 < W.heap.size:=(Array.getElem?_eq_some_iff.1 hl).1
      refine ⟨fn,_,assign,body,run_yield hl (hGs k args W hG),roundIn_of_wpIn hfn (hassign _ k args W _ hG ?_)⟩
      refine ⟨_,run_beginRound hl rfl,?_⟩
      -- the round's world
      obtain ⟨V,hV⟩:∃ V,V=W.putObj (w.heap.size+1) (.loop (R .busy none)):=⟨_,rfl⟩
      have hVl:V.heap[w.heap.size+1]?=some (.loop (R .busy none)):=by rw [hV];exact World.putObj_heap_same hlt
      have hVd:V.heap[w.heap.size]?=some (.deferred (some [])):=by rw [hV];exact (World.putObj_heap_other (by omega)).trans hd
      have hVb:Upd S W V:=by rw [hV];exact putObj_upd (hN _ (by omega))
      have hVi:I k V:=by rw [hV];exact hIp k W _ _ _ hi (by omega) hl rfl
      have hVG:G k args V:=by rw [hV];exact hGp k args W _ _ _ hG (by omega) hl rfl
      have goal:=hbody (w.heap.size+1) k args V (by omega) hVi hk hVG
      rw [hV] at goal
      refine wpIn_mono goal ?_
      rw [← hV]
      have fin:∀ (j:Option Code) (X:World),KeepsFrom w.heap.size V X →
          (Instr.endRound (w.heap.size+1) j).run P X=.ok (.bool j.isNone) (X.putObj (w.heap.size+1) (.loop (R (if j.isNone then .ready else .done) j)))∧X.heap[w.heap.size+1]?=some (.loop (R .busy none)) ∧
          (X.putObj (w.heap.size+1) (.loop (R (if j.isNone then .ready else .done) j))).heap[w.heap.size+1]?=some (.loop (R (if j.isNone then .ready else .done) j)) ∧
          (X.putObj (w.heap.size+1) (.loop (R (if j.isNone then .ready else .done) j))).heap[w.heap.size]?=some (.deferred (some [])):=fun j X hX=>by
        have hx:=hX.same _ _ (by omega) hVl rfl
        exact ⟨run_endRound j hx,hx,World.putObj_heap_same (Array.getElem?_eq_some_iff.1 hx).1,(World.putObj_heap_other (by omega)).trans (hX.same _ _ (Nat.le_refl _) hVd rfl)⟩
      have left:∀ (c:Code) (X:World),KeepsFrom w.heap.size V X→Ix c X→∃ v Y,(Instr.endRound (w.heap.size+1) (some c)).run P X=.ok v Y ∧
          (((Ending.returned v=.returned (.bool true)∧(I (k+1) Y∧Y.heap[w.heap.size+1]?=some (.loop (R .ready none))∧Y.heap[w.heap.size]?=some (.deferred (some [])))∧Upd S W Y)) ∨
            (Ending.returned v=.returned (.bool false)∧∃ c,Ix c Y∧Y.heap[w.heap.size+1]?=some (.loop (R .done (some c)))∧Y.heap[w.heap.size]?=some (.deferred (some [])))):=fun c X hX hc=>by
        obtain ⟨e1,e2,e3,e4⟩:=fin (some c) X hX
        exact ⟨_,_,e1,.inr ⟨rfl,c,hIxp c X _ _ _ hc (by omega) e2 rfl,e3,e4⟩⟩
      rintro e a3 X hp
      cases e with
      | normal =>
        obtain ⟨hX,hXb,hXi⟩:=hp
        obtain ⟨e1,e2,e3,e4⟩:=fin none X hX
        exact ⟨_,_,e1,.inl ⟨rfl,⟨hIp (k+1) X _ _ _ hXi (by omega) e2 rfl,e3,e4⟩,(hVb.tr hXb).tr (putObj_upd (hN _ (by omega)))⟩⟩
      | ret=>exact left _ X hp.1 hp.2
      | exit id=>exact left _ X hp.1 hp.2
      | goto t=>exact left _ X hp.1 hp.2
      | panic ch=>exact hp.elim
      | outgrown=>exact hp.elim
    · rintro e W2 ⟨⟨v,rfl⟩,(⟨hi,hl,hd⟩ | ⟨c,hi,hl,hd⟩)⟩
      · exact ⟨none,_,run_endLoop hl (by simp [R]),hdone _ _ (Nat.le_refl _) (hIp m W2 _ _ _ hi (by omega) hl rfl) ((World.putObj_heap_other (by omega)).trans hd)⟩
      · exact ⟨some c,_,run_endLoop hl (by simp [R]),hstop _ c _ (Nat.le_refl _) (hIxp c W2 _ _ _ hi (by omega) hl rfl) ((World.putObj_heap_other (by omega)).trans hd)⟩
end Go.Proofs.YtheeomjfpnijbaaGreatDoor
end
section
namespace Go.Proofs.YtheeomjfpnijbaaGreatDoor
open Go.RowKit Go.Shelf
attribute [local go_sem] Oper.semAt_some
def bstr (xs:List UInt8):ByteArray:=⟨xs.toArray⟩
theorem bstr_size (xs:List UInt8):(bstr xs).size=xs.length:=by simp [bstr,ByteArray.size]
theorem bstr_list (xs:List UInt8):(bstr xs).toList=xs:=by rw [ByteArray.toList_eq];simp [bstr]
theorem strB_bstr (xs:List UInt8):strB (bstr xs)=xs:=by simp [strB,bstr]
def celV (c:Cel):List Value:=[.string (bstr c.key),.string (bstr c.val),.int .i64 c.child]
theorem celV_length (c:Cel):(celV c).length=3:=rfl
def ndV (d:Nd) (q:Option Addr) (cap:Nat):Value:=.agg #[.int .i64 d.page,.bool d.leaf,.int .i64 d.first,.slice q d.cells.length cap]
def CelsAt (w:World) (q:Option Addr) (l:List Cel):Prop:=Cells w q (l.flatMap celV)
theorem CelsAt.cell {w:World} {q:Option Addr} {l:List Cel} (h:CelsAt w q l) {k:Nat} (hk:k < l.length) :
    ∃ b o,q=some ⟨b,o,none⟩∧w.cell? ⟨b,o+k * 3,none⟩=some (.string (bstr l[k].key))∧w.cell? ⟨b,o+k * 3+1,none⟩=some (.string (bstr l[k].val))∧w.cell? ⟨b,o+k * 3+2,none⟩=some (.int .i64 l[k].child):=by
  have hne:l.flatMap celV ≠ []:=by
    intro e
    have:=List.flatMap_eq_nil_iff.1 e l[k] (List.getElem_mem hk)
    simp [celV] at this
  obtain ⟨b,o,rfl,hc⟩:=h hne
  have hg:∀ (j:Nat) (v:Value),(celV l[k])[j]?=some v→w.cell? ⟨b,o+k * 3+j,none⟩=some v:=fun j v hv=>by
    have:=hc (k * 3+j) v (flat_at celV 3 celV_length l k j l[k] v (List.getElem?_eq_getElem hk) hv)
    rwa [← Nat.add_assoc] at this
  exact ⟨b,o,rfl,hg 0 _ rfl,hg 1 _ rfl,hg 2 _ rfl⟩
theorem CelsAt.below {w w':World} {q:Option Addr} {l:List Cel} (h:CelsAt w q l) (hb:Below w.heap.size w w'):CelsAt w' q l:=Cells.below h hb
def CelSz (c:Cel):Prop:=c.key.length≤12∧c.val.length≤12∧c.child < 65536
theorem wpi_appstr {F:Fence} {n':Nat} {ops:Array Oper} {rest:List Oper} {o:Oper} {a:Act} {Q:Exit→Act→World→Prop} {w0 W:World} {base n:Nat} (hgd:o.guard=none) (s x:Operand)
    (ho:o.op=.call { callee:=.builtin .append,args:=#[s,x],argTypes:=#[76,9] })
    (v:Value) (xs:List UInt8) (t:ByteArray) (hs:a.eval s=v) (hx:a.eval x=.string t)
    (HO:W.ownsRow base 5 1 v n (B8s xs)) (HB:Below base w0 W) (hbase:base≤W.heap.size) (hl:n+t.size≤140737488355328)
    (h:∀ v1 w1,w1.ownsRow base 5 1 v1 (n+t.size) (B8s (xs++strB t))→Below base w0 w1→wpListIn F n' Tryz.prog ops Q rest (a.put o.dst v1) w1) :
    wpListIn F n' Tryz.prog ops Q (o :: rest) a W:=by
  obtain ⟨i0,hi,hz0,hz1,hz2⟩:=info_parts info8
  refine wpListIn_plain hgd fun K hK=>?_
  obtain ⟨v1,w1,hr,h2,h3,h4⟩:=Lib.run_append_own_string (P:=Tryz.prog) W base 76 9 o.type 5 i0 Tryz.underlying76 Tryz.underlying9 hi hz0 hz1 hz2 v n (B8s xs) HO t (by simp only [maxLen];omega) hl hbase
  unfold Oper.wpIn
  refine ⟨?_,?_⟩
  · simp [Oper.about,ho,resolve,Target.leads,Sem.run_pure]
  · rw [Oper.semAt_plain F _ _ (by rw [ho];intro c hc';cases hc')]
    simp [execOp,ho,resolve,invoke,builtin,hs,hx,hr,Result.andThen]
    exact hK _ _ (h v1 w1 (by rw [show B8s (xs++strB t)=B8s xs++Lib.strCells t from by rw [strCells_eq];simp [B8s]];exact h2) (HB.grown h3 hbase fun k hk=>(HO.lt k hk).1))
theorem step_appb {ops:Array Oper} {o:Oper} {a:Act} {K:Act→World→Prop} {Q:Exit→Act→World→Prop} {E:Prop} {w0 W:World} {base n m c:Nat} (hgd:o.guard=none) (s x:Operand)
    (ho:o.op=.call { callee:=.builtin .append,args:=#[s,x],argTypes:=#[76,76] })
    (v:Value) (xs ys:List UInt8) (ad:Addr) (hs:a.eval s=v) (hx:a.eval x=.slice (some ad) m c)
    (HO:W.ownsRow base 5 1 v n (B8s xs)) (hy:ys.length=m) (hm:0 < m) (hr:Rd W (some ad) ys) (HB:Below base w0 W) (hbase:base≤W.heap.size) (hl:n+m≤140737488355328)
    (h:∀ v1 w1,w1.ownsRow base 5 1 v1 (n+m) (B8s (xs++ys))→Below base w0 w1→W.grownBy w1 v.ownBlock→K (a.put o.dst v1) w1) :
    if Region.wanted o (yielded ops a.tmps)=true then Oper.wp Tryz.prog o a W K Q else E:=by
  obtain ⟨i0,hi,hz0,hz1,hz2⟩:=info_parts info8
  obtain ⟨ad',e,hnews⟩:=hr.news (by omega)
  cases e
  refine step_append_lies W hgd s x 76 ho base 5 i0 (.int .u8 0) 1 1 Tryz.underlying76 hi hz0 hz1 hz2 rfl (by decide) v n (B8s xs) hs HO ad m c (B8s ys) hx (by rw [B8s_length,hy];omega) hnews B8s_one hm (by unfold maxLen;omega) (by omega) hbase _ rfl ?_
  intro g cap w1 ho1 hg1 _ _
  exact h _ w1 (by rw [show B8s (xs++ys)=B8s xs++B8s ys from by simp [B8s]];exact ho1) (HB.grown hg1 hbase fun k hk=>(HO.lt k hk).1) hg1
theorem step_appstr {ops:Array Oper} {o:Oper} {a:Act} {K:Act→World→Prop} {Q:Exit→Act→World→Prop} {E:Prop} {w0 W:World} {base n:Nat} (hgd:o.guard=none) (s x:Operand)
    (ho:o.op=.call { callee:=.builtin .append,args:=#[s,x],argTypes:=#[76,9] })
    (v:Value) (xs:List UInt8) (t:ByteArray) (hs:a.eval s=v) (hx:a.eval x=.string t)
    (HO:W.ownsRow base 5 1 v n (B8s xs)) (HB:Below base w0 W) (hbase:base≤W.heap.size) (hl:n+t.size≤140737488355328)
    (h:∀ v1 w1,w1.ownsRow base 5 1 v1 (n+t.size) (B8s (xs++strB t))→Below base w0 w1→K (a.put o.dst v1) w1) :
    if Region.wanted o (yielded ops a.tmps)=true then Oper.wp Tryz.prog o a W K Q else E:=by
  have hw:Region.wanted o (yielded ops a.tmps)=true:=by simp [Region.wanted,hgd]
  rw [if_pos hw]
  obtain ⟨i0,hi,hz0,hz1,hz2⟩:=info_parts info8
  obtain ⟨v1,w1,hr,h2,h3,h4⟩:=Lib.run_append_own_string (P:=Tryz.prog) W base 76 9 o.type 5 i0 Tryz.underlying76 Tryz.underlying9 hi hz0 hz1 hz2 v n (B8s xs) HO t (by simp only [maxLen];omega) hl hbase
  unfold Oper.wp
  simp [execOp,ho,resolve,invoke,builtin,hs,hx,hr,Result.andThen]
  exact h v1 w1 (by rw [show B8s (xs++strB t)=B8s xs++Lib.strCells t from by rw [strCells_eq];simp [B8s]];exact h2) (HB.grown h3 hbase fun k hk=>(HO.lt k hk).1)
def PartG (d:Nd) (B:Nat) (k:Nat) (args:Array Value) (W:World):Prop :=
  ∃ (c:Cel) (v:Value),d.cells[k]?=some c∧args=#[.int .i64 k,v]∧W.ownsRow B 5 1 v (celB d.leaf c).length (B8s (celB d.leaf c))
set_option maxRecDepth 100000 in
set_option maxHeartbeats 2000000 in
theorem parts1_in (n:Nat) (hn:1≤n) (Bs L cap N₀:Nat) (q:Option Addr) (d:Nd) (w:World) {S:Nat→Prop} (hN:N₀≤w.heap.size) (hB:¬ S Bs) (hBw:Bs < w.heap.size) (hL:d.cells.length=L) (hLm:L≤1000) (hs:∀ c∈d.cells,CelSz c)
    (h0:w.heap[Bs]?=some (.cells #[.int .i64 d.page,.bool d.leaf,.int .i64 d.first,.slice q L cap] 125 (0,0))) (hq:CelsAt w q d.cells) (hqb:d.cells ≠ []→∀ b o s,q=some ⟨b,o,s⟩→¬ S b∧b < w.heap.size) :
    GivesW Fence.wide n Tryz.prog 140 #[.pointer (some ⟨Bs,0,none⟩)] S L (PartG d N₀) w:=fun l J Jx W hW hJ hJx hY hJ0=>by
  refine callsIn_of_wp Tryz.func140 rfl trivial ?_ rfl
  simp only [Tryz.ntmps140,List.size_toArray,List.length_cons,List.length_nil,Nat.reduceAdd,Nat.reduceSub,Array.replicate_succ,Array.replicate_zero,List.push_toArray,List.append_toArray,List.nil_append,List.cons_append]
  have k3:W.cell? ⟨Bs,3,none⟩=some (.slice q L cap):=(hW.cell (p:=⟨Bs,3,none⟩) (by exact hBw)).trans (by simp [World.cell?,h0])
  have HW:=Lib.hid hW
  have HY:=Lib.hid hY
  have HJ:=Lib.hid hJ
  have HJX:=Lib.hid hJx
  have HJ0:=Lib.hid hJ0
  clear hW hY hJ hJx hJ0
  gi_wp2
  gi_loopw [9] (fun i wr=>∃ k:Nat,k≤L∧i=.int .i64 k∧Hid (J k wr)∧Hid (Upd S W wr)) (fun i _=>L - (intOf i).toNat)
  case atStart=>exact ⟨0,Nat.zero_le _,rfl,HJ0,Lib.hid (Upd.refl _ _)⟩
  case round =>
    obtain ⟨k,hk,rfl,HJK,HB⟩:=hrel
    by_cases hlt:k < L
    · have hkd:k < d.cells.length:=by omega
      obtain ⟨b,o,rfl,e0,e1,e2⟩:=hq.cell hkd
      obtain ⟨c,hc⟩:∃ c,c=d.cells[k]:=⟨_,rfl⟩
      rw [← hc] at e0 e1 e2
      obtain ⟨hbb,hbw⟩:=hqb (by intro e;rw [e] at hkd;simp at hkd) b o none rfl
      have kp:∀ {j:Nat} {v:Value},w.cell? ⟨b,j,none⟩=some v→wr.cell? ⟨b,j,none⟩=some v:=fun {j v} h=>HB.out.cell ((HW.out.cell (p:=⟨b,j,none⟩) (by exact hbw)).trans h) hbb
      have f0:=kp e0
      have f1:=kp e1
      have f2:=kp e2
      have HC:Hid (d.cells[k]?=some c):=Lib.hid (by rw [hc];exact List.getElem?_eq_getElem hkd)
      have HSZ:Hid (CelSz c):=Lib.hid (hs c (by rw [hc];exact List.getElem_mem hkd))
      have k31:wr.cell? ⟨Bs,1,none⟩=some (.bool d.leaf):=HB.out.cell ((HW.out.cell (p:=⟨Bs,1,none⟩) (by exact hBw)).trans (by simp [World.cell?,h0])) hB
      have hltB:=cell_lt k31
      have hltb:=cell_lt f0
      clear e0 e1 e2 kp hc
      have HAL:Hid (Below wr.heap.size wr (wr.alloc (.cells #[.string (bstr c.key),.string (bstr c.val),.int .i64 c.child] 129))):=Lib.hid ((Below.refl _ _).alloc (Nat.le_refl _) _)
      gi_upto_region 3 with fail
      obtain ⟨W1,hW1⟩:∃ W1,W1=wr.alloc (.cells #[.string (bstr c.key),.string (bstr c.val),.int .i64 c.child] 129):=⟨_,rfl⟩
      obtain ⟨g,hg⟩:∃ g,g=wr.heap.size:=⟨_,rfl⟩
      have c0:W1.cell? ⟨g,0,none⟩=some (.string (bstr c.key)):=by rw [hW1,hg];exact cellNew rfl
      have c1:W1.cell? ⟨g,1,none⟩=some (.string (bstr c.val)):=by rw [hW1,hg];exact cellNew rfl
      have c2:W1.cell? ⟨g,2,none⟩=some (.int .i64 c.child):=by rw [hW1,hg];exact cellNew rfl
      have HAL1:Hid (Below wr.heap.size wr W1):=Lib.hid (by rw [hW1];exact HAL.out)
      have k311:=keepC HAL1.out k31
      have hg1:g < W1.heap.size:=cell_lt c0
      have hB1:Bs < W1.heap.size:=cell_lt k311
      rw [← hW1,← hg]
      have HG:=Lib.hid hg
      clear hW1 hg hltb hltB f0 f1 f2 k31 k3 HAL
      have hkl:((bstr c.key).size:Int)=(c.key.length:Int):=by rw [bstr_size]
      have hkb:Hid (c.key.length≤12):=Lib.hid HSZ.out.1
      have hX:Hid ((W1.alloc (.cells #[.int .u8 ((c.key.length:Int) % 256)] 5)).ownsRow W1.heap.size 5 1 (.slice (some ⟨W1.heap.size,0,none⟩) 1 1) 1 (B8s [UInt8.ofNat c.key.length])):=Lib.hid (own8_new W1 _ [UInt8.ofNat c.key.length] (by simp [B8s,B8]) rfl (by decide))
      gi_wp2_with (gi_at_builtin;refine wpi_appstr (w0:=W1) (base:=W1.heap.size) (n:=1) rfl (.tmp 18) (.tmp 20) rfl _ [UInt8.ofNat c.key.length] (bstr c.key) rfl rfl hX.out ((Below.refl _ W1).alloc (Nat.le_refl _) _) (by simp) (by rw [bstr_size];have:=hkb.out;omega) ?_)
      intro v2 w2 ho2 hb2
      have HO2:Hid (w2.ownsRow W1.heap.size 5 1 v2 (1+c.key.length) (B8s (UInt8.ofNat c.key.length :: c.key))):=Lib.hid (by rw [bstr_size,strB_bstr] at ho2;exact ho2)
      have HB2:=Lib.hid hb2
      have r0:=keepC HB2.out c0
      have r1:=keepC HB2.out c1
      have r2:=keepC HB2.out c2
      have r311:=keepC HB2.out k311
      have hg2:=cell_lt r0
      have d1:=c1
      clear ho2 hb2 c0 c1 c2 k311 hX hg1
      obtain ⟨lf,hlf⟩:∃ b,b=d.leaf:=⟨_,rfl⟩
      rw [← hlf] at r311
      have HLF:=Lib.hid hlf
      clear hlf
      gi_upto_if 23 with fail
      gi_cut [5] from 24 (fun v wx=>Hid (wx.ownsRow W1.heap.size 5 1 v (celB lf c).length (B8s (celB lf c))∧Below W1.heap.size W1 wx))
      case first =>
        rw [wpIn_wide]
        have hkb':Hid (c.key.length≤12∧c.val.length≤12):=Lib.hid ⟨HSZ.out.1,HSZ.out.2.1⟩
        cases lf with
        | true =>
          have hvl:((bstr c.val).size:Int)=(c.val.length:Int):=by rw [bstr_size]
          have hX:Hid ((w2.drew.alloc (.cells #[.int .u8 ((c.val.length:Int) % 256)] 5)).ownsRow w2.drew.heap.size 5 1 (.slice (some ⟨w2.drew.heap.size,0,none⟩) 1 1) 1 (B8s [UInt8.ofNat c.val.length])):=Lib.hid (own8_new w2.drew _ [UInt8.ofNat c.val.length] (by simp [B8s,B8]) rfl (by decide))
          have HB3:Hid (Below W1.heap.size W1 (w2.drew.alloc (.cells #[.int .u8 ((c.val.length:Int) % 256)] 5))):=Lib.hid ((HB2.out.drew).alloc HB2.out.size _)
          have HO3:Hid ((w2.drew.alloc (.cells #[.int .u8 ((c.val.length:Int) % 256)] 5)).ownsRow W1.heap.size 5 1 v2 (1+c.key.length) (B8s (UInt8.ofNat c.key.length :: c.key))):=Lib.hid (own_later HO2.out (by exact ((Below.refl w2.heap.size w2).drew).alloc (Nat.le_refl _) _))
          go_wp2_with fail
          go_region_law (first
            | (refine step_appb (w0:=W1) (base:=W1.heap.size) (n:=1+c.key.length) (m:=1) (c:=1) rfl (.tmp 24) (.tmp 29) rfl v2 _ [UInt8.ofNat c.val.length] _ rfl rfl HO3.out rfl (by omega) (own_rdv hX.out) HB3.out HB3.out.size (by have:=hkb'.out;omega) ?_;intro v3 w3 ho3 hb3 _;have HO4:=Lib.hid ho3;have HB4:=Lib.hid hb3;have s1:=keepC (hb3.mono (Nat.le_refl _)) (show W1.cell? _=_ from d1);clear ho3 hb3)
            | (refine step_appstr (w0:=W1) (base:=W1.heap.size) (n:=1+c.key.length+1) rfl (.tmp 30) (.tmp 32) rfl v3 _ (bstr c.val) rfl rfl HO4.out HB4.out HB4.out.size (by rw [bstr_size];have:=hkb'.out;omega) ?_;intro v4 w4 ho4 hb4;have HO5:=Lib.hid ho4;have HB5:=Lib.hid hb4;clear ho4 hb4))
          all_goals go_wp2_with fail
          all_goals go_meet
          all_goals
            refine Lib.hid ⟨?_,HB5.out⟩
            have h5:=HO5.out
            rw [bstr_size,strB_bstr] at h5
            have e1:celB true c=UInt8.ofNat c.key.length :: c.key++[UInt8.ofNat c.val.length]++c.val:=by simp [celB]
            have e2:(celB true c).length=1+c.key.length+1+c.val.length:=by rw [e1];simp;omega
            rw [e2,e1]
            exact h5
        | false =>
          go_wp2_with fail
          refine (le16_any c.child _ HSZ.out.2.2).mono ?_
          rintro e w3 ⟨v3,rfl,ho3,hb3⟩
          obtain ⟨q3,c3,rfl,-⟩:=own_slice ho3
          have HR3:=Lib.hid (own_rdv ho3)
          have HO3:=Lib.hid (own_later HO2.out hb3)
          have HB3:=Lib.hid (chainC HB2.out hb3)
          clear ho3 hb3
          go_wp2_with (at_builtin;refine wp_appx (w0:=W1) (base:=W1.heap.size) (n:=1+c.key.length) (m:=2) rfl (.tmp 34) (.tmp 37) rfl v2 _ (le2 c.child) q3 rfl rfl rfl HR3.out HO3.out HB3.out HB3.out.size (by have:=hkb'.out;omega) ?_)
          intro v4 w4 ho4 hb4
          have HO4:=Lib.hid ho4
          have HB4:=Lib.hid hb4
          clear ho4 hb4
          go_wp2_with fail
          go_meet
          refine Lib.hid ⟨?_,HB4.out⟩
          have h4:=HO4.out
          have e1:celB false c=UInt8.ofNat c.key.length :: c.key++le2 c.child:=by simp [celB]
          have e2:(celB false c).length=1+c.key.length+2:=by rw [e1];simp [le2];omega
          rw [e2,e1]
          exact h4
      case rest =>
        have HBW:Hid (Below wr.heap.size wr wc):=Lib.hid (HAL1.out.trans (hcut.out.2.mono HAL1.out.size))
        have hG:PartG d N₀ k #[.int .i64 k,u5] wc:=⟨c,u5,HC.out,rfl,by rw [← HLF.out];exact own_mono hcut.out.1 (by have h1:=HB.out.size;have h2:=HW.out.size;have h3:=HAL1.out.size;omega)⟩
        obtain ⟨fn,tmps,assign,body,hy,hR⟩:=HY.out k _ wc (HJ.out _ _ _ HJK.out HBW.out) hlt hG
        have HBN:Hid (Upd S W wc):=Lib.hid (HB.out.tr (Upd.of_below' HBW.out _))
        clear hG hcut
        gi_wp2
        refine hR.mono ?_
        rintro e W3 (⟨rfl,hJ3,hk3⟩ | ⟨rfl,hJx3⟩)
        · gi_wp2
          go_roundw
          case rel=>exact ⟨k+1,hlt,by go_num,Lib.hid hJ3,Lib.hid (HBN.out.tr hk3)⟩
          case measure=>simp [intOf];omega
        · gi_wp2
          exact bodyPost_ret (results_none rfl _ _ _) rfl ⟨⟨_,rfl⟩,.inr hJx3⟩
    · obtain rfl:k=L:=by omega
      gi_wp2
      go_end0
      exact ⟨⟨_,rfl⟩,.inl HJK.out⟩
end Go.Proofs.YtheeomjfpnijbaaGreatDoor
end
section
namespace Go.Proofs.YtheeomjfpnijbaaGreatDoor
open Go.RowKit Go.Shelf
attribute [local go_sem] Oper.semAt_some
theorem parts_any (d:Nd) (q:Option Addr) (cap:Nat) (w:World) :
    Calls Tryz.prog 96 #[ndV d q cap] w fun e w'=>e=.returned (.func (.func 140) #[] #[.pointer (some ⟨w.heap.size,0,none⟩)])∧w'=w.alloc (.cells #[.int .i64 d.page,.bool d.leaf,.int .i64 d.first,.slice q d.cells.length cap] 125):=by
  unfold ndV
  go_enter Tryz.func96,Tryz.ntmps96
  go_wp2
  go_ret
  exact ⟨rfl,rfl⟩
def Nd.head (d:Nd):List UInt8:=if d.leaf then [1,UInt8.ofNat d.cells.length] else [2,UInt8.ofNat d.cells.length]++le2 d.first
theorem celB_le {leaf:Bool} {c:Cel} (h:CelSz c):(celB leaf c).length≤26:=by
  obtain ⟨h1,h2,-⟩:=h
  unfold celB
  cases leaf <;> simp [le2] <;> omega
theorem flatB_le {leaf:Bool}:∀ {l:List Cel},(∀ c∈l,CelSz c)→(l.flatMap (celB leaf)).length≤26 * l.length:=by
  intro l
  induction l with
  | nil=>intro _;simp
  | cons c l ih =>
    intro h
    have h1:=celB_le (leaf:=leaf) (h c (by simp))
    have h2:=ih (fun x hx=>h x (by simp [hx]))
    rw [List.flatMap_cons,List.length_append,List.length_cons]
    omega
theorem head_le (d:Nd):d.head.length≤4:=by unfold Nd.head;split <;> simp [le2]
set_option maxRecDepth 100000 in
set_option maxHeartbeats 2000000 in
theorem load_any (d:Nd) (q:Option Addr) (cap:Nat) (w:World) (hLm:d.cells.length≤200) (hs:∀ c∈d.cells,CelSz c) (hf:d.first < 65536) (hq:CelsAt w q d.cells) :
    Calls Tryz.prog 46 #[ndV d q cap] w fun e w'=>∃ v,e=.returned v∧w'.ownsRow w.heap.size 5 1 v d.load.length (B8s d.load)∧Below w.heap.size w w':=by
  have HLM:=Lib.hid hLm
  have HS:=Lib.hid hs
  have HF:=Lib.hid hf
  have HQ:=Lib.hid hq
  obtain ⟨L,hL⟩:∃ L,L=d.cells.length:=⟨_,rfl⟩
  obtain ⟨lf,hlf⟩:∃ lf,lf=d.leaf:=⟨_,rfl⟩
  have hndv:ndV d q cap=.agg #[.int .i64 d.page,.bool lf,.int .i64 d.first,.slice q L cap]:=by rw [hL,hlf];rfl
  rw [hndv]
  have HL:=Lib.hid hL
  have HLF:=Lib.hid hlf
  clear hLm hs hf hq hndv hL hlf
  refine (callsIn_wide (n:=9)).1 ?_
  have h1:1≤9:=by omega
  refine callsIn_of_wp_marks Tryz.func46 rfl trivial ?_ rfl
  simp only [Tryz.ntmps46,List.size_toArray,List.length_cons,List.length_nil,Nat.reduceAdd,Nat.reduceSub,Array.replicate_succ,Array.replicate_zero,List.push_toArray,List.append_toArray,List.nil_append,List.cons_append]
  gi_upto_if 12 with fail
  obtain ⟨N,hN⟩:∃ N,N=w.heap.size:=⟨_,rfl⟩
  obtain ⟨W2,hW2⟩:∃ W2,W2=(((w.alloc (.cells #[.int .i64 d.page,.bool lf,.int .i64 d.first,.slice q L cap] 125)).alloc (.cells #[.int .u8 2,.int .u8 ((L:Int) % 256)] 5)).alloc (.cells #[.slice (some ⟨w.heap.size+1,0,none⟩) 2 2] 76)):=⟨_,rfl⟩
  have n0:W2.heap[N]?=some (.cells #[.int .i64 d.page,.bool lf,.int .i64 d.first,.slice q L cap] 125 (0,0)):=by rw [hW2,hN];exact alloc_at (alloc_at (heap_alloc_new w _))
  have n1:W2.heap[N+1]?=some (.cells #[.int .u8 2,.int .u8 ((L:Int) % 256)] 5 (0,0)):=by
    rw [hW2,hN]
    refine alloc_at ?_
    have:=heap_alloc_new (w.alloc (.cells #[.int .i64 d.page,.bool lf,.int .i64 d.first,.slice q L cap] 125)) (.cells #[.int .u8 2,.int .u8 ((L:Int) % 256)] 5)
    rwa [World.size_alloc] at this
  have n2:Boxed W2 (N+1+1) 76 (.slice (some ⟨N+1,0,none⟩) 2 2):=by
    rw [hW2,hN]
    have:=heap_alloc_new ((w.alloc (.cells #[.int .i64 d.page,.bool lf,.int .i64 d.first,.slice q L cap] 125)).alloc (.cells #[.int .u8 2,.int .u8 ((L:Int) % 256)] 5)) (.cells #[.slice (some ⟨w.heap.size+1,0,none⟩) 2 2] 76)
    rwa [World.size_alloc,World.size_alloc] at this
  have HB2:Hid (Below N w W2):=Lib.hid (by rw [hW2,hN];exact (((Below.refl _ w).alloc (Nat.le_refl _) _).alloc (by simp) _).alloc (by simp;omega) _)
  have HS2:Hid (W2.heap.size=N+3):=Lib.hid (by rw [hW2,hN];simp)
  rw [← hW2,← hN]
  have HNW:=Lib.hid hN
  have N0:=Lib.hid n0
  have N1:=Lib.hid n1
  have N2:=Lib.hid n2
  clear hN hW2
  gi_cut [] from 13 (fun wx=>Hid (∃ v,Boxed wx (N+1+1) 76 v∧wx.ownsRow (N+1) 5 1 v d.head.length (B8s d.head)∧Below (N+1) W2 wx))
  case first =>
    rw [wpIn_wide]
    have k3:=n2.cell
    have f3:=n2.frozen
    have k2:W2.cell? ⟨N,2,none⟩=some (.int .i64 d.first):=by simp [World.cell?,n0]
    have hNlt:=cell_lt k2
    have hN2lt:N+1+1 < W2.heap.size:=cell_lt k3
    cases lf with
    | true =>
      have c0:W2.cell? ⟨N+1,0,none⟩=some (.int .u8 2):=by simp [World.cell?,n1]
      have f0:W2.frozen? ⟨N+1,0,none⟩=false:=frozenC n1
      have hN1lt:=cell_lt c0
      clear n0 n1 n2
      go_wp2_with fail
      go_meet
      have h1:=heap_setCell_same W2 (N+1) 0 _ _ (.int .u8 1) N1.out
      refine Lib.hid ⟨_,N2.out.other (by omega) _,?_,(Below.refl _ W2).setCell (p:=⟨N+1,0,none⟩) (by show N+1≤N+1;omega) _⟩
      have e:d.head=[1,UInt8.ofNat L]:=by unfold Nd.head;rw [← HLF.out,if_pos rfl,← HL.out]
      rw [e]
      refine own8_mk (cur:=[]) (Nat.le_refl _) ?_ rfl rfl (by decide)
      rw [h1]
      simp [B8s,B8]
    | false =>
      have e:d.head=[2,UInt8.ofNat L]++le2 d.first:=by unfold Nd.head;rw [← HLF.out,if_neg (by decide),← HL.out]
      have HE:=Lib.hid e
      have HO2:Hid (W2.ownsRow (N+1) 5 1 (.slice (some ⟨N+1,0,none⟩) 2 2) 2 (B8s [2,UInt8.ofNat L])):=Lib.hid (own8_mk (cur:=[]) (Nat.le_refl _) (by rw [n1];simp [B8s,B8]) rfl rfl (by decide))
      clear n0 n1 n2 e
      go_wp2_with fail
      refine wp_region_noPanic ?_
      go_region_law (first
        | (go_simp;go_at_call 95;refine (le16_any d.first _ HF.out).mono ?_;rintro e w3 ⟨v3,rfl,ho3,hb3⟩;obtain ⟨q3,c3,rfl,-⟩:=own_slice ho3;have HR3:=Lib.hid (own_rdv ho3);have HB3:Hid (Below W2.heap.size W2 w3):=Lib.hid (below_of_drewN (j:=1) (by exact hb3));have k33:=keepC HB3.out k3;have HBX:=Lib.hid (boxedB N2.out HB3.out);have f33:=HBX.out.frozen;have HO3:=Lib.hid (own_later HO2.out HB3.out);obtain ⟨g3,hq3⟩:∃ g,q3=some ⟨g,0,none⟩:=(by obtain ⟨g,e,-⟩:=own_at1 ho3 (by omega);exact ⟨g,e⟩);subst hq3;clear ho3 hb3)
        | (refine step_appb (w0:=W2) (base:=N+1) (n:=2) (m:=2) rfl (.tmp 15) (.tmp 18) rfl _ _ (le2 d.first) _ rfl rfl HO3.out rfl (by omega) HR3.out (HB3.out.mono (by have:=HS2.out;omega)) (by have h1:=HB3.out.size;have h2:=HS2.out;omega) (by omega) ?_;intro v4 w4 ho4 hb4 hg4;obtain ⟨q4,c4,rfl,-⟩:=own_slice ho4;have HO4:=Lib.hid ho4;have HB4:=Lib.hid hb4;have HBY:Hid (Boxed w4 (N+1+1) 76 (.slice (some ⟨N+1,0,none⟩) 2 2)):=Lib.hid (grown_at HBX.out HO3.out hg4 (by decide));have k34:=HBY.out.cell;have f34:=HBY.out.frozen;clear ho4 hb4 hg4))
      all_goals refine NoPanic.normal ?_
      all_goals go_wp2_with fail
      all_goals go_meet
      all_goals
        refine Lib.hid ⟨_,HBY.out.set _,?_,HB4.out.setCell (p:=⟨N+1+1,0,none⟩) (by show N+1≤N+1+1;omega) _⟩
        rw [HE.out]
        exact own_upd HO4.out (Upd.setC w4 (N+1+1) 0 _) (fun k hk ht=>by subst hk;exact absurd (ht.one ⟨_,HBY.out⟩) (by decide))
  case rest =>
    obtain ⟨v,hbx,ho,hb⟩:=hcut.out
    have m0:wc.heap[N]?=some (.cells #[.int .i64 d.page,.bool lf,.int .i64 d.first,.slice q L cap] 125 (0,0)):=(hb.block N (by omega)).trans N0.out
    have kq:∀ (j:Nat) (u:Value),(#[Value.int .i64 d.page,.bool lf,.int .i64 d.first,.slice q L cap])[j]?=some u→wc.cell? ⟨N,j,none⟩=some u:=fun j u hu=>by simp only [World.cell?,m0];simpa using hu
    have q0:=kq 0 _ rfl
    have q1:=kq 1 _ rfl
    have q2:=kq 2 _ rfl
    have q3:=kq 3 _ rfl
    have hNc:=cell_lt q0
    have HBX:=Lib.hid hbx
    have HO:=Lib.hid ho
    have HBC:=Lib.hid hb
    have HM0:=Lib.hid m0
    clear kq hbx ho hb m0 n0 n1 n2 hcut
    gi_wp2_with fail
    rw [show (Value.agg #[.int .i64 d.page,.bool lf,.int .i64 d.first,.slice q L cap])=ndV d q cap from by rw [HL.out,HLF.out];rfl]
    refine ⟨trivial,(callsIn_wide.2 (parts_any d q cap wc)).mono ?_⟩
    rintro e w5 ⟨rfl,rfl⟩
    rw [← HL.out,← HLF.out]
    rw [show ndV d q cap=(Value.agg #[.int .i64 d.page,.bool lf,.int .i64 d.first,.slice q L cap]) from by rw [HL.out,HLF.out];rfl]
    obtain ⟨X,hX⟩:∃ X,X=wc.heap.size:=⟨_,rfl⟩
    obtain ⟨W5,hW5⟩:∃ W5,W5=wc.alloc (.cells #[.int .i64 d.page,.bool lf,.int .i64 d.first,.slice q L cap] 125):=⟨_,rfl⟩
    have h5:W5.heap[X]?=some (.cells #[.int .i64 d.page,.bool lf,.int .i64 d.first,.slice q L cap] 125 (0,0)):=by rw [hW5,hX];exact heap_alloc_new wc _
    have HB5:Hid (Below wc.heap.size wc W5):=Lib.hid (by rw [hW5];exact (Below.refl _ wc).alloc (Nat.le_refl _) _)
    have HS5:Hid (W5.heap.size=X+1∧N+3≤X):=Lib.hid (by rw [hW5,hX];have:=HBC.out.size;have:=HS2.out;simp;omega)
    rw [← hW5,← hX]
    have H5:=Lib.hid h5
    have HX:=Lib.hid hX
    clear hX hW5 h5
    gi_wp2_with fail
    refine range_walk (F:=Fence.wide) rfl h1 (gf:=140) (lb:=#[.pointer (some ⟨X,0,none⟩)]) rfl trivial (enters_of Tryz.func140 (by kernel_rfl) rfl)
      (S:=fun k=>N+1≤k∧k ≠ X) (m:=L) (G:=PartG d (N+1)) (by have:=HS5.out;intro k hk;omega)
      (parts1_in 8 (by omega) X L cap (N+1) q d W5 (by have:=HS5.out;omega) (fun h=>h.2 rfl) (by have:=HS5.out;omega) HL.out.symm (by have:=HLM.out;have:=HL.out;omega) HS.out (by rw [H5.out,HLF.out]) ?q1 ?q2)
      ?gs ?gp (fun k W=>∃ v,Boxed W (N+1+1) 76 v∧W.ownsRow (N+1) 5 1 v (d.head++(d.cells.take k).flatMap (celB d.leaf)).length (B8s (d.head++(d.cells.take k).flatMap (celB d.leaf)))∧Below (N+1) W2 W∧W.heap[X]?=some (.cells #[.int .i64 d.page,.bool lf,.int .i64 d.first,.slice q L cap] 125 (0,0))) (fun _ _=>False)
      ?hI (fun _ _ _ h _=>h) ?hIp (fun _ _ _ _ _ h _ _ _=>h) ?h0
      (fun args=>{ tmps:=#[.agg #[.int .i64 d.page,.bool lf,.int .i64 d.first,.slice q L cap],.pointer (some ⟨N,0,none⟩),.slice none 0 0,.pointer (some ⟨N+1+1,0,none⟩),undef,args.getD 1 undef,.pointer (some ⟨N,3,none⟩),.slice q L cap,.int .i64 L,.int .u8 ((L:Int) % 256),.slice (some ⟨N+1,0,none⟩) 2 2,.pointer (some ⟨N,1,none⟩),.bool lf,u13,u14,u15,u16,u17,u18,u19,.agg #[.int .i64 d.page,.bool lf,.int .i64 d.first,.slice q L cap],.func (.func 140) #[] #[.pointer (some ⟨X,0,none⟩)],args.getD 0 undef,args.getD 1 undef,u24,u25,u26,u27],defers:=[] })
      ?hassign ?hbody ?hdone (fun _ _ _ _ h _=>h.elim)
    case q1=>exact HQ.out.below (by rw [← HNW.out];exact (HB2.out.trans (HBC.out.mono (by omega))).trans (HB5.out.mono (by have:=HS5.out;have:=HX.out;omega)))
    case q2 =>
      intro hne b o z e
      obtain ⟨b',o',e',c0,-⟩:=HQ.out.cell (k:=0) (List.length_pos_iff.2 hne)
      rw [e] at e'
      cases e'
      have h1:=cell_lt c0
      have h2:=HNW.out
      have h3:=HS5.out
      have h4:b < w.heap.size:=h1
      exact ⟨fun h=>by omega,by omega⟩
    case gs=>rintro k args W ⟨c,v,hc,rfl,ho⟩;rfl
    case gp =>
      rintro k args W l o o' ⟨c,v,hc,e,ho⟩ hl hh hcl
      exact ⟨c,v,hc,e,ownsRow_putObj ho _ hh hcl⟩
    case hI =>
      rintro k A B ⟨v,hx,ho,hb,hXn⟩ hab
      exact ⟨v,boxedB hx hab,own_later ho hab,hb.trans (hab.mono (by have:=hb.size;have:=HS2.out;omega)),(hab.block X (Array.getElem?_eq_some_iff.1 hXn).1).trans hXn⟩
    case hIp =>
      rintro k W l o o' ⟨v,hx,ho,hb,hXn⟩ hl hh hcl
      refine ⟨v,?_,ownsRow_putObj ho _ hh hcl,?_,(World.putObj_heap_other (by have:=HS5.out;omega)).trans hXn⟩
      · refine (World.putObj_heap_other ?_).trans hx
        intro e
        rw [← e,show W.heap[N+1+1]?=_ from hx] at hh
        cases hh
        cases hcl
      · exact ⟨hb.os,hb.tape,hb.output,by simpa using hb.size,fun k hk=>(World.putObj_heap_other (by have:=HS5.out;omega)).trans (hb.block k hk)⟩
    case h0 =>
      refine ⟨v,boxedB HBX.out HB5.out,?_,HBC.out.trans (HB5.out.mono (by have:=HS5.out;have:=HX.out;omega)),H5.out⟩
      have:=own_later HO.out HB5.out
      simpa using this
    case hassign =>
      rintro l k args W K ⟨c,v,hc,rfl,ho⟩ hK
      gi_wp2
      exact hK
    case hbody =>
      rintro l k args W hl ⟨v,hx,ho,hb,hXn⟩ hk ⟨c,v5,hc,rfl,ho5⟩
      obtain ⟨qv,cv,rfl,-⟩:=own_slice ho
      have hpos:0 < (celB d.leaf c).length:=by simp [celB]
      obtain ⟨g5,c5,rfl⟩:∃ g c5,v5=.slice (some ⟨g,0,none⟩) (celB d.leaf c).length c5:=by
        obtain ⟨q5,c5,rfl,-⟩:=own_slice ho5
        obtain ⟨g,e,-⟩:=own_at1 ho5 hpos
        exact ⟨g,c5,by rw [e]⟩
      obtain ⟨ys,hys⟩:∃ ys,ys=celB d.leaf c:=⟨_,rfl⟩
      obtain ⟨xs,hxs⟩:∃ xs,xs=d.head++(d.cells.take k).flatMap (celB d.leaf):=⟨_,rfl⟩
      rw [← hys] at ho5 hpos ⊢
      rw [← hxs] at ho hx
      obtain ⟨n5,hn5⟩:∃ n,n=ys.length:=⟨_,rfl⟩
      obtain ⟨n4,hn4⟩:∃ n,n=xs.length:=⟨_,rfl⟩
      rw [← hn5] at ho5 hpos ⊢
      rw [← hn4] at ho hx
      have k3:=hx.cell
      have f3:=hx.frozen
      have HO5:=Lib.hid ho5
      have HO4:=Lib.hid ho
      have HX4:=Lib.hid hx
      have HB4:=Lib.hid hb
      have HYS:=Lib.hid (And.intro hys hn5)
      have HXS:=Lib.hid (And.intro hxs hn4)
      have HP5:=Lib.hid hpos
      have HCC:=Lib.hid hc
      have HXN:=Lib.hid hXn
      have HKL:=Lib.hid hk
      have HBD:Hid (n4+n5≤140737488355328):=Lib.hid (by
        have h1:=celB_le (leaf:=d.leaf) (HS.out c (List.mem_of_getElem? hc))
        have h2:=flatB_le (leaf:=d.leaf) (l:=d.cells.take k) (fun x hx=>HS.out x (List.mem_of_mem_take hx))
        have h3:=head_le d
        have h4:=HLM.out
        have h5:(d.cells.take k).length≤d.cells.length:=by simp;omega
        have h6:n4=(d.head++(d.cells.take k).flatMap (celB d.leaf)).length:=by rw [← hxs];exact hn4
        rw [List.length_append] at h6
        rw [← hys] at h1
        omega)
      have HBS:Hid (N+1≤W.heap.size):=Lib.hid (by have:=cell_lt k3;show N+1≤_;have h:N+1+1 < W.heap.size:=this;omega)
      obtain ⟨ad',e,hnews⟩:=(own_rdv HO5.out).news (by rw [← hn5];exact hpos)
      cases e
      have HNEWS:=Lib.hid hnews
      have hnl:=cell_lt k3
      obtain ⟨i0,hi,hz0,hz1,hz2⟩:=info_parts info8
      clear ho5 ho hx hb hys hn5 hxs hn4 hpos hc hk hnews hXn
      gi_wp2_with (gi_at_builtin;refine wpListIn_append_own _ rfl (.tmp 24) (.tmp 25) 76 rfl (N+1) 5 i0 (.int .u8 0) 1 1 Tryz.underlying76 hi hz0 hz1 hz2 rfl (by decide) (.slice qv n4 cv) n4 (B8s xs) rfl HO4.out ⟨g5,0,none⟩ n5 c5 (B8s ys) rfl (by rw [B8s_length,HYS.out.2,Nat.mul_one]) HNEWS.out B8s_one (by have:=HBD.out;unfold maxLen;omega) (by have:=HBD.out;omega) HBS.out ?_)
      intro v6 w6 ho6 hg6 _
      have hx6:Boxed w6 (N+1+1) 76 (.slice qv n4 cv):=grown_at HX4.out HO4.out hg6 (by decide)
      obtain ⟨q6,c6,rfl,-⟩:=own_zero (n:=n4+n5) ho6
      have k6:=hx6.cell
      have f6:=hx6.frozen
      have HO6:=Lib.hid ho6
      have HG6:=Lib.hid hg6
      have HX6:=Lib.hid hx6
      clear ho6 hg6 hx6 k3 f3 hnl
      gi_wp2
      have hS6:Upd (fun k=>N+1≤k∧k ≠ X) W (w6.setCell ⟨N+1+1,0,none⟩ (.slice q6 (n4+n5) c6)):=by
        refine (Upd.of_grown HG6.out |>.mono fun j _ hj=>?_).tr ((Upd.setC w6 (N+1+1) 0 _).mono fun j _ hj=>?_)
        · refine ⟨own_ge HO4.out hj,fun e=>?_⟩
          have h1:=own_typed HO4.out hj
          rw [e] at h1
          exact absurd (h1.one ⟨_,HXN.out⟩) (by decide)
        · have:=HS5.out
          exact ⟨by omega,by omega⟩
      refine ⟨((KeepsOthers.of_grownBy HG6.out (fun j o hj hh=>?_)).trans (KeepsOthers.setCell _ _ _)).from _,hS6,.slice q6 (n4+n5) c6,HX6.out.set _,?_,?_,(hS6.block X (Array.getElem?_eq_some_iff.1 HXN.out).1 (fun h=>h.2 rfl)).trans HXN.out⟩
      · obtain ⟨cs,hc⟩:=own_typed HO4.out hj.symm
        rw [hh] at hc
        cases hc
        rfl
      · have e1:d.head++(d.cells.take (k+1)).flatMap (celB d.leaf)=xs++ys:=by
          rw [HXS.out.1,HYS.out.1,List.take_add_one,HCC.out]
          simp
        rw [e1,List.length_append,← HXS.out.2,← HYS.out.2]
        have:=own_upd HO6.out (Upd.setC w6 (N+1+1) 0 (.slice q6 (n4+n5) c6)) (fun k hk ht=>by subst hk;exact absurd (ht.one ⟨_,HX6.out⟩) (by decide))
        rwa [show B8s xs++B8s ys=B8s (xs++ys) from by simp [B8s]] at this
      · exact HB4.out.trans ((hS6.below HBS.out (fun k h=>h.1)))
    case hdone =>
      rintro D W hD ⟨v,hx,ho,hb,-⟩ hK
      obtain ⟨qv,cv,rfl,-⟩:=own_slice ho
      have hload:d.head++(d.cells.take L).flatMap (celB d.leaf)=d.load:=by rw [HL.out,List.take_length];rfl
      rw [hload] at hx ho
      obtain ⟨n4,hn4⟩:∃ n,n=d.load.length:=⟨_,rfl⟩
      rw [← hn4] at hx ho
      have HN4:=Lib.hid hn4
      clear hn4 hload
      have k3:=hx.cell
      have HXX:=Lib.hid hx
      have HOO:=Lib.hid ho
      have HBB:=Lib.hid hb
      have HKK:=Lib.hid hK
      clear hx ho hb hK
      gi_wp2
      refine ⟨by simp,.inl ⟨_,_,rfl,run_takeDeferred HKK.out,?_⟩⟩
      refine ⟨.slice qv n4 cv,?_,_,rfl,by rw [← HN4.out];exact own_mono (ownsRow_putObj HOO.out _ HKK.out rfl) (by have:=HNW.out;omega),?_⟩
      · simp [results,Tryz.results46,go_sem]
      · have h1:Below N w W:=HB2.out.trans (HBB.out.mono (by omega))
        rw [← HNW.out]
        exact ⟨h1.os,h1.tape,h1.output,by simpa using h1.size,fun k hk=>(World.putObj_heap_other (by have:=HS5.out;omega)).trans (h1.block k hk)⟩
set_option maxRecDepth 100000 in
set_option maxHeartbeats 2000000 in
theorem half_any (d:Nd) (q:Option Addr) (cap:Nat) (w:World) (hLm:d.cells.length≤200) (hs:∀ c∈d.cells,CelSz c) (hq:CelsAt w q d.cells) :
    Calls Tryz.prog 132 #[ndV d q cap] w fun e w'=>e=.returned (.int .i64 d.half)∧Below w.heap.size w w':=by
  have HLM:=Lib.hid hLm
  have HS:=Lib.hid hs
  have HQ:=Lib.hid hq
  obtain ⟨L,hL⟩:∃ L,L=d.cells.length:=⟨_,rfl⟩
  obtain ⟨lf,hlf⟩:∃ lf,lf=d.leaf:=⟨_,rfl⟩
  have hndv:ndV d q cap=.agg #[.int .i64 d.page,.bool lf,.int .i64 d.first,.slice q L cap]:=by rw [hL,hlf];rfl
  rw [hndv]
  have HL:=Lib.hid hL
  have HLF:=Lib.hid hlf
  clear hLm hs hq hndv hL hlf
  refine (callsIn_wide (n:=9)).1 ?_
  have h1:1≤9:=by omega
  refine callsIn_of_wp_marks Tryz.func132 rfl trivial ?_ rfl
  simp only [Tryz.ntmps132,List.size_toArray,List.length_cons,List.length_nil,Nat.reduceAdd,Nat.reduceSub,Array.replicate_succ,Array.replicate_zero,List.push_toArray,List.append_toArray,List.nil_append,List.cons_append]
  gi_upto_region 2 with fail
  obtain ⟨N,hN⟩:∃ N,N=w.heap.size:=⟨_,rfl⟩
  obtain ⟨W2,hW2⟩:∃ W2,W2=(((w.alloc (.cells #[.int .i64 d.page,.bool lf,.int .i64 d.first,.slice q L cap] 125)).alloc (.cells #[.int .i64 0] 3)).alloc (.cells #[.int .i64 0] 3)):=⟨_,rfl⟩
  have n0:W2.heap[N]?=some (.cells #[.int .i64 d.page,.bool lf,.int .i64 d.first,.slice q L cap] 125 (0,0)):=by rw [hW2,hN];exact alloc_at (alloc_at (heap_alloc_new w _))
  have n1:Boxed W2 (N+1) 3 (.int .i64 0):=by
    rw [hW2,hN]
    refine alloc_at ?_
    have:=heap_alloc_new (w.alloc (.cells #[.int .i64 d.page,.bool lf,.int .i64 d.first,.slice q L cap] 125)) (.cells #[.int .i64 0] 3)
    rwa [World.size_alloc] at this
  have n2:Boxed W2 (N+1+1) 3 (.int .i64 0):=by
    rw [hW2,hN]
    have:=heap_alloc_new ((w.alloc (.cells #[.int .i64 d.page,.bool lf,.int .i64 d.first,.slice q L cap] 125)).alloc (.cells #[.int .i64 0] 3)) (.cells #[.int .i64 0] 3)
    rwa [World.size_alloc,World.size_alloc] at this
  have HB2:Hid (Below N w W2):=Lib.hid (by rw [hW2,hN];exact (((Below.refl _ w).alloc (Nat.le_refl _) _).alloc (by simp) _).alloc (by simp;omega) _)
  have HS2:Hid (W2.heap.size=N+3):=Lib.hid (by rw [hW2,hN];simp)
  rw [← hW2,← hN]
  have HNW:=Lib.hid hN
  have N1:=Lib.hid n1
  have N2:=Lib.hid n2
  have kq:∀ (j:Nat) (u:Value),(#[Value.int .i64 d.page,.bool lf,.int .i64 d.first,.slice q L cap])[j]?=some u→W2.cell? ⟨N,j,none⟩=some u:=fun j u hu=>by simp only [World.cell?,n0];simpa using hu
  have q0:=kq 0 _ rfl
  have q1:=kq 1 _ rfl
  have q2:=kq 2 _ rfl
  have q3:=kq 3 _ rfl
  have hNc:=cell_lt q0
  have N0:=Lib.hid n0
  clear hN hW2 kq n0 n1 n2
  gi_wp2_with fail
  rw [show (Value.agg #[.int .i64 d.page,.bool lf,.int .i64 d.first,.slice q L cap])=ndV d q cap from by rw [HL.out,HLF.out];rfl]
  refine ⟨trivial,(callsIn_wide.2 (parts_any d q cap W2)).mono ?_⟩
  rintro e w5 ⟨rfl,rfl⟩
  rw [← HL.out,← HLF.out]
  rw [show ndV d q cap=(Value.agg #[.int .i64 d.page,.bool lf,.int .i64 d.first,.slice q L cap]) from by rw [HL.out,HLF.out];rfl]
  obtain ⟨X,hX⟩:∃ X,X=W2.heap.size:=⟨_,rfl⟩
  obtain ⟨W5,hW5⟩:∃ W5,W5=W2.alloc (.cells #[.int .i64 d.page,.bool lf,.int .i64 d.first,.slice q L cap] 125):=⟨_,rfl⟩
  have h5:W5.heap[X]?=some (.cells #[.int .i64 d.page,.bool lf,.int .i64 d.first,.slice q L cap] 125 (0,0)):=by rw [hW5,hX];exact heap_alloc_new W2 _
  have HB5:Hid (Below W2.heap.size W2 W5):=Lib.hid (by rw [hW5];exact (Below.refl _ W2).alloc (Nat.le_refl _) _)
  have HS5:Hid (W5.heap.size=X+1∧N+3=X):=Lib.hid (by rw [hW5,hX];have:=HS2.out;simp;omega)
  have HXN:Hid (W5.heap[N]?=some (.cells #[.int .i64 d.page,.bool lf,.int .i64 d.first,.slice q L cap] 125 (0,0))):=Lib.hid ((HB5.out.block N (by have:=HS2.out;omega)).trans N0.out)
  rw [← hW5,← hX]
  have H5:=Lib.hid h5
  have HX:=Lib.hid hX
  have M1:=Lib.hid (boxedB N1.out HB5.out)
  have M2:=Lib.hid (boxedB N2.out HB5.out)
  clear hX hW5 h5 q0 q1 q2 q3 hNc
  gi_wp2_with fail
  refine range_walk (F:=Fence.wide) rfl h1 (gf:=140) (lb:=#[.pointer (some ⟨X,0,none⟩)]) rfl trivial (enters_of Tryz.func140 (by kernel_rfl) rfl)
    (S:=fun k=>N+1≤k∧k ≠ X) (m:=L) (G:=PartG d (N+1)) (by have:=HS5.out;intro k hk;omega)
    (parts1_in 8 (by omega) X L cap (N+1) q d W5 (by have:=HS5.out;omega) (fun h=>h.2 rfl) (by have:=HS5.out;omega) HL.out.symm (by have:=HLM.out;have:=HL.out;omega) HS.out (by rw [H5.out,HLF.out]) ?q1 ?q2)
    ?gs ?gp (fun k W=>∃ z:Nat,z < 60∧d.half=k+halfL d.leaf (d.cells.drop k) z∧Boxed W (N+1+1) 3 (.int .i64 z)∧Boxed W (N+1) 3 (.int .i64 0)∧Below (N+1) W5 W) (fun c W=>c=.ret∧Boxed W (N+1) 3 (.int .i64 d.half)∧Below (N+1) W5 W)
    ?hI ?hIx ?hIp ?hIxp ?h0
    (fun args=>{ tmps:=#[.agg #[.int .i64 d.page,.bool lf,.int .i64 d.first,.slice q L cap],.pointer (some ⟨N,0,none⟩),.pointer (some ⟨N+1,0,none⟩),.pointer (some ⟨N+1+1,0,none⟩),args.getD 0 undef,args.getD 1 undef,.agg #[.int .i64 d.page,.bool lf,.int .i64 d.first,.slice q L cap],.func (.func 140) #[] #[.pointer (some ⟨X,0,none⟩)],args.getD 0 undef,args.getD 1 undef,undef,undef,undef,undef,undef,undef,undef,undef,undef,undef,undef],defers:=[] })
    ?hassign ?hbody ?hdone ?hstop
  case q1=>exact HQ.out.below (by rw [← HNW.out];exact (HB2.out.trans (HB5.out.mono (by have:=HS2.out;omega))))
  case q2 =>
    intro hne b o z e
    obtain ⟨b',o',e',c0,-⟩:=HQ.out.cell (k:=0) (List.length_pos_iff.2 hne)
    rw [e] at e'
    cases e'
    have h1:=cell_lt c0
    have h2:=HNW.out
    have h3:=HS5.out
    have h4:b < w.heap.size:=h1
    exact ⟨fun h=>by omega,by omega⟩
  case gs=>rintro k args W ⟨c,v,hc,rfl,ho⟩;rfl
  case gp =>
    rintro k args W l o o' ⟨c,v,hc,e,ho⟩ hl hh hcl
    exact ⟨c,v,hc,e,ownsRow_putObj ho _ hh hcl⟩
  case hI =>
    rintro k A B ⟨z,hz,he,hx,hy,hb⟩ hab
    exact ⟨z,hz,he,boxedB hx hab,boxedB hy hab,hb.trans (hab.mono (by have:=hb.size;have:=HS5.out;omega))⟩
  case hIx =>
    rintro c A B ⟨hc,hy,hb⟩ hab
    exact ⟨hc,boxedB hy hab,hb.trans (hab.mono (by have:=hb.size;have:=HS5.out;omega))⟩
  case hIp =>
    rintro k W l o o' ⟨z,hz,he,hx,hy,hb⟩ hl hh hcl
    have hne:∀ {j:Nat} {t:TypeId} {u:Value},Boxed W j t u→j ≠ l:=fun h e=>by rw [← e,show W.heap[_]?=_ from h] at hh;cases hh;cases hcl
    exact ⟨z,hz,he,(World.putObj_heap_other (hne hx)).trans hx,(World.putObj_heap_other (hne hy)).trans hy,⟨hb.os,hb.tape,hb.output,by simpa using hb.size,fun k hk=>(World.putObj_heap_other (by have:=HS5.out;omega)).trans (hb.block k hk)⟩⟩
  case hIxp =>
    rintro c W l o o' ⟨hc,hy,hb⟩ hl hh hcl
    have hne:∀ {j:Nat} {t:TypeId} {u:Value},Boxed W j t u→j ≠ l:=fun h e=>by rw [← e,show W.heap[_]?=_ from h] at hh;cases hh;cases hcl
    exact ⟨hc,(World.putObj_heap_other (hne hy)).trans hy,⟨hb.os,hb.tape,hb.output,by simpa using hb.size,fun k hk=>(World.putObj_heap_other (by have:=HS5.out;omega)).trans (hb.block k hk)⟩⟩
  case h0=>exact ⟨0,by omega,by rw [List.drop_zero,Nat.zero_add];rfl,M2.out,M1.out,Below.refl _ _⟩
  case hassign =>
    rintro l k args W K ⟨c,v,hc,rfl,ho⟩ hK
    gi_wp2
    exact hK
  case hbody =>
    rintro l k args W hl ⟨z,hz,he,hx,hy,hb⟩ hk ⟨c,v5,hc,rfl,ho5⟩
    obtain ⟨q5,c5,rfl,-⟩:=own_slice ho5
    obtain ⟨n5,hn5⟩:∃ n,n=(celB d.leaf c).length:=⟨_,rfl⟩
    have hn6:n5≤26:=by rw [hn5];exact celB_le (HS.out c (List.mem_of_getElem? hc))
    rw [← hn5]
    have k2:=hx.cell
    have f2:=hx.frozen
    have k1:=hy.cell
    have f1:=hy.frozen
    have hdrop:d.cells.drop k=c :: d.cells.drop (k+1):=by
      obtain ⟨hlt,e⟩:=List.getElem?_eq_some_iff.1 hc
      rw [List.drop_eq_getElem_cons hlt,e]
    rw [hdrop] at he
    unfold halfL at he
    rw [← hn5] at he
    have HE:=Lib.hid he
    have HXX:=Lib.hid hx
    have HYY:=Lib.hid hy
    have HB:=Lib.hid hb
    have HZ:=Lib.hid hz
    have hz1:(z:Int)+(n5:Int)≤200:=by omega
    have hz2:(0:Int)≤(z:Int)+(n5:Int):=by omega
    have hkl:(k:Int)≤200:=by have:=HL.out;have:=HLM.out;omega
    have hsz:N+1+1 < W.heap.size:=cell_lt k2
    clear ho5 hc hn5 he hx hy hb hz hdrop
    by_cases h60:60≤z+n5
    · have hd:decide ((z:Int)+(n5:Int) ≥ 60)=true:=decide_eq_true (by omega)
      have H60:=Lib.hid h60
      clear h60
      gi_wp2
      have hS6:Upd (fun k=>N+1≤k∧k ≠ X) W ((W.setCell ⟨N+1+1,0,none⟩ (.int .i64 (z+n5))).setCell ⟨N+1,0,none⟩ (.int .i64 (k+1))) :=
        ((Upd.setC W (N+1+1) 0 _).mono fun j _ hj=>by have:=HS5.out;exact ⟨by omega,by omega⟩).tr ((Upd.setC _ (N+1) 0 _).mono fun j _ hj=>by have:=HS5.out;exact ⟨by omega,by omega⟩)
      refine ⟨((KeepsOthers.setCell _ _ _).trans (KeepsOthers.setCell _ _ _)).from _,rfl,?_,?_⟩
      · have:=HE.out
        rw [if_pos H60.out] at this
        rw [this]
        exact (HYY.out.other (by omega) _).set _
      · exact HB.out.trans (hS6.below (by omega) (fun k h=>h.1))
    · have hd:decide ((z:Int)+(n5:Int) ≥ 60)=false:=decide_eq_false (by omega)
      have H60:=Lib.hid h60
      clear h60
      gi_wp2
      have hS6:Upd (fun k=>N+1≤k∧k ≠ X) W (W.setCell ⟨N+1+1,0,none⟩ (.int .i64 (z+n5))):=(Upd.setC W (N+1+1) 0 _).mono fun j _ hj=>by have:=HS5.out;exact ⟨by omega,by omega⟩
      refine ⟨(KeepsOthers.setCell _ _ _).from _,hS6,z+n5,by have:=H60.out;omega,?_,?_,HYY.out.other (by omega) _,HB.out.trans (hS6.below (by omega) (fun k h=>h.1))⟩
      · have:=HE.out
        rw [if_neg H60.out] at this
        omega
      · exact HXX.out.set _
  case hdone =>
    rintro D W hD ⟨z,hz,he,hx,hy,hb⟩ hK
    have m0:W.heap[N]?=_:=(hb.block N (by omega)).trans HXN.out
    have k3:W.cell? ⟨N,3,none⟩=some (.slice q L cap):=by simp [World.cell?,m0]
    have k1:=hy.cell
    have f1:=hy.frozen
    have hHF:Hid (d.half=L):=Lib.hid (by rw [he,HL.out,List.drop_length];rfl)
    have hNl:=cell_lt k3
    have hN1l:=cell_lt k1
    have HYY:=Lib.hid hy
    have HB:=Lib.hid hb
    have HKK:=Lib.hid hK
    clear he hx hy hb hK m0
    gi_wp2
    have h5:=(KeepsOthers.setCell W ⟨N+1,0,none⟩ (.int .i64 L)).same D _ HKK.out rfl
    refine ⟨by simp,.inl ⟨_,_,rfl,run_takeDeferred h5,?_⟩⟩
    have hc:=cell_kept (HYY.out.set (.int .i64 L)).cell (grownBy_putObj' _ D (.deferred none)) (fun r e=>by cases e;exact ⟨_,h5,rfl⟩)
    refine ⟨.int .i64 L,?_,by rw [hHF.out],?_⟩
    · simp [results,Tryz.results132,go_sem,hc]
    · have h1:Below N w (W.setCell ⟨N+1,0,none⟩ (.int .i64 L)):=(HB2.out.trans ((HB5.out.mono (by have:=HS2.out;omega)).trans (HB.out.mono (by omega)))).setCell (p:=⟨N+1,0,none⟩) (by show N≤N+1;omega) _
      rw [← HNW.out]
      exact ⟨h1.os,h1.tape,h1.output,by simpa using h1.size,fun k hk=>(World.putObj_heap_other (by have:=HS5.out;omega)).trans (h1.block k hk)⟩
  case hstop =>
    rintro D c W hD ⟨rfl,hy,hb⟩ hK
    gi_wp2
    refine ⟨by simp,.inl ⟨_,_,rfl,run_takeDeferred hK,?_⟩⟩
    have hc:=cell_kept hy.cell (grownBy_putObj' _ D (.deferred none)) (fun r e=>by cases e;exact ⟨_,hK,rfl⟩)
    refine ⟨.int .i64 d.half,?_,rfl,?_⟩
    · simp [results,Tryz.results132,go_sem,hc]
    · have h1:Below N w W:=HB2.out.trans ((HB5.out.mono (by have:=HS2.out;omega)).trans (hb.mono (by omega)))
      rw [← HNW.out]
      exact ⟨h1.os,h1.tape,h1.output,by simpa using h1.size,fun k hk=>(World.putObj_heap_other (by have:=HS5.out;omega)).trans (h1.block k hk)⟩
end Go.Proofs.YtheeomjfpnijbaaGreatDoor
end
section
namespace Go.Proofs.YtheeomjfpnijbaaGreatDoor
open Go.RowKit Go.Shelf
def pst (s:ASt):PSt:=⟨fun n=>(s.C (n:Int)).2,s.L.xs.length+needC s.A⟩
structure TM (p:Par) (tx cap:Nat) (w:World) (s:ASt):Prop where
  mr:MR 0 p w s
  one:∃ t,s.A=[((tx:Int),t)]
  len:∀ n:Nat,n < p.pages→(s.C (n:Int)).2.length=112
  pages:1≤p.pages∧p.pages≤4096
  cap:s.L.sectors * 112=cap
  room:s.L.xs.length+needC s.A≤s.L.sectors * 112
  undo:∀ t,s.A=[((tx:Int),t)]→∀ n,undoAll t.us (fun n=>(s.C n).2) n=p.G n
  top:s.last≤tx
section
variable {p:Par} {tx cap:Nat} {w w':World} {s:ASt}
theorem TM.below (h:TM p tx cap w s) (hb:Below w.heap.size w w'):TM p tx cap w' s:=⟨h.mr.below hb,h.one,h.len,h.pages,h.cap,h.room,h.undo,h.top⟩
theorem TM.old112 (h:TM p tx cap w s) {n:Nat} (hn:n < p.pages) {old:List UInt8} (e:old=(s.C (n:Int)).2):old.length=112:=by rw [e];exact h.len n hn
theorem TM.readE (h:TM p tx cap w s) {n:Nat} (hn:n < p.pages):readE s.A p.pages tx n=0:=by
  obtain ⟨t,ht⟩:=h.one
  unfold Proofs.YtheeomjfpnijbaaGreatDoor.readE
  rw [if_neg,if_neg (by omega),if_neg]
  · rw [ht]
    unfold lockedA
    simp
  · rw [ht]
    simp [look]
theorem TM.like (h:TM p tx cap w s) {s':ASt} {k:Nat} (hm:MR 0 p w' s') (hl:Like s s' k):TM p tx cap w' s'∧pst s'=pst s∧s'.t=s.t+k :=
  ⟨⟨hm,by rw [hl.A];exact h.one,by rw [hl.C];exact h.len,h.pages,by rw [hl.log.2.1];exact h.cap,by rw [hl.A,hl.log.2.2,hl.log.2.1];exact h.room,by rw [hl.A,hl.C];exact h.undo,by rw [hl.last];exact h.top⟩,by unfold pst;rw [hl.C,hl.A,hl.log.2.2],hl.t⟩
theorem tread_any (n:Nat) (h:TM p tx cap w s) (hn:n < p.pages) (ht:s.t≤900000) :
    Calls Tryz.prog 51 #[.pointer (some ⟨p.bg,0,none⟩),.int .i64 tx,.int .i64 n] w fun e w'=>∃ q d s',e=.returned (.tuple #[.slice q 112 d,.int .i64 0]) ∧
      w'.ownsRow w.heap.size 5 1 (.slice q 112 d) 112 (B8s (s.C (n:Int)).2)∧TM p tx cap w' s'∧pst s'=pst s∧s'.t=s.t+1∧s'.N=s.N∧Step p s.N w s'.N w':=by
  refine (rread_any p s tx n w h.mr ht).mono ?_
  rintro e w' (⟨c,hc,hc0,-⟩ | ⟨-,q,d,s',rfl,ho,hm,hl,hs⟩)
  · exact absurd (hc.trans (h.readE hn)) hc0
  · obtain ⟨h1,h2,h3⟩:=h.like hm hl
    exact ⟨q,d,s',rfl,ho,h1,h2,h3,hl.N,hs⟩
theorem pages_any (h:TM p tx cap w s) :
    Calls Tryz.prog 50 #[.pointer (some ⟨p.bg,0,none⟩)] w fun e w'=>e=.returned (.int .i64 p.pages)∧w'=w:=by
  obtain ⟨-,-,-,k4,-,-,-,hlt⟩:=h.mr.load
  clear h
  go_enter Tryz.func50,Tryz.ntmps50
  go_wp2
  go_ret
  exact ⟨rfl,rfl⟩
end
theorem wcost_le {tx n off:Nat} {old xs:List UInt8} (h1:tx≤1099511627776) (h2:n≤4096) (h3:off≤112) (h4:old.length=xs.length) (h5:xs.length≤112):wcost tx n off old xs≤14+2 * xs.length:=by
  unfold wcost
  have e:encR (wrec tx n off old xs 0)=[1]++varN tx++varN n++varN off++varN old.length++old++varN xs.length++xs:=by
    unfold encR wrec
    simp only [if_pos,txt_size,strB_txt]
  have a1:=varN_length 6 tx (by omega) (by omega)
  have a2:=varN_length 2 n (by omega) (by omega)
  have a3:=varN_length 1 off (by omega) (by omega)
  have a4:=varN_length 1 old.length (by omega) (by omega)
  have a5:=varN_length 1 xs.length (by omega) (by omega)
  have hl:(encR (wrec tx n off old xs 0)).length≤12+2 * xs.length:=by
    rw [e]
    simp only [List.length_append,List.length_cons,List.length_nil]
    omega
  have:=textV_le (xs:=encR (wrec tx n off old xs 0)) (by omega)
  omega
theorem parts_cost {old new:List UInt8} {a b tx n:Nat} (h:Parts old new a b) (hb:0 < b) (ho:old.length=112) (hn:new.length=112) (h1:tx≤1099511627776) (h2:n≤4096) :
    a+b≤112∧wth old a ((new.drop a).take b)=new∧CostOf old new (160+wcost tx n a ((old.drop a).take b) ((new.drop a).take b)):=by
  rcases h with ⟨-,h0,-⟩ | ⟨-,p1,p2,p3,p4⟩
  · omega
  · have hab:a+b≤112:=by
      refine Nat.le_of_not_lt fun hlt=>p2 ?_
      rw [List.getElem?_eq_none (by omega),List.getElem?_eq_none (by omega)]
    have hlen:((new.drop a).take b).length=b:=by simp;omega
    refine ⟨hab,?_,fun x m hx hw=>?_⟩
    · unfold wth
      rw [hlen]
      refine List.ext_getElem? fun i=>?_
      rcases Nat.lt_or_ge i a with hi | hi
      · rw [List.append_assoc,List.getElem?_append_left (by simp;omega),List.getElem?_take_of_lt hi,p3 i hi]
      · rcases Nat.lt_or_ge i (a+b) with hj | hj
        · rw [List.append_assoc,List.getElem?_append_right (by simp;omega),List.getElem?_append_left (by simp;omega),List.getElem?_take_of_lt (by simp;omega),List.getElem?_drop]
          congr 1
          simp
          omega
        · rw [List.getElem?_append_right (by simp;omega),List.getElem?_drop]
          have:a+b+(i - (List.take a old++(List.drop a new).take b).length)=i:=by simp;omega
          rw [this,p4 i hj]
    · have hxa:x≤a:=by
        refine Nat.le_of_not_lt fun hlt=>p1 (hw a (.inl hlt))
      have hxb:a+b≤x+m:=by
        refine Nat.le_of_not_lt fun hlt=>p2 (hw (a+b - 1) (.inr (by omega)))
      have:=wcost_le (tx:=tx) (n:=n) (off:=a) (old:=(old.drop a).take b) (xs:=(new.drop a).take b) h1 h2 (by omega) (by simp;omega) (by omega)
      rw [hlen] at this
      omega
section
variable {p:Par} {tx cap:Nat} {w w':World} {s:ASt} {N':Zone}
theorem TM.keep (h:TM p tx cap w s) (hs:Step p s.N w N' w') {k:Nat} {t:TypeId} {cs:Array Value} (hk:w.heap[k]?=some (.cells cs t (0,0))) (ht:FreeM t):w'.heap[k]?=some (.cells cs t (0,0)) :=
  (hs.upd.block k (Array.getElem?_eq_some_iff.1 hk).1 (h.mr.free ht ⟨_,hk⟩)).trans hk
theorem TM.keep8 (h:TM p tx cap w s) (hs:Step p s.N w N' w') {k:Nat} {cs:Array Value} (hk:w.heap[k]?=some (.cells cs 5 (0,0))) (hn:¬ s.N k):w'.heap[k]?=some (.cells cs 5 (0,0)) :=
  (hs.upd.block k (Array.getElem?_eq_some_iff.1 hk).1 (fun hm=>hn (h.mr.free8 hm ⟨_,hk⟩))).trans hk
theorem TM.txs (h:TM p tx cap w s):1≤tx∧tx≤1099511627776:=by
  obtain ⟨t,ht⟩:=h.one
  have:=h.mr.keys ((tx:Int),t) (by rw [ht];simp)
  simp only at this
  omega
theorem TM.fresh (h:TM p tx cap w s) {k:Nat} (hk:w.heap.size≤k):¬ s.N k:=fun hn=>by
  have:=h.mr.run.st.no k hn
  omega
end
section
variable {k:Int} {p:Par} {tx cap:Nat} {w w':World} {s:ASt}
theorem MR.other {T:Nat→Prop} (h:MR k p w s) (hu:Upd T w w') (hT:∀ j,T j→s.N.B≤j∧∃ t,FreeM t∧Typed w j t):MR k p w' s:=by
  have hne:∀ j u,T j→Typed w j u→FreeM u:=fun j u hj h1=>by
    obtain ⟨-,t,ht,h2⟩:=hT j hj
    rw [h1.one h2]
    exact ht
  exact {
    cells:=(hu.block _ (Array.getElem?_eq_some_iff.1 h.cells).1 (fun hj=>absurd (hne _ _ hj h.typed) (by decide))).trans h.cells
    run:=h.run.upd hu (fun j hj=>(hT j hj).1) (fun j hj=>by
      obtain ⟨-,t,ht,h2⟩:=hT j hj
      exact ⟨fun hf=>h.not8 (.inr (.inr (.inr ht.1))) _ hf h2,fun h8=>absurd (hne _ _ hj h8) (by decide)⟩)
    map:=h.map.upd hu (fun hj=>by obtain ⟨-,t,ht,h2⟩:=hT _ hj;exact h.map.notTyped h2 rfl)
    txs:=fun x hx=>⟨(hu.block _ (Array.getElem?_eq_some_iff.1 (h.txs x hx).cells).1 (fun hj=>absurd (hne _ _ hj ⟨_,(h.txs x hx).cells⟩) (by decide))).trans (h.txs x hx).cells,own_upd (h.txs x hx).row hu (fun j hj h8=>absurd (hne _ _ hj h8) (by decide))⟩
    apart:=h.apart
    rows:=h.rows
    low:=h.low
    pins:=h.pins
    few:=h.few
    keys:=h.keys
    last:=h.last
    cnt:=h.cnt
    ups:=h.ups
    ulen:=h.ulen
    sect:=h.sect }
theorem TM.turn {T:Nat→Prop} {B:Nat} (h:TM p tx cap w s) (hu:Upd T w w') (hB:s.N.B≤B) (hT:∀ j,T j→B≤j∧∃ t,FreeM t∧Typed w j t):TM p tx cap w' s :=
  ⟨h.mr.other hu (fun j hj=>⟨Nat.le_trans hB (hT j hj).1,(hT j hj).2⟩),h.one,h.len,h.pages,h.cap,h.room,h.undo,h.top⟩
theorem Step.more {N N':Zone} {w1:World} {T:Nat→Prop} (h:Step p N w N' w1) (hu:Upd T w1 w') (hT:∀ j,T j→w.heap.size≤j):Step p N w N' w' :=
  ⟨h.B,h.far,h.upd.trans' hu (fun j hj ht=>absurd (hT j ht) (by omega)),h.zone⟩
theorem TM.base (h:TM p tx cap w s):s.N.B≤w.heap.size:=h.mr.run.st.base
end
theorem pad_splice {xs:List UInt8} (h:xs.length≤112):splice (B8s (List.replicate 112 0)) 0 (B8s xs)=B8s (pad xs):=by
  obtain ⟨n,hn⟩:∃ n,n=112:=⟨_,rfl⟩
  unfold splice pad B8s
  rw [← hn] at h ⊢
  simp
theorem needC_set {A:List (Int × Tx)} {tx:Nat} {t t':Tx} {r:Rec} (hA:A=[((tx:Int),t)]) (hu:t'.us=t.us++[r]):needC (setA A tx t')=needC A+160:=by
  subst hA
  simp [needC,setA,hu]
  omega
theorem wth_back {a xs:List UInt8} {off:Nat} (h:off+xs.length≤a.length):wth (wth a off xs) off ((a.drop off).take xs.length)=a:=by
  have hl:((a.drop off).take xs.length).length=xs.length:=by simp;omega
  unfold wth
  rw [hl]
  have h1:(a.take off++xs++a.drop (off+xs.length)).take off=a.take off:=by
    rw [List.append_assoc,List.take_append_of_le_length (by simp;omega),List.take_of_length_le (by simp;omega)]
  have h2:(a.take off++xs++a.drop (off+xs.length)).drop (off+xs.length)=a.drop (off+xs.length):=by
    rw [List.drop_append,List.drop_eq_nil_of_le (by simp;omega),List.nil_append]
    have:off+xs.length - (a.take off++xs).length=0:=by simp;omega
    rw [this];rfl
  rw [h1,h2,List.append_assoc]
  have h3:(a.drop off).take xs.length++a.drop (off+xs.length)=a.drop off:=by
    rw [← List.drop_drop]
    exact List.take_append_drop _ _
  rw [h3,List.take_append_drop]
theorem TM.written {p:Par} {tx cap n off:Nat} {w w':World} {s s':ASt} {t t':Tx} {old xs new:List UInt8} (h:TM p tx cap w s) (hm:MR 0 p w' s') (hw:Written s s' tx n off old xs t t') (hl:look s.A tx=some t) (hn:n < p.pages) (hx:wth (s.C (n:Int)).2 off xs=new) (h112:new.length=112) (ho:old=((s.C (n:Int)).2.drop off).take xs.length) (hoff:off+xs.length≤(s.C (n:Int)).2.length) (hroom:s.L.xs.length+(needC s.A+160+wcost tx n off old xs)≤s.L.sectors * 112) :
    TM p tx cap w' s'∧(pst s').F=updF (pst s).F n new∧(pst s').u=(pst s).u+(160+wcost tx n off old xs):=by
  obtain ⟨t0,ht⟩:=h.one
  have e0:t0=t:=by rw [ht] at hl;simpa [look] using hl
  subst e0
  have hF:(pst s').F=updF (pst s).F n new:=by
    funext k
    unfold pst updF
    simp only
    rw [hw.C]
    unfold updC
    by_cases e:k=n
    · subst e;rw [if_pos rfl,if_pos rfl,hx]
    · rw [if_neg (by omega),if_neg e]
  refine ⟨⟨hm,⟨t',by rw [hw.A,ht];simp [setA]⟩,fun k hk=>?_,h.pages,by rw [hw.log.2.1];exact h.cap,?_,fun u hu=>?_,by rw [hw.last];have:=h.top;omega⟩,hF,?_⟩
  · have:=congrFun hF k
    unfold pst updF at this
    simp only at this
    rw [this]
    split
    · exact h112
    · exact h.len k hk
  · rw [hw.log.2.2,hw.log.2.1,hw.A,needC_set ht hw.us,List.length_append]
    have e:(textV (encR (wrec tx n off old xs 0))).length=wcost tx n off old xs:=rfl
    omega
  · have e:u=t':=by
      rw [hw.A,ht] at hu
      simp [setA] at hu
      exact hu.symm
    subst e
    have hu0:=h.undo t0 ht
    intro k
    rw [← hu0 k,hw.us]
    unfold undoAll
    rw [List.foldr_append]
    refine congrFun (congrArg (fun P=>List.foldr undo1 P t0.us) ?_) k
    funext j
    show (if j=(n:Int) then wth ((s'.C j).2) off (strB (txt old)) else (s'.C j).2)=(s.C j).2
    rw [hw.C]
    unfold updC
    by_cases e:j=(n:Int)
    · subst e
      rw [if_pos rfl,if_pos rfl,strB_txt,ho]
      exact wth_back hoff
    · rw [if_neg e,if_neg e]
  · unfold pst
    simp only
    rw [hw.log.2.2,hw.A,needC_set ht hw.us,List.length_append]
    unfold wcost
    omega
theorem twin_any {p:Par} {tx cap:Nat} {s:ASt} (n a b cc:Nat) (q:Option Addr) (old new xs:List UInt8) (w:World) (h:TM p tx cap w s) (hn:n < p.pages) (ht:s.t≤800000) (hxs:xs.length=b) (hb:0 < b) (hab:a+b≤112) (hr:Rd w q xs) (hq:∀ g o z,q=some ⟨g,o,z⟩→Typed w g 5∧¬ s.N g)
    (ho:old=(s.C (n:Int)).2) (hw:wth old a xs=new) (hn2:new.length=112) (hne:(old.drop a).take b ≠ xs) (hc:CostOf old new (160+wcost tx n a ((old.drop a).take b) xs)) :
    Calls Tryz.prog 94 #[.pointer (some ⟨p.bg,0,none⟩),.int .i64 tx,.int .i64 n,.int .i64 a,.slice q b cc] w fun e w'=>∃ (c:Nat) (s':ASt),e=.returned (.int .i64 c)∧WriteR cap (pst s) n new c (pst s')∧TM p tx cap w' s'∧s'.t≤s.t+5∧Step p s.N w s'.N w':=by
  have hE:=h.readE hn
  have hold:(pst s).F n=old:=ho.symm
  refine (mwrite_any p s tx n a b cc q xs w h.mr ht hxs hb hab hr (fun g o z e hm=>by obtain ⟨h1,h2⟩:=hq g o z e;exact h2 (h.mr.free8 hm h1)) h.pages.2).mono ?_
  rintro e w' (⟨c,h1,h2,-⟩ | ⟨-,h1,-⟩ | ⟨-,h1,h2,s',rfl,h3,h4,h5⟩ | ⟨-,h1,h2,s',t,t',h3,rfl,h4,h5,h6⟩)
  · exact absurd (h1.trans hE) h2
  · rw [hxs,← ho] at h1
    exact absurd h1 hne
  · obtain ⟨g1,g2,g3⟩:=h.like h3 h4
    rw [hxs,← ho] at h2
    refine ⟨4,s',rfl,.inr ⟨rfl,g2,_,by rw [hold];exact hc,?_⟩,g1,by omega,h5⟩
    have:=h.cap
    have:=h.mr.run.st.lok.long
    unfold pst
    simp only
    omega
  · rw [hxs,← ho] at h5
    obtain ⟨g1,g2,g3⟩:=h.written h4 h5 h3 hn (by rw [← ho];exact hw) hn2 (by rw [← ho,hxs]) (by rw [← ho,h.old112 hn ho];omega) (by have:=h.cap;have:=h.mr.run.st.lok.long;rw [hxs,← ho] at h2;omega)
    refine ⟨0,s',rfl,.inl ⟨rfl,g2,by omega,_,by rw [hold];exact hc,by omega⟩,g1,h5.t,h6⟩
set_option maxRecDepth 20000 in
set_option maxHeartbeats 4000000 in
theorem twrite_any {p:Par} {tx cap:Nat} {s:ASt} (n m c:Nat) (q:Option Addr) (load:List UInt8) (w:World) (h:TM p tx cap w s) (hn:n < p.pages) (ht:s.t≤700000) (hx:load.length=m) (hm:m≤112) (hr:Rd w q load) :
    Calls Tryz.prog 45 #[.agg #[.pointer (some ⟨p.bg,0,none⟩),.int .i64 tx],.int .i64 n,.slice q m c] w fun e w'=>∃ (c:Nat) (s':ASt),e=.returned (.int .i64 c)∧WriteR cap (pst s) n (pad load) c (pst s')∧TM p tx cap w' s'∧s'.t≤s.t+6∧Step p s.N w s'.N w':=by
  have H:=Lib.hid h
  have HN:=Lib.hid hn
  have HT:=Lib.hid ht
  have HX:=Lib.hid hx
  have HM:=Lib.hid hm
  have HR:=Lib.hid hr
  have hsz8:(Tryz.prog.info? 5).map (·.size)=some 1:=by kernel_rfl
  have hmk:∀ W:World,(Instr.makeSlice 76 (.int .i64 112) (.int .i64 112)).run Tryz.prog W=.ok (.slice (some ⟨W.heap.size,0,none⟩) 112 112) (W.alloc (.cells (Zs 112) 5)):=make8 112 (by omega)
  clear h hn ht hx hm hr
  go_enter Tryz.func45,Tryz.ntmps45
  go_upto_region 2 with fail
  obtain ⟨N,hN⟩:∃ N,N=w.heap.size:=⟨_,rfl⟩
  obtain ⟨W1,hW1⟩:∃ W1,W1=(w.alloc (.cells #[.pointer (some ⟨p.bg,0,none⟩),.int .i64 tx] 117)).alloc (.cells (Zs 112) 5):=⟨_,rfl⟩
  have n0:W1.heap[N]?=some (.cells #[.pointer (some ⟨p.bg,0,none⟩),.int .i64 tx] 117 (0,0)):=by rw [hW1,hN];exact alloc_at (heap_alloc_new w _)
  have n1:W1.heap[N+1]?=some (.cells (B8s (List.replicate 112 0)).toArray 5 (0,0)):=by
    rw [hW1,hN,← Zs_arr]
    have:=heap_alloc_new (w.alloc (.cells #[.pointer (some ⟨p.bg,0,none⟩),.int .i64 tx] 117)) (.cells (Zs 112) 5)
    rwa [World.size_alloc] at this
  have HB1:Hid (Below w.heap.size w W1):=Lib.hid (by rw [hW1];exact ((Below.refl _ w).alloc (Nat.le_refl _) _).alloc (by simp) _)
  have HR1:=Lib.hid (HR.out.below HB1.out)
  rw [← hW1,← hN]
  obtain ⟨Z,hZ⟩:∃ Z:List UInt8,Z=List.replicate 112 0:=⟨_,rfl⟩
  rw [← hZ] at n1
  have HZ:=Lib.hid hZ
  have HZL:Hid (Z.length=112):=Lib.hid (by rw [hZ];simp)
  have HNW:=Lib.hid hN
  have N0:=Lib.hid n0
  have N1:=Lib.hid n1
  clear hN hW1 n0 n1 HR hZ
  go_wp2_with (with_reducible (refine wpList_copy_splice rfl (.tmp 13) (.tmp 14) 76 76 rfl 5 Tryz.underlying76 hsz8 _ _ _ _ _ _ rfl rfl (N+1) 0 (B8s Z) 5 N1.out (B8s load) ?n1 ?n2 ?n3 B8s_one (N+1) W1 (Below.refl _ _) (Nat.le_refl _) ?_))
  case n1=>rw [B8s_length,HX.out];have:=HM.out;show _=min _ _;omega
  case n2=>intro hp;rw [B8s_length] at hp;exact HR1.out.news hp
  case n3=>rw [B8s_length,B8s_length,HX.out,HZL.out];have:=HM.out;omega
  intro w2 hh2 hb2
  obtain ⟨full,hfull⟩:∃ f,f=pad load:=⟨_,rfl⟩
  have h2:w2.heap[N+1]?=some (.cells (B8s full).toArray 5 (0,0)):=by rw [hh2.out,HZ.out,pad_splice (by rw [HX.out];exact HM.out),hfull]
  have hfl:full.length=112:=by rw [hfull];exact pad_length (by rw [HX.out];exact HM.out)
  have HFU:=Lib.hid hfull
  have H2:=Lib.hid h2
  have HFL:=Lib.hid hfl
  have hN2:N+1 < w2.heap.size:=(Array.getElem?_eq_some_iff.1 h2).1
  have HB2:Hid (Below w.heap.size w w2):=Lib.hid (HB1.out.trans (hb2.mono (by have:=HNW.out;omega)))
  have t0:w2.heap[N]?=some (.cells #[.pointer (some ⟨p.bg,0,none⟩),.int .i64 tx] 117 (0,0)):=(hb2.block N (by omega)).trans N0.out
  have T0:=Lib.hid t0
  have k0:w2.cell? ⟨N,0,none⟩=some (.pointer (some ⟨p.bg,0,none⟩)):=by simp [World.cell?,t0]
  have k1:w2.cell? ⟨N,1,none⟩=some (.int .i64 tx):=by simp [World.cell?,t0]
  have hNl:=cell_lt k0
  have HM2:=Lib.hid (H.out.below HB2.out)
  clear hh2 hb2 hfull h2 hfl t0 hmk
  go_wp2_with fail
  refine (tread_any n HM2.out HN.out (by have:=HT.out;omega)).mono ?_
  rintro e w3 ⟨q3,d3,s3,rfl,ho3,hm3,hp3,ht3,hn3,hs3⟩
  obtain ⟨was,hwas⟩:∃ x,x=(s.C (n:Int)).2:=⟨_,rfl⟩
  rw [← hwas] at ho3
  have HW:=Lib.hid hwas
  have HNF:Hid (¬ s.N (N+1)):=Lib.hid (H.out.fresh (by have:=HNW.out;omega))
  have h3:=HM2.out.keep8 hs3 H2.out HNF.out
  have t3:=HM2.out.keep hs3 T0.out (by decide)
  have m0:w3.cell? ⟨N,0,none⟩=some (.pointer (some ⟨p.bg,0,none⟩)):=by simp [World.cell?,t3]
  have m1:w3.cell? ⟨N,1,none⟩=some (.int .i64 tx):=by simp [World.cell?,t3]
  have HO3:=Lib.hid ho3
  have HM3:=Lib.hid hm3
  have HP3:=Lib.hid hp3
  have HT3:=Lib.hid ht3
  have HN3:=Lib.hid hn3
  have HS3:=Lib.hid ((Step.of_below HB2.out).trans hs3)
  have H3:=Lib.hid h3
  have hNl3:=cell_lt m0
  have hN13:N+1 < w3.heap.size:=(Array.getElem?_eq_some_iff.1 h3).1
  have HR3:Hid (Rd w3 (some ⟨N+1,0,none⟩) full):=Lib.hid (fun _=>⟨N+1,0,rfl,fun i v hv=>by simp only [World.cell?,H3.out];simpa using hv⟩)
  have HWL:Hid (was.length=112):=Lib.hid (by rw [HW.out];exact H.out.len n HN.out)
  have HX3:=Lib.hid t3
  clear ho3 hm3 hp3 ht3 hn3 hs3 h3 t3 k0 k1 hNl hN2 hwas
  dsimp only
  go_wp2_with fail
  refine (apart_any q3 (some ⟨N+1,0,none⟩) 112 d3 112 112 was full _ HWL.out HFL.out (own_rdv HO3.out) HR3.out (by decide) (by decide)).mono ?_
  rintro e w4 ⟨⟨a,b,rfl,hpart⟩,hb4⟩
  have HM4:=Lib.hid (HM3.out.below hb4)
  have HS4:=Lib.hid (HS3.out.trans (Step.of_below hb4))
  have HPT:=Lib.hid hpart
  have r0:=keepC hb4 m0
  have r1:=keepC hb4 m1
  have hNl4:=cell_lt r0
  have H4:Hid (w4.heap[N+1]?=some (.cells (B8s full).toArray 5 (0,0))):=Lib.hid ((hb4.block _ hN13).trans H3.out)
  clear hb4 hpart m0 m1 hNl3 hN13
  by_cases hb0:b=0
  · subst hb0
    go_wp2_with fail
    go_ret
    have heq:was=full:=by
      rcases HPT.out with ⟨-,-,he⟩ | ⟨h0,-⟩
      · exact List.ext_getElem? he
      · omega
    refine ⟨0,s3,rfl,.inl ⟨rfl,?_,?_,0,fun _ _ _ _=>Nat.zero_le _,?_⟩,HM4.out,by have:=HT3.out;omega,HS4.out⟩
    · rw [HP3.out]
      funext k
      unfold updF
      split
      · rename_i hk
        subst hk
        rw [← HFU.out,← heq,HW.out]
        rfl
      · rfl
    · rw [HP3.out];exact Nat.le_refl _
    · rw [HP3.out];exact Nat.le_refl _
  · have hbb:((b:Int) == 0)=false:=by rw [beq_eq_false_iff_ne];omega
    obtain ⟨k1,k2,k3⟩:=parts_cost (tx:=tx) (n:=n) HPT.out (by omega) HWL.out HFL.out H.out.txs.2 (by have:=H.out.pages;have:=HN.out;omega)
    have K2:=Lib.hid k2
    have K3:=Lib.hid k3
    have K1:=Lib.hid k1
    have hbp:Hid (0 < b):=Lib.hid (by omega)
    obtain ⟨E,hE⟩:∃ E,E=a+b:=⟨_,rfl⟩
    have hEi:(a:Int)+(b:Int)=(E:Int):=by omega
    have hE1:(a:Int)≤(E:Int):=by omega
    have hE2:(E:Int)≤112:=by omega
    have hEn:a≤E:=by omega
    have hEn2:E≤112:=by omega
    have hdo:¬ 112=a:=by omega
    have hEw:IntKind.i64.wrap (E:Int)=(E:Int):=by rw [IntKind.wrap_i64];omega
    have HEB:Hid (E - a=b):=Lib.hid (by omega)
    obtain ⟨xs,hxs⟩:∃ xs,xs=(full.drop a).take b:=⟨_,rfl⟩
    have HXS:=Lib.hid hxs
    have HR4:Hid (Rd w4.drew (some ⟨N+1,a,none⟩) xs):=Lib.hid (by
      have h0:Rd w4.drew (some ⟨N+1,0,none⟩) full:=fun _=>⟨N+1,0,rfl,fun i v hv=>by
        have:w4.drew.heap[N+1]?=_:=H4.out
        simp only [World.cell?,this];simpa using hv⟩
      have:=h0.sub a b
      rw [Nat.zero_add] at this
      rw [hxs]
      exact this)
    have HM5:=Lib.hid (HM4.out.below (Below.refl _ w4).drew)
    have hfin:=twin_any n a (E - a) (112 - a) (some ⟨N+1,a,none⟩) was full xs w4.drew HM5.out HN.out (by have:=HT3.out;have:=HT.out;omega) (by rw [HXS.out,HEB.out];simp;have:=HFL.out;omega) (by have:=HEB.out;have:=hbp.out;omega) (by have:=HEB.out;have:=K1.out;omega) HR4.out
      (fun g o z e=>by cases e;exact ⟨⟨_,H4.out⟩,by rw [HN3.out];exact HNF.out⟩)
      (by have:=congrArg (fun P=>P.F n) HP3.out;exact HW.out.trans this.symm) (by rw [HXS.out];exact K2.out) HFL.out
      (by
        rw [HEB.out,HXS.out]
        intro he
        rcases HPT.out with ⟨-,h0,-⟩ | ⟨-,p1,-⟩
        · have:=hbp.out;omega
        · have h1:=congrArg (fun l=>l[0]?) he
          simp only [List.getElem?_take,hbp.out,if_true,List.getElem?_drop,Nat.add_zero] at h1
          exact p1 h1)
      (by rw [HEB.out,HXS.out];exact K3.out)
    have HFIN:=Lib.hid hfin
    clear hfin k1 k2 k3 hb0 hxs hE
    go_wp2_with fail
    go_region_law (first
      | (go_simp;go_at_call 94;refine HFIN.out.mono ?_;rintro e w6 ⟨c6,s6,rfl,hw6,hm6,ht6,hs6⟩;have HW6:=Lib.hid hw6;have HM6:=Lib.hid hm6;have HT6:=Lib.hid ht6;have HS6:=Lib.hid hs6;clear hw6 hm6 ht6 hs6))
    all_goals go_wp2
    all_goals go_ret
    all_goals
      refine ⟨c6,s6,rfl,?_,HM6.out,by have:=HT6.out;have:=HT3.out;omega,(HS4.out.trans (Step.of_below (Below.refl _ w4).drew)).trans HS6.out⟩
      have:=HW6.out
      rw [HP3.out,HFU.out] at this
      exact this
end Go.Proofs.YtheeomjfpnijbaaGreatDoor
end
section
namespace Go.Proofs.YtheeomjfpnijbaaGreatDoor
open Go.RowKit
set_option maxHeartbeats 400000 in
set_option maxRecDepth 20000 in
theorem grow_nil (N:Nat) (w:World) (h:N≤140737488355328) :
    Calls Tryz.prog 145 #[.slice none 0 0,.int .i64 N] w fun e w'=>∃ v',e=.returned v'∧w'.ownsRow w.heap.size 5 1 v' 0 []∧Below w.heap.size w w':=by
  rcases Nat.eq_zero_or_pos N with h0 | h0
  · subst h0
    go_enter Tryz.func145,Tryz.ntmps145
    go_wp2
    go_ret
    exact ⟨_,rfl,World.ownsRow_nil _ _ _ _,Below.refl _ _⟩
  · have hN:(0:Int) < (N:Int):=by omega
    obtain ⟨i0,hi,hz0,hz1,hz2⟩:=info_parts info8
    have hrun:=fun ty=>Lib.run_append_nil_zeros (P:=Tryz.prog) w 76 3 ty 5 i0 (.int .u8 0) .i64 .i64 Tryz.underlying76 Tryz.underlying3 hi hz0 N h0 (by rw [hz1];decide) (by omega) (by rw [hz2];omega)
    have HR:=Lib.hid hrun
    clear hrun h0
    go_enter Tryz.func145,Tryz.ntmps145
    go_wp2_with (at_builtin;refine Lib.wpList_append_run _ rfl (.tmp 20) (.tmp 21) 76 3 rfl _ _ rfl rfl _ _ (HR.out _) ?_)
    go_ret
    refine ⟨_,rfl,?_,((Below.refl _ w).alloc (Nat.le_refl _) _).drew⟩
    have hge:=grownCap_ge w N 0 5
    have hle:=grownCap_le_maxLen w N 0 5 (by unfold maxLen;omega)
    have hown:=own8_mk (w:=(w.alloc (.cells (Builtin.zeroCells #[Value.int .u8 0] N++Builtin.zeroCells #[Value.int .u8 0] (grownCap w N 0 5 - N)) 5)).drew) (base:=w.heap.size) (g:=w.heap.size) (n:=0) (cap:=grownCap w N 0 5) (xs:=[])
      (cur:=(Builtin.zeroCells #[Value.int .u8 0] N++Builtin.zeroCells #[Value.int .u8 0] (grownCap w N 0 5 - N)).toList) (Nat.le_refl _)
      (by simp only [B8s,List.map_nil,List.nil_append,Array.toArray_toList];exact heap_alloc_new w _) rfl
      (by rw [Array.length_toList,Array.size_append,size_zeroCells,size_zeroCells];simp;omega) hle
    exact hown
set_option maxHeartbeats 1000000 in
set_option maxRecDepth 20000 in
theorem concat_any (p:Option Addr) (n c:Nat) (ps:List (List UInt8)) (w:World) (hn:ps.length=n) (hn3:n≤9223372036854775807) (h:PartsRd w p ps) (hf:ps.flatten.length≤140737488355328) :
    Calls Tryz.prog 100 #[.slice p n c] w fun e w'=>OwnQ ps.flatten w w' e:=by
  have HN:=Lib.hid hn
  have HF:=Lib.hid hf
  clear hn hf
  go_enter Tryz.func100,Tryz.ntmps100
  go_wp2
  go_loopw [3,11] (fun t i wr=>w=wr∧∃ k S:Nat,k≤n∧i=.int .i64 k∧t=.int .i64 S∧Hid (S=(ps.take k).flatten.length)) (fun _ i _=>n - (intOf i).toNat)
  case atStart=>exact ⟨rfl,0,0,Nat.zero_le _,rfl,rfl,Lib.hid rfl⟩
  case round =>
    obtain ⟨rfl,k,S,hk,rfl,rfl,HS⟩:=hrel
    by_cases hlt:k < n
    · have hkl:k < ps.length:=by rw [HN.out];exact hlt
      obtain ⟨b,o,q,cq,rfl,hc,hr⟩:=h k hkl
      have hle:S+(ps[k]).length≤140737488355328:=by
        have:=flat_take_le ps (k+1)
        rw [flat_take_succ hkl,List.length_append] at this
        have:=HS.out
        have:=HF.out
        omega
      have HS2:Hid (S+(ps[k]).length=(ps.take (k+1)).flatten.length):=Lib.hid (by rw [flat_take_succ hkl,List.length_append,HS.out])
      obtain ⟨m,hm⟩:∃ m,m=(ps[k]).length:=⟨_,rfl⟩
      rw [← hm] at hc hle HS2
      clear hr hm
      go_wp2
      go_roundw
      case rel=>exact ⟨trivial,k+1,S+m,by omega,by go_num,by go_num,HS2⟩
      case measure=>simp [intOf];omega
    · obtain rfl:k=n:=by omega
      have e:ps.take k=ps:=List.take_of_length_le (by rw [HN.out];exact Nat.le_refl _)
      rw [e] at HS
      have hS:S≤140737488355328:=by have:=HS.out;have:=HF.out;omega
      clear e HS
      go_wp2_with fail
      refine (grow_nil S _ hS).mono ?_
      rintro e w1 ⟨v1,rfl,hown,hb⟩
      have HO:=Lib.hid hown
      clear hown hS
      go_wp2_with fail
      go_loopw [6,27] (fun v i wr=>∃ j:Nat,j≤k∧i=.int .i64 j∧Hid (wr.ownsRow w.heap.size 5 1 v (ps.take j).flatten.length (B8s (ps.take j).flatten))∧Below w.heap.size w wr) (fun _ i _=>k - (intOf i).toNat)
      case atStart=>exact ⟨0,Nat.zero_le _,rfl,HO,hb⟩
      case round =>
        obtain ⟨j,hj,rfl,HO,hb⟩:=hrel
        by_cases hlt:j < k
        · have hkl:j < ps.length:=by rw [HN.out];exact hlt
          obtain ⟨b,o,q,cq,rfl,hc,hr⟩:=h j hkl
          have hc':=(hb.cell (cell_lt hc)).trans hc
          have hle:(ps.take j).flatten.length+(ps[j]).length≤140737488355328:=by
            have:=flat_take_le ps (j+1)
            rw [flat_take_succ hkl,List.length_append] at this
            have:=HF.out
            omega
          have HL:=Lib.hid hle
          have HR:=Lib.hid (hr.below hb)
          have HE:=Lib.hid (flat_take_succ hkl)
          clear hc hr hle
          obtain ⟨fl,hfl⟩:∃ fl,fl=(ps.take j).flatten:=⟨_,rfl⟩
          obtain ⟨pj,hpj⟩:∃ pj,pj=ps[j]:=⟨_,rfl⟩
          rw [← hfl] at HO HL HE
          rw [← hpj] at HL HR HE hc'
          clear hfl hpj
          go_wp2_with (at_builtin;refine wp_appx (w0:=w) (base:=w.heap.size) (n:=fl.length) (m:=pj.length) (c:=cq) rfl (.tmp 31) (.tmp 32) rfl _ fl pj q rfl rfl rfl HR.out HO.out hb hb.size HL.out ?_)
          intro v2 w2 hown2 hb2
          have HO2:Hid (w2.ownsRow w.heap.size 5 1 v2 (ps.take (j+1)).flatten.length (B8s (ps.take (j+1)).flatten)):=Lib.hid (by rw [HE.out,List.length_append];exact hown2)
          clear hown2
          go_wp2
          go_roundw
          case rel=>exact ⟨j+1,by omega,by go_num,HO2,hb2⟩
          case measure=>simp [intOf];omega
        · obtain rfl:j=k:=by omega
          have e:ps.take j=ps:=List.take_of_length_le (by rw [HN.out];exact Nat.le_refl _)
          rw [e] at HO
          go_wp2
          go_ret
          exact ⟨_,rfl,HO.out,hb⟩
end Go.Proofs.YtheeomjfpnijbaaGreatDoor
end
