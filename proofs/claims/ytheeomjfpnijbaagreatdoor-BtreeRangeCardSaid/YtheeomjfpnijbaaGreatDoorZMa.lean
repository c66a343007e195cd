/- Lemmas: Map, Ints. -/
import Derived.Test.YtheeomjfpnijbaaGreatDoorBaseP
import Derived.Test.YtheeomjfpnijbaaGreatDoorLogZeroP
set_option linter.unusedVariables false
section
namespace Go.Proofs.YtheeomjfpnijbaaGreatDoor
open Go.RowKit
structure KeyKind (K:Type) [DecidableEq K] where
  enc:K→Value
  kind:TypeDesc
  same:∀ a b,Instr.sameNow kind (enc a) (enc b)=some (decide (a=b))
  bits:∀ a n,Instr.sameBits n (enc a) (enc a)=true
  plain:∀ (P:Program) (t:TypeId) (e:Bool) (n:Nat) (a:K) (w:World),P.underlying t=some kind→(Instr.checkKey e (n+1) t (enc a)).run P w=.ok () w
def intKeys:KeyKind Int where
  enc:=.int .i64
  kind:=.int .i64
  same:=fun a b=>rfl
  bits:=fun a n=>by cases n <;> simp [Instr.sameBits]
  plain:=fun P t e n a w h=>by simp [Instr.checkKey,run_underlying h]
section
variable {K:Type} [DecidableEq K] (KK:KeyKind K)
def MapIs (w:World) (b:Nat) (m:List (K × Value)):Prop :=
  ∃ es clock,w.heap[b]?=some (.map es clock)∧es.toList.map (fun e=>(e.key,e.val))=m.map (fun x=>(KK.enc x.1,x.2))
def look {V:Type} (m:List (K × V)) (k:K):Option V:=(m.find? fun x=>decide (x.1=k)).map (·.2)
theorem findNow_is (k:K):∀ (es:List MapEntry) (m:List (K × Value)) (i:Nat),es.map (fun e=>(e.key,e.val))=m.map (fun x=>(KK.enc x.1,x.2)) →
    Instr.findNow KK.kind (KK.enc k) es i=some ((look m k).map fun v=>(i+m.findIdx fun x=>decide (x.1=k),v))
  | [],[],i,_=>rfl
  | [],x :: m,i,h=>by simp at h
  | e :: es,[],i,h=>by simp at h
  | e :: es,x :: m,i,h=>by
    simp only [List.map_cons,List.cons.injEq,Prod.mk.injEq] at h
    obtain ⟨⟨h1,h2⟩,h3⟩:=h
    have ih:=findNow_is k es m (i+1) h3
    unfold Instr.findNow
    rw [h1,KK.same,ih]
    by_cases hk:k=x.1
    · subst hk
      simp [look,h2,List.findIdx_cons]
    · have hk':¬ x.1=k:=fun h=>hk h.symm
      rw [decide_eq_false hk]
      have e1:look (x :: m) k=look m k:=by unfold look;rw [List.find?_cons_of_neg (by simp [hk'])]
      have e2:(x :: m).findIdx (fun x=>decide (x.1=k))=m.findIdx (fun x=>decide (x.1=k))+1:=by rw [List.findIdx_cons,decide_eq_false hk'];rfl
      rw [e1,e2,show i+(m.findIdx (fun x=>decide (x.1=k))+1)=i+1+m.findIdx (fun x=>decide (x.1=k)) from by omega]
variable {KK}
variable {P:Program} {w:World} {b:Nat} {m:List (K × Value)}
theorem MapIs.find {t kt:TypeId} (h:MapIs KK w b m) (hk:P.underlying kt=some KK.kind) (k:K) :
    ∃ es clock,w.heap[b]?=some (.map es clock)∧(Instr.findKey kt (KK.enc k) es.toList).run P w=.ok ((look m k).map fun v=>(m.findIdx (fun x=>decide (x.1=k)),v)) w:=by
  obtain ⟨es,clock,hb,he⟩:=h
  refine ⟨es,clock,hb,?_⟩
  have:=findNow_is KK k es.toList m 0 he
  simp only [Nat.zero_add] at this
  simp [Instr.findKey,run_underlying hk,this]
theorem MapIs.lookup_ok {t kt et:TypeId} (h:MapIs KK w b m) (ht:P.underlying t=some (.map kt et)) (hk:P.underlying kt=some KK.kind) {z:Value} (hz:(zeroValue et).run P w=.ok z w) (k:K) :
    (Instr.lookup t (.map (some b)) (KK.enc k) true).run P w=.ok (.tuple #[(look m k).getD z,.bool (look m k).isSome]) w:=by
  obtain ⟨es,clock,hb,hf⟩:=h.find (t:=t) hk k
  have hc:∀ e,(Instr.checkKey e 10000 kt (KK.enc k)).run P w=.ok () w:=fun e=>KK.plain P kt e 9999 k w hk
  have hg:(getObj b).run P w=.ok (.map es clock) w:=by simp [getObj,Sem.run,hb]
  rcases hl:look m k with _ | v
  · rw [hl] at hf
    simp [Instr.lookup,run_underlying ht,hg,hc,hf,hz]
  · rw [hl] at hf
    simp [Instr.lookup,run_underlying ht,hg,hc,hf]
theorem MapIs.lookup {t kt et:TypeId} (h:MapIs KK w b m) (ht:P.underlying t=some (.map kt et)) (hk:P.underlying kt=some KK.kind) {z:Value} (hz:(zeroValue et).run P w=.ok z w) (k:K) :
    (Instr.lookup t (.map (some b)) (KK.enc k) false).run P w=.ok ((look m k).getD z) w:=by
  obtain ⟨es,clock,hb,hf⟩:=h.find (t:=t) hk k
  have hc:∀ e,(Instr.checkKey e 10000 kt (KK.enc k)).run P w=.ok () w:=fun e=>KK.plain P kt e 9999 k w hk
  have hg:(getObj b).run P w=.ok (.map es clock) w:=by simp [getObj,Sem.run,hb]
  rcases hl:look m k with _ | v
  · rw [hl] at hf
    simp [Instr.lookup,run_underlying ht,hg,hc,hf,hz]
  · rw [hl] at hf
    simp [Instr.lookup,run_underlying ht,hg,hc,hf]
def setObjAt (w:World) (b:Nat) (o:Obj):World:={ w with heap:=w.heap.setIfInBounds b o }
theorem setObjAt_upd (w:World) (b:Nat) (o:Obj):Upd (fun k=>k=b) w (setObjAt w b o) :=
  ⟨rfl,rfl,rfl,by simp [setObjAt],fun k hk hn=>by simp only [setObjAt];rw [Array.getElem?_setIfInBounds,if_neg (fun h=>hn h.symm)]⟩
theorem setObjAt_at {w:World} {b:Nat} {o:Obj} (h:b < w.heap.size):(setObjAt w b o).heap[b]?=some o:=by
  simp [setObjAt,h]
theorem find_findIdx {α:Type} (p:α→Bool):∀ l:List α,l.find? p=l[l.findIdx p]?
  | []=>rfl
  | x :: l=>by
    cases h:p x
    · rw [List.find?_cons_of_neg (by simp [h]),List.findIdx_cons,h,find_findIdx p l];simp
    · rw [List.find?_cons_of_pos h,List.findIdx_cons,h];simp
theorem look_some {V:Type} {m:List (K × V)} {k:K} {u:V} (h:look m k=some u):∃ x,m[m.findIdx fun x=>decide (x.1=k)]?=some x∧x.1=k∧x.2=u:=by
  unfold look at h
  obtain ⟨x,hx,rfl⟩:=Option.map_eq_some_iff.1 h
  have hx':=hx
  rw [find_findIdx] at hx
  have:=List.find?_some hx'
  exact ⟨x,hx,by simpa using this,rfl⟩
theorem look_cons {V:Type} (x:K × V) (m:List (K × V)) (k:K):look (x :: m) k=if x.1=k then some x.2 else look m k:=by
  unfold look
  by_cases h:x.1=k
  · rw [List.find?_cons_of_pos (by simp [h]),if_pos h];rfl
  · rw [List.find?_cons_of_neg (by simp [h]),if_neg h]
section
variable {ops:Array Oper} {rest:List Oper} {o:Oper} {a:Act} {Q:Exit→Act→World→Prop}
theorem wpList_look_ok (hg:o.guard=none) (mm x:Operand) (t:TypeId) (hop:o.op=Op.lookup t mm x true) (kt et:TypeId) (ht:P.underlying t=some (.map kt et)) (hk:P.underlying kt=some KK.kind)
    (z:Value) (hz:∀ w,(zeroValue et).run P w=.ok z w) (k:K) (hm:a.eval mm=.map (some b)) (hx:a.eval x=KK.enc k) (h:MapIs KK w b m)
    (hK:wpList P ops Q rest (a.put o.dst (.tuple #[(look m k).getD z,.bool (look m k).isSome])) w):wpList P ops Q (o :: rest) a w:=by
  refine wpList_plain hg fun K' hK'=>?_
  have hrun:=h.lookup_ok ht hk (hz w) k
  unfold Oper.wp
  simp [execOp,hop,hm,hx,hrun,Result.andThen]
  exact hK' _ _ hK
theorem wpList_look (hg:o.guard=none) (mm x:Operand) (t:TypeId) (hop:o.op=Op.lookup t mm x false) (kt et:TypeId) (ht:P.underlying t=some (.map kt et)) (hk:P.underlying kt=some KK.kind)
    (z:Value) (hz:∀ w,(zeroValue et).run P w=.ok z w) (k:K) (hm:a.eval mm=.map (some b)) (hx:a.eval x=KK.enc k) (h:MapIs KK w b m)
    (hK:wpList P ops Q rest (a.put o.dst ((look m k).getD z)) w):wpList P ops Q (o :: rest) a w:=by
  refine wpList_plain hg fun K' hK'=>?_
  have hrun:=h.lookup ht hk (hz w) k
  unfold Oper.wp
  simp [execOp,hop,hm,hx,hrun,Result.andThen]
  exact hK' _ _ hK
end
theorem MapIs.lt (h:MapIs KK w b m):b < w.heap.size:=by
  obtain ⟨es,clock,hb,_⟩:=h
  exact (Array.getElem?_eq_some_iff.1 hb).1
end
end Go.Proofs.YtheeomjfpnijbaaGreatDoor
end
section
namespace Go.Proofs.YtheeomjfpnijbaaGreatDoor
open Go.RowKit Go.Shelf
attribute [local go_sem] Oper.semAt_some
theorem infoInt:(Tryz.prog.info? 3).map (fun i=>(i.zero,i.size,i.bytes))=some (some (.int .i64 0),1,8):=by kernel_rfl
set_option maxRecDepth 100000 in
set_option maxHeartbeats 2000000 in
theorem appendInts_in (F:Fence) (n:Nat) (hf:F.fn 284) (gf:Nat) (hg:F.fn gf) (eg:∀ args w,(callFunc gf args).run Tryz.prog w=.ok (.enter gf args) w) (hro:F.round=none) (hn:2≤n) (lb:Array Value) (N:Nat) (hN:N≤1000000000) (S Sp:List Int→Prop) (w:World)
    {Kp:World→World→Prop} (hKt:∀ {A B C:World},Kp A B→Kp B C→Kp A C) (hKb:∀ (W:World) (l:Nat) (o o':Obj),w.heap.size≤l→W.heap[l]?=some o→o.isCells=false→o.isWalk=false→Kp W (W.putObj l o')) (hKo:∀ W W',KeepsOthers W W'→Below w.heap.size W W'→Kp W W')
    (hseq:SeqStopsK F (n - 1) Tryz.prog gf lb (fun x:Int=>#[Value.int .i64 x]) Kp S Sp N w) :
    CallsIn F n Tryz.prog 284 #[.slice none 0 0,.func (.func gf) #[] lb] w fun e w'=>∃ v ys,e=.returned v∧S ys∧w'.ownsRow w.heap.size 3 1 v ys.length (ys.map (Value.int .i64))∧Below w.heap.size w w':=by
  have h1:1≤n:=by omega
  obtain ⟨i0,hi,hz0,hz1,hz2⟩:=info_parts infoInt
  refine callsIn_of_wp_marks Tryz.func284 rfl hf ?_ hro
  simp only [Tryz.ntmps284,List.size_toArray,List.length_cons,List.length_nil,Nat.reduceAdd,Nat.reduceSub,Array.replicate_succ,Array.replicate_zero,List.push_toArray,List.append_toArray,List.nil_append,List.cons_append]
  gi_wp2
  have bO:=Boxed.new w 107 (.slice none 0 0)
  have hB0:Below w.heap.size w (w.alloc (.cells #[.slice none 0 0] 107)):=(Below.refl _ w).alloc (Nat.le_refl _) _
  refine wpIn_rangeFunc_ownF hro h1 (gf:=gf) (lb:=lb) rfl hg eg
    hseq hKt (fun W l o o' h=>hKb W l o o' (by simp at h;omega)) hB0 (fun _=>rfl)
    (fun (pre:List Int) W=>(∃ v,Boxed W w.heap.size 107 v∧W.ownsRow w.heap.size 3 1 v pre.length (pre.map (Value.int .i64))∧True)∧Below w.heap.size w W)
    (fun _ _ _=>False)
    (OwnFrom.and (Own.from (holdsRow_own w.heap.size w.heap.size 107 3 1 (fun (pre:List Int)=>pre.length) (fun (pre:List Int)=>pre.map (Value.int .i64)) (fun _ _=>True)) _) (ownFrom_below (Nat.le_refl _) (by simp)))
    (fun _ _ _ _ _ hs _ _=>hs)
    ⟨⟨_,bO,World.ownsRow_nil _ _ _ _,trivial⟩,hB0⟩
    (fun x=>{ tmps:=#[.slice none 0 0,.func (.func gf) #[] lb,.pointer (some ⟨w.heap.size,0,none⟩),undef,.slice none 0 0,.int .i64 x,.func (.func gf) #[] lb,.int .i64 x,undef,undef,undef,undef,undef],defers:=[] }) ?assign ?body ?done ?stop
  case assign =>
    intro l x W K hK
    gi_wp2
    exact hK
  case body =>
    rintro l pre x W ⟨⟨v,hv,hrow,-⟩,hB⟩ hlt
    have hc:=hv.cell
    gi_wp2_with (gi_at_builtin;refine wpListIn_append_own _ rfl _ _ 107 rfl w.heap.size 3 i0 (.int .i64 0) 1 8 Tryz.underlying107 hi hz0 hz1 hz2 rfl (by decide) _ _ _ rfl (hrow.alloc _) ⟨W.heap.size,0,none⟩ 1 1 [.int .i64 x] rfl rfl (cell_one_new _ _ _) (by simp [Value.oneCell']) (by simp only [maxLen];omega) (by omega) (by have:=hB.size;simp;omega) ?_;intro v' w1 hown' hgrow _;obtain ⟨g',cap',rfl⟩:=ownsRow_succ hown';obtain ⟨hv1,hv2,hr2,hk2,hb2⟩:=hv.appended (by decide) hrow hB.size (Nat.le_refl _) hown' hgrow;have hc1:=hv1.cell;have hf1:=hv1.frozen)
    exact ⟨hk2,hKo _ _ hk2 hb2,⟨_,hv2,by rw [List.map_append,List.length_append,List.map_cons,List.map_nil];exact hr2,trivial⟩,hB.trans hb2⟩
  case done =>
    rintro D ys W hD hS ⟨⟨v,hv,hrow,-⟩,hB⟩ hK
    have hc:=hv.cell
    gi_wp2
    refine ⟨by simp,.inl ⟨_,_,rfl,run_takeDeferred hK,?_⟩⟩
    exact ⟨_,results_tmp rfl _ _ _,v,ys,rfl,hS,ownsRow_putObj hrow _ hK rfl,hB.trans (belowK_b (w:=w) (Nat.le_refl _) W D _ _ (by simp at hD;omega) hK rfl rfl)⟩
  case stop =>
    rintro D c pre W _ _ h _
    exact h.elim
set_option maxHeartbeats 1000000 in
theorem collectInts_in (F:Fence) (n:Nat) (hc:F.fn 259) (hf:F.fn 284) (gf:Nat) (hg:F.fn gf) (eg:∀ args w,(callFunc gf args).run Tryz.prog w=.ok (.enter gf args) w) (hro:F.round=none) (hn:3≤n) (lb:Array Value) (N:Nat) (hN:N≤1000000000) (S Sp:List Int→Prop) (w:World)
    {Kp:World→World→Prop} (hKt:∀ {A B C:World},Kp A B→Kp B C→Kp A C) (hKb:∀ (W:World) (l:Nat) (o o':Obj),w.heap.size≤l→W.heap[l]?=some o→o.isCells=false→o.isWalk=false→Kp W (W.putObj l o')) (hKo:∀ W W',KeepsOthers W W'→Below w.heap.size W W'→Kp W W')
    (hseq:SeqStopsK F (n - 1 - 1) Tryz.prog gf lb (fun x:Int=>#[Value.int .i64 x]) Kp S Sp N w) :
    CallsIn F n Tryz.prog 259 #[.func (.func gf) #[] lb] w fun e w'=>∃ v ys,e=.returned v∧S ys∧w'.ownsRow w.heap.size 3 1 v ys.length (ys.map (Value.int .i64))∧Below w.heap.size w w':=by
  have h1:1≤n:=by omega
  refine callsIn_of_wp Tryz.func259 rfl hc ?_ hro
  simp only [Tryz.ntmps259,List.size_toArray,List.length_cons,List.length_nil,Nat.reduceAdd,Nat.reduceSub,Array.replicate_succ,Array.replicate_zero,List.push_toArray,List.append_toArray,List.nil_append,List.cons_append]
  have hcall:=appendInts_in F (n - 1) hf gf hg eg hro (by omega) lb N hN S Sp w (Kp:=Kp) hKt hKb hKo hseq
  gi_wp2_with (gi_at_call 284;refine (appendInts_in F (n - 1) hf gf hg eg hro (by omega) lb N hN S Sp w (Kp:=Kp) hKt hKb hKo hseq).mono ?_;rintro e w' ⟨v,ys,rfl,hS,hrow,hb⟩)
  go_ret
  exact ⟨v,ys,rfl,hS,hrow,hb⟩
end Go.Proofs.YtheeomjfpnijbaaGreatDoor
namespace Go.Proofs.YtheeomjfpnijbaaGreatDoor
open Go.RowKit Go.Shelf
attribute [local go_sem] Oper.semAt_some
set_option maxRecDepth 100000 in
set_option maxHeartbeats 1000000 in
theorem len64_zero (w:World):Calls Tryz.prog 277 #[.int .u64 0] w fun e w'=>e=.returned (.int .i64 0)∧w'=w:=by
  go_enter Tryz.func277,Tryz.ntmps277
  go_wp2
  go_ret
  exact ⟨by kernel_rfl,rfl⟩
set_option maxRecDepth 100000 in
set_option maxHeartbeats 1000000 in
theorem len_zero (w:World):Calls Tryz.prog 232 #[.int .u64 0] w fun e w'=>e=.returned (.int .i64 0)∧w'=w:=by
  go_enter Tryz.func232,Tryz.ntmps232
  go_wp2_with fail
  refine (len64_zero _).mono ?_
  rintro e w' ⟨rfl,rfl⟩
  go_wp2
  go_ret
  exact ⟨rfl,rfl⟩
set_option maxHeartbeats 1000000 in
theorem insert_zero (v u:Value) (w:World):Calls Tryz.prog 267 #[v,.int .i64 0,.int .i64 0] w fun e w'=>(∃ x,e=.returned x)∧w'=w:=by
  go_enter Tryz.func267,Tryz.ntmps267
  go_wp2
  go_loopw [6] (fun i wr=>i=.int .i64 1∧wr=w) (fun _ _=>0)
  case atStart=>exact ⟨rfl,rfl⟩
  case round =>
    obtain ⟨rfl,rfl⟩:=hrel
    go_wp2
    go_end0
    exact ⟨⟨_,rfl⟩,rfl⟩
set_option maxHeartbeats 1000000 in
theorem insertF_zero (v u:Value) (w:World):Calls Tryz.prog 310 #[v,.int .i64 0,.int .i64 0,u] w fun e w'=>(∃ x,e=.returned x)∧w'=w:=by
  go_enter Tryz.func310,Tryz.ntmps310
  go_wp2
  go_loopw [8] (fun i wr=>i=.int .i64 1∧wr=w) (fun _ _=>0)
  case atStart=>exact ⟨rfl,rfl⟩
  case round =>
    obtain ⟨rfl,rfl⟩:=hrel
    go_wp2
    go_end0
    exact ⟨⟨_,rfl⟩,rfl⟩
set_option maxHeartbeats 1000000 in
theorem pdq_zero (v u:Value) (l:Int) (w:World):Calls Tryz.prog 231 #[v,.int .i64 0,.int .i64 0,.int .i64 l] w fun e w'=>(∃ x,e=.returned x)∧w'=w:=by
  go_enter Tryz.func231,Tryz.ntmps231
  go_wp2_with fail
  go_loopw [1,2,3,8,9] (fun i j k p q wr=>i=.int .i64 0∧j=.int .i64 0∧k=.int .i64 l∧p=.bool true∧q=.bool true∧wr=w) (fun _ _ _ _ _ _=>0)
  case atStart=>exact ⟨rfl,rfl,rfl,rfl,rfl,rfl⟩
  case round =>
    obtain ⟨rfl,rfl,rfl,rfl,rfl,rfl⟩:=hrel
    go_wp2_with fail
    refine (insert_zero v u _).mono ?_
    rintro e w' ⟨⟨x,rfl⟩,rfl⟩
    go_wp2
    go_returns
    exact ⟨⟨_,rfl⟩,rfl⟩
set_option maxHeartbeats 1000000 in
theorem pdqF_zero (v u:Value) (l:Int) (w:World):Calls Tryz.prog 305 #[v,.int .i64 0,.int .i64 0,.int .i64 l,u] w fun e w'=>(∃ x,e=.returned x)∧w'=w:=by
  go_enter Tryz.func305,Tryz.ntmps305
  go_wp2_with fail
  go_loopw [1,2,3,10,11] (fun i j k p q wr=>i=.int .i64 0∧j=.int .i64 0∧k=.int .i64 l∧p=.bool true∧q=.bool true∧wr=w) (fun _ _ _ _ _ _=>0)
  case atStart=>exact ⟨rfl,rfl,rfl,rfl,rfl,rfl⟩
  case round =>
    obtain ⟨rfl,rfl,rfl,rfl,rfl,rfl⟩:=hrel
    go_wp2_with fail
    refine (insertF_zero v u _).mono ?_
    rintro e w' ⟨⟨x,rfl⟩,rfl⟩
    go_wp2
    go_returns
    exact ⟨⟨_,rfl⟩,rfl⟩
set_option maxHeartbeats 1000000 in
theorem sort_zero (p:Option Addr) (c:Nat) (w:World):Calls Tryz.prog 173 #[.slice p 0 c] w fun e w'=>(∃ x,e=.returned x)∧w'=w:=by
  go_enter Tryz.func173,Tryz.ntmps173
  go_wp2_with fail
  refine (len_zero _).mono ?_
  rintro e w' ⟨rfl,rfl⟩
  go_wp2_with fail
  refine (pdq_zero _ undef _ _).mono ?_
  rintro e w' ⟨⟨x,rfl⟩,rfl⟩
  go_wp2
  go_end0
  exact ⟨⟨_,rfl⟩,rfl⟩
set_option maxHeartbeats 1000000 in
theorem sortFunc_zero (p:Option Addr) (c:Nat) (u:Value) (w:World):Calls Tryz.prog 295 #[.slice p 0 c,u] w fun e w'=>(∃ x,e=.returned x)∧w'=w:=by
  go_enter Tryz.func295,Tryz.ntmps295
  go_wp2_with fail
  refine (len_zero _).mono ?_
  rintro e w' ⟨rfl,rfl⟩
  go_wp2_with fail
  refine (pdqF_zero _ _ _ _).mono ?_
  rintro e w' ⟨⟨x,rfl⟩,rfl⟩
  go_wp2
  go_end0
  exact ⟨⟨_,rfl⟩,rfl⟩
theorem own_zero {w:World} {base n size:Nat} {e:TypeId} {v:Value} {xs:List Value} (h:w.ownsRow base e size v n xs):∃ p c,v=.slice p n c:=by
  rcases h.2 with ⟨rfl,rfl⟩ | ⟨g,cap,cur,rfl,hb,hh,h1,h2,_⟩
  · exact ⟨none,0,rfl⟩
  · exact ⟨_,cap,rfl⟩
theorem keys_any (m:Option Nat) (w:World):Calls Tryz.prog 286 #[.map m] w fun e w'=>e=.returned (.func (.func 296) #[] #[.pointer (some ⟨w.heap.size,0,none⟩)])∧w'=w.alloc (.cells #[.map m] 257):=by
  go_enter Tryz.func286,Tryz.ntmps286
  go_wp2
  go_ret
  exact ⟨rfl,rfl⟩
end Go.Proofs.YtheeomjfpnijbaaGreatDoor
end
