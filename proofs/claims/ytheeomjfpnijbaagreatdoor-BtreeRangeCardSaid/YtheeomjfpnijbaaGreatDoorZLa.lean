/- Lemmas: Open2, OpenDo7, LawBrLa. -/
import Derived.Test.YtheeomjfpnijbaaGreatDoorZOp
import Derived.Test.YtheeomjfpnijbaaGreatDoorRows
import Derived.Test.YtheeomjfpnijbaaGreatDoorCards
import Derived.Test.YtheeomjfpnijbaaGreatDoorTie
set_option linter.unusedVariables false
section
namespace Go.Proofs.YtheeomjfpnijbaaGreatDoor
open Go.ChangeShapes Go.WideShapes Go.ChangeAt Go.RowKit
section
variable {H:Type} {enc:TypeId × Value→H} {W:World}
abbrev TrodF (enc:TypeId × Value→H) (W:World) (n:Nat) (t:TypeId) (cs:List Value) (x:DataW H × List MemPlace):Prop :=
  DataW.trod enc Tryz.prog W 0 (fun _=>true) true n t cs=some x
theorem struct_field {t:TypeId} {fuel:Nat} {cs:List Value} {x:DataW H × List MemPlace} (ht:Tryz.prog.underlying t=some (.struct (Tryz.prog.fieldsOf t))) (h:TrodF enc W fuel t cs x)
    (i:Nat) (ft:TypeId) (off k:Nat) (hf:((Tryz.prog.fieldsOf t)[i]?).map (fun f=>(f.type,f.offset))=some (ft,off)) (hk:Tryz.prog.cellsOf ft=k) :
    ∃ n y,TrodF enc W n ft ((cs.drop off).take k) y:=by
  obtain ⟨xs,n,_,_,_,hl,hx⟩:=DataW.trod_struct ht h
  obtain ⟨f,hf1,hf2⟩:=Option.map_eq_some_iff.1 hf
  simp only [Prod.mk.injEq] at hf2
  obtain ⟨rfl,rfl⟩:=hf2
  subst hk
  have hi:i < xs.length:=by rw [hl];exact (Array.getElem?_eq_some_iff.1 hf1).1
  exact ⟨n,xs[i],by rw [TrodF,hx i f hf1,List.getElem?_eq_getElem hi]⟩
theorem struct_len {t:TypeId} {fuel:Nat} {cs:List Value} {x:DataW H × List MemPlace} (ht:Tryz.prog.underlying t=some (.struct (Tryz.prog.fieldsOf t))) (h:TrodF enc W fuel t cs x):cs.length=Tryz.prog.cellsOf t:=by
  obtain ⟨_,_,_,_,hl,_⟩:=DataW.trod_struct ht h
  exact hl
theorem list_of {α:Type} (R:Nat→α→Prop):∀ n,(∀ i,i < n→∃ x,R i x)→∃ l:List α,l.length=n∧∀ i (h:i < l.length),R i l[i]
  | 0,_=>⟨[],rfl,fun i h=>absurd h (Nat.not_lt_zero _)⟩
  | n+1,h=>by
    obtain ⟨l,hl,hr⟩:=list_of R n (fun i hi=>h i (by omega))
    obtain ⟨x,hx⟩:=h n (by omega)
    refine ⟨l++[x],by simp [hl],fun i hi=>?_⟩
    rcases Nat.lt_or_ge i l.length with h' | h'
    · rw [List.getElem_append_left h'];exact hr i h'
    · have:i=l.length:=by simp at hi;omega
      subst this
      simpa [hl] using hx
theorem cells_at {a:Addr} {k:Nat} {cs:List Value} (h:W.cells? 0 a k=some cs):cs.length=k∧∀ i v,cs[i]?=some v→W.cell? (a.add i)=some v:=by
  unfold World.cells? at h
  rw [if_pos (Nat.zero_le _)] at h
  have key:∀ (n:Nat) (cs:List Value),(List.range n).mapM (fun i=>W.cell? (a.add i))=some cs→cs.length=n∧∀ i v,cs[i]?=some v→W.cell? (a.add i)=some v:=by
    intro n
    induction n with
    | zero=>intro cs h;simp at h;subst h;exact ⟨rfl,fun i v h=>by simp at h⟩
    | succ n ih =>
      intro cs h
      rw [List.range_succ,List.mapM_append] at h
      obtain ⟨xs,hxs,hb⟩:=Option.bind_eq_some_iff.1 h
      obtain ⟨ys,hys,hb⟩:=Option.bind_eq_some_iff.1 hb
      rw [List.mapM_cons,List.mapM_nil] at hys
      obtain ⟨y,hy,hb2⟩:=Option.bind_eq_some_iff.1 hys
      obtain rfl:ys=[y]:=by simpa using hb2.symm
      obtain rfl:cs=xs++[y]:=by simpa using hb.symm
      obtain ⟨hl,hx⟩:=ih xs hxs
      refine ⟨by simp [hl],fun i v hv=>?_⟩
      rcases Nat.lt_or_ge i xs.length with h' | h'
      · rw [List.getElem?_append_left h'] at hv;exact hx i v hv
      · rw [List.getElem?_append_right h'] at hv
        have:i - xs.length=0:=by
          have:=(List.getElem?_eq_some_iff.1 hv).1
          simp at this
          omega
        rw [this] at hv
        simp at hv
        subst hv
        rwa [show i=n from by omega]
  exact key k cs h
theorem flat_get' {α:Type} (f:α→List Value) (c:Nat):∀ (es:List α),(∀ x∈es,(f x).length=c)→∀ (i:Nat) (v:Value),(es.flatMap f)[i]?=some v→∃ (k j:Nat) (h:k < es.length),i=k * c+j∧j < c∧(f es[k])[j]?=some v
  | [],_,i,v,h=>by simp at h
  | y :: es,hc,i,v,h=>by
    rw [List.flatMap_cons] at h
    have hy:=hc y (by simp)
    rcases Nat.lt_or_ge i (f y).length with h' | h'
    · rw [List.getElem?_append_left h'] at h
      exact ⟨0,i,by simp,by omega,by omega,by simpa using h⟩
    · rw [List.getElem?_append_right h'] at h
      obtain ⟨k,j,hk,e,hj,hv⟩:=flat_get' f c es (fun x hx=>hc x (by simp [hx])) _ v h
      exact ⟨k+1,j,by simp;omega,by rw [Nat.succ_mul];omega,hj,by simpa using hv⟩
theorem open_slice_of {α:Type} (f:α→List Value) {t e:TypeId} {k:Nat} {a:Option Addr} {n c:Nat} {d:DataW H} {p:List MemPlace} (ht:Tryz.prog.underlying t=some (.slice e)) (hk:Tryz.prog.cellsOf e=k) (hk0:0 < k)
    (hf:∀ m cs y,TrodF enc W m e cs y→∃ x,cs=f x) (hl:∀ x,(f x).length=k)
    (h:DataW.Trod enc Tryz.prog W 0 (fun _=>true) true t (.slice a n c) d p) :
    ∃ es:List α,es.length=n∧Cells W a (es.flatMap f)∧n≤c∧c≤maxLen:=by
  obtain ⟨fuel,hfu⟩:=h
  rcases DataW.trod_slice ht hfu with ⟨hcs,_⟩ | ⟨x,len,cap,elems,rest,m,_,hcs,_,hb,hlc,hcm,hel,he,_⟩
  · simp [Value.cells] at hcs
    obtain ⟨rfl,rfl,rfl⟩:=hcs
    exact ⟨[],rfl,Cells.nil _ _,Nat.le_refl _,by decide⟩
  · simp [Value.cells] at hcs
    obtain ⟨rfl,rfl,rfl⟩:=hcs
    rw [hk] at he
    obtain ⟨es,hes,hr⟩:=list_of (fun i (x':α)=>W.cells? 0 (x.add (i * k)) k=some (f x')) n (fun i hi=>by
      have h1:=he i hi
      rw [List.getElem?_eq_getElem (by omega)] at h1
      obtain ⟨cs,hc1,hc2⟩:=Option.bind_eq_some_iff.1 h1
      obtain ⟨x',rfl⟩:=hf _ _ _ hc2
      exact ⟨x',hc1⟩)
    refine ⟨es,hes,fun hne=>?_,hlc,hcm⟩
    have hpos:0 < es.length:=by
      rcases es with _ | ⟨y,es⟩
      · simp at hne
      · simp
    obtain ⟨b,o,sp⟩:=x
    obtain rfl:sp=none:=by
      have h0:=(cells_at (hr 0 hpos)).2 0 ((f es[0])[0]'(by rw [hl];exact hk0)) (List.getElem?_eq_getElem _)
      simpa [Addr.add] using World.cell?_spot h0
    refine ⟨b,o,rfl,fun i v hv=>?_⟩
    obtain ⟨k',j,hk',rfl,hj,hv'⟩:=flat_get' f k es (fun x _=>hl x) i v hv
    have:=(cells_at (hr k' hk')).2 j v hv'
    rwa [Go.WideShapes.add_plain,Go.WideShapes.add_plain,Nat.add_assoc] at this
end
end Go.Proofs.YtheeomjfpnijbaaGreatDoor
end
section
namespace Go.Proofs.YtheeomjfpnijbaaGreatDoor
open Go.ChangeShapes Go.WideShapes Go.ChangeAt Go.RowKit
section
variable {H:Type} {enc:TypeId × Value→H} {W:World}
structure Do7 where
  op:Int
  n:Int
  key:ByteArray
  val:ByteArray
def do7Cells (d:Do7):List Value:=[.int .i64 d.op,.int .i64 d.n,.string d.key,.string d.val]
theorem und7:Tryz.prog.underlying 27=some (.struct (Tryz.prog.fieldsOf 27)):=by kernel_rfl
theorem cells7:Tryz.prog.cellsOf 27=4:=by kernel_rfl
theorem cells7I:Tryz.prog.cellsOf 3=1:=by kernel_rfl
theorem cells7S:Tryz.prog.cellsOf 9=1:=by kernel_rfl
theorem open_do7 {m:Nat} {cs:List Value} {y:DataW H × List MemPlace} (h:TrodF enc W m 27 cs y):∃ x:Do7,cs=do7Cells x:=by
  have hl:=struct_len und7 h
  rw [cells7] at hl
  obtain ⟨a,b,c,d,rfl⟩:∃ a b c d,cs=[a,b,c,d]:=by
    match cs,hl with
    | [a,b,c,d],_=>exact ⟨a,b,c,d,rfl⟩
  obtain ⟨n0,y0,h0⟩:=struct_field und7 h 0 3 0 1 (by kernel_rfl) cells7I
  obtain ⟨n1,y1,h1⟩:=struct_field und7 h 1 3 1 1 (by kernel_rfl) cells7I
  obtain ⟨n2,y2,h2⟩:=struct_field und7 h 2 9 2 1 (by kernel_rfl) cells7S
  obtain ⟨n3,y3,h3⟩:=struct_field und7 h 3 9 3 1 (by kernel_rfl) cells7S
  obtain ⟨s0,e0,_,_⟩:=DataW.trod_int Tryz.underlying3 h0
  obtain ⟨s1,e1,_,_⟩:=DataW.trod_int Tryz.underlying3 h1
  obtain ⟨s2,e2,_⟩:=DataW.trod_string Tryz.underlying9 h2
  obtain ⟨s3,e3,_⟩:=DataW.trod_string Tryz.underlying9 h3
  simp at e0 e1 e2 e3
  subst e0 e1 e2 e3
  exact ⟨⟨s0,s1,s2,s3⟩,rfl⟩
theorem open_dos7 {a:Option Addr} {n c:Nat} {d:DataW H} {p:List MemPlace}
    (h:DataW.Trod enc Tryz.prog W 0 (fun _=>true) true 22 (.slice a n c) d p) :
    ∃ es:List Do7,es.length=n∧Cells W a (es.flatMap do7Cells)∧n≤c∧c≤maxLen :=
  open_slice_of do7Cells Tryz.underlying22 cells7 (by omega) (fun m cs y h=>open_do7 h) (fun x=>rfl) h
end
end Go.Proofs.YtheeomjfpnijbaaGreatDoor
end
section
namespace Go.Proofs.YtheeomjfpnijbaaGreatDoor.btreeRange
open Go.ChangeShapes Go.WideShapes Go.ChangeAt Go.RowKit
open Go.ChangeMaps (open_string shut_string)
set_option maxRecDepth 100000 in
theorem lifted (hw:∀ (a0:Option Addr) (n0 c0:Nat) (xs0:List Do7) (a1:ByteArray) (a2:Int) (W:World),Halves W→0 < W.heap.size→xs0.length=n0→Cells W a0 (xs0.flatMap do7Cells)→n0≤c0→c0≤maxLen→Calls Tryz.prog 3 #[.slice a0 n0 c0,.string a1,.int .i64 a2] W fun e w'=>e=.returned (.bool true)∧Below W.heap.size W w') (os:Os) (started:os.Started) (H:Type) (enc:TypeId × Value→H) :
    ReturnsInHanded {} Tryz.checked os 3 .any (fun w args=>(Rows.btreeRangeSpec.pre enc Tryz.prog Tryz.f3 Rows.btreeRangeRow.domain false w args∧laidMetH Tryz.prog Rows.btreeRangeRow.laid w)∧sizedMet enc Tryz.prog Tryz.f3 (OpenSpec.ofChange Rows.btreeRangeSpec) false w args)
      (Rows.btreeRangeSpec.post enc Tryz.prog Tryz.f3 false true false false):=by
  refine returnsInHanded_of_change_and (C:=Tryz.checked) (X:=fun w _=>laidMetH Tryz.prog Rows.btreeRangeRow.laid w) (fun _ _ _ hh h=>h.of_heap hh) own started (by kernel_rfl) Tryz.func3
    (ChangeSpec.witness_shaped (enc:=enc) (C:=Tryz.checked) (os:=os) (X:=fun w _=>laidMetH Tryz.prog Rows.btreeRangeRow.laid w) false (World.laidAll Tryz.prog os Rows.btreeRangeRow.laid) #[.slice none 0 0,.string ⟨#[]⟩,.int .i64 0] 8 (World.laidAll_os _ _ _)
      (World.shaped_of_ZipB (by kernel_rfl) (by kernel_rfl)) (by kernel_rfl) (by kernel_rfl) (by kernel_rfl)
      (by rw [MakeChecks.laidMetH_plain _ _ _ (by kernel_rfl)];exact laidMet_laidAll _ (by kernel_rfl) (by kernel_rfl))) ?_
  intro W base args ds gs before hval0 hW hcnd hsz0 hLaid _
  have hsz:(DataW.weightsEach Tryz.prog (Tryz.f3.params.toList++Rows.btreeRangeSpec.plain.varTypes Tryz.prog) (ds++gs)).all (·≤reachBytes)=true:=hsz0
  clear hsz0
  have hT:Halves W:=halves_of_laid hLaid (by kernel_rfl) (by unfold Rows.btreeRangeRow;simp)
  have hval:∀ (j:Nat) t v,Tryz.f3.params[j]?=some t→args[j]?=some v→Value.okWide Tryz.prog W .any base t v:=hval0
  have hW':=hW
  obtain ⟨p,q,hA0,hV,rfl,hfz,hnd⟩:=hW
  have hA:DataW.TrodAll enc Tryz.prog W 0 (fun _=>true) true Tryz.f3.params.toList args.toList ds p:=hA0
  rw [Tryz.params3] at hA hval hsz
  obtain ⟨v0,vs0,d0,ds0,p0,q0,hargs,rfl,rfl,h0,r0⟩:=trodAll_cons hA
  obtain ⟨v1,vs1,d1,ds1,p1,q1,rfl,rfl,rfl,h1,r1⟩:=trodAll_cons r0
  obtain ⟨v2,vs2,d2,ds2,p2,q2,rfl,rfl,rfl,h2,r2⟩:=trodAll_cons r1
  obtain ⟨rfl,rfl,rfl⟩:=trodAll_nil r2
  obtain rfl:args=#[v0,v1,v2]:=by cases args;simp_all
  obtain ⟨rfl,rfl⟩:=trodVars_none hV
  obtain ⟨a0,n0,c0,rfl⟩:=okWide_slice Tryz.underlying22 (hval 0 22 v0 rfl rfl)
  have k0:=h0
  have lt0:∀ x∈p0,x.block < W.heap.size:=by obtain ⟨m,hm⟩:=k0;exact DataW.trod_lt m _ _ _ hm
  obtain ⟨xs0,hx0,hr0,hc0,hm0⟩:=open_dos7 h0
  obtain ⟨a1,rfl,rfl,rfl,w1⟩:=open_string Tryz.underlying9 (hval 1 9 v1 rfl rfl) h1
  obtain ⟨a2,rfl,rfl,rfl,w2⟩:=open_int Tryz.underlying3 (hval 2 3 v2 rfl rfl) h2
  clear hA0 hval0
  refine (hw a0 n0 c0 xs0 a1 a2 W hT (cell_lt (hT 0)) hx0 hr0 hc0 hm0).mono fun e W' ⟨he,bel⟩=>?_
  subst he
  exact ⟨_,rfl,_,_,_,[],_,[],hW',trodAll_mk1 (shut_bool Tryz.underlying4 _),(trodAll_cons_mk (Below.trod laidOut (by kernel_rfl) (of_decide_eq_true (by kernel_rfl)) k0 bel lt0) (trodAll_cons_mk (shut_string Tryz.underlying9 w1) (trodAll_cons_mk (shut_int Tryz.underlying3 w2) trodAll_mk0))),rfl,bel.frame _,fun h=>by cases h⟩
theorem over (hw:∀ (a0:Option Addr) (n0 c0:Nat) (xs0:List Do7) (a1:ByteArray) (a2:Int) (W:World),Halves W→0 < W.heap.size→xs0.length=n0→Cells W a0 (xs0.flatMap do7Cells)→n0≤c0→c0≤maxLen→Calls Tryz.prog 3 #[.slice a0 n0 c0,.string a1,.int .i64 a2] W fun e w'=>e=.returned (.bool true)∧Below W.heap.size W w'):Rows.btreeRangeRow.holds Tryz.pinned (OpenSpec.ofChange Rows.btreeRangeSpec) :=
  OpenClaim.holds_of_wide 3 Tryz.f3 rfl rfl rfl rfl rfl rfl rfl ⟨rfl,rfl,rfl,rfl,rfl⟩ rfl rfl rfl rfl rfl (by kernel_rfl) Tryz.func3 closed
    (of_decide_eq_true (by kernel_rfl)) (by unfold Func.isWrapper;first | (rw [if_pos (by decide +kernel)];kernel_rfl) | (rw [if_neg (by decide +kernel)];exact ⟨rfl,rfl⟩))
    (fun os started H enc _=>lifted hw os started H enc)
theorem plain (f : FuncId) (fn : Func) (hf : Tryz.pinned.checked.prog.funcNamed "rostrum/rostrumlaw07.BtreeRange" = some f) (hfn : Tryz.pinned.checked.prog.funcs[f]? = some fn) :
    false=Tryz.pinned.checked.prog.looks []∧∀ (j:Nat) t,fn.params[j]?=some t→Tryz.pinned.checked.prog.wantsStandIn t=false:=by
  obtain rfl : f = 3 := Option.some.inj ((show Tryz.prog.funcNamed "rostrum/rostrumlaw07.BtreeRange" = some 3 by kernel_rfl).symm.trans hf) |>.symm
  obtain rfl:fn=Tryz.f3:=(Option.some.inj (Tryz.func3.symm.trans hfn)).symm
  refine ⟨by kernel_rfl,fun j t ht=>?_⟩
  rw [Tryz.params3] at ht
  have hm:t∈[22,9,3]:=by simpa using Array.mem_of_getElem? ht
  have hall:([22,9,3].all fun u=>!Tryz.prog.wantsStandIn u)=true:=by kernel_rfl
  exact (show Tryz.prog.wantsStandIn t=false by simpa using List.all_eq_true.1 hall t hm)
theorem proved_of (hw:∀ (a0:Option Addr) (n0 c0:Nat) (xs0:List Do7) (a1:ByteArray) (a2:Int) (W:World),Halves W→0 < W.heap.size→xs0.length=n0→Cells W a0 (xs0.flatMap do7Cells)→n0≤c0→c0≤maxLen→Calls Tryz.prog 3 #[.slice a0 n0 c0,.string a1,.int .i64 a2] W fun e w'=>e=.returned (.bool true)∧Below W.heap.size W w'):Rows.BtreeRangeCardSaid :=
  Claim7.holds_tied_plain_at .later [] _ _ _ _ (over hw) (fun _ h=>by cases h) (by kernel_rfl) (fun _ h=>by cases h) btreeRange_row_tie rfl ⟨rfl,rfl⟩ (by kernel_rfl) rfl plain (by kernel_rfl)
end Go.Proofs.YtheeomjfpnijbaaGreatDoor.btreeRange
end
