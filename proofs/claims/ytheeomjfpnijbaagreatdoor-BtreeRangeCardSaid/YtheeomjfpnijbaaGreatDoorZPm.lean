/- Lemmas: PoolMap, PoolAt, PoolOrder, MapRange. -/
import Derived.Test.YtheeomjfpnijbaaGreatDoorZMa
import Derived.Test.YtheeomjfpnijbaaGreatDoorShelf
import Derived.Maps.OwnSet
import Derived.Maps.RangeWalk
set_option linter.unusedVariables false
section
namespace Go.Proofs.YtheeomjfpnijbaaGreatDoor
open Go.RowKit Go.MapKept
def MapZ (w:World) (b:Nat) (m:List (Int × Value)):Prop :=
  ∃ es clock,w.heap[b]?=some (.map es clock)∧es.toList.map (fun e=>(e.key,e.val))=m.map (fun x=>(intKeys.enc x.1,x.2))∧Stamped es clock∧m.length≤100000∧∀ x∈m,-9223372036854775808≤x.1∧x.1 < 9223372036854775808
variable {P:Program} {w:World} {b:Nat} {m:List (Int × Value)}
theorem MapZ.is (h:MapZ w b m):MapIs intKeys w b m:=by
  obtain ⟨es,c,h1,h2,-⟩:=h
  exact ⟨es,c,h1,h2⟩
theorem MapZ.lt (h:MapZ w b m):b < w.heap.size:=h.is.lt
theorem MapZ.upd {S:Nat→Prop} {w':World} (h:MapZ w b m) (hu:Upd S w w') (hS:¬ S b):MapZ w' b m:=by
  have hl:=h.lt
  obtain ⟨es,c,h1,h2⟩:=h
  exact ⟨es,c,(hu.block b hl hS).trans h1,h2⟩
theorem MapZ.nodup (h:MapZ w b m):(m.map (·.1)).Nodup:=by
  obtain ⟨es,c,h1,h2,h3,-⟩:=h
  have e:es.toList.map (·.key)=(m.map (·.1)).map intKeys.enc:=by
    have:=congrArg (List.map Prod.fst) h2
    simpa [List.map_map,Function.comp_def] using this
  have h4:(es.toList.map (·.key)).Nodup:=h3.2.2
  rw [e] at h4
  exact (List.pairwise_map.1 h4).imp fun {a b} hne he=>hne (by rw [he])
theorem MapZ.made (w:World):MapZ (w.alloc (.map #[] 0)) w.heap.size [] :=
  ⟨#[],0,heap_alloc_new w _,rfl,stamped_empty 0,by simp,by simp⟩
theorem MapZ.len {t kt et:TypeId} (h:MapZ w b m) (ht:P.underlying t=some (.map kt et)) (ty:TypeId):(Builtin.len_ #[t] ty #[.map (some b)]).run P w=.ok (.int .i64 m.length) w:=by
  obtain ⟨es,c,h1,h2,-⟩:=h
  have hl:es.size=m.length:=by simpa using congrArg List.length h2
  simp [Builtin.len_,run_underlying ht,show (getObj b).run P w=.ok (.map es c) w from by simp [getObj,Sem.run,h1],goInt,Result.andThen,hl]
theorem MapZ.insert {t kt et:TypeId} (h:MapZ w b m) (ht:P.underlying t=some (.map kt et)) (hk:P.underlying kt=some (.int .i64)) (k:Int) (v:Value) (hn:look m k=none) (hr:m.length < 100000) (hk1:-9223372036854775808≤k) (hk2:k < 9223372036854775808) :
    ∃ w',(Instr.mapUpdate t (.map (some b)) (.int .i64 k) v).run P w=.ok () w'∧MapZ w' b (m++[(k,v)])∧Upd (fun i=>i=b) w w':=by
  obtain ⟨es0,clock0,hb0,hf⟩:=h.is.find (t:=t) hk k
  have hlt:=h.lt
  obtain ⟨es,clock,hb,he,hs,hl,hw⟩:=h
  obtain ⟨rfl,rfl⟩:es0=es∧clock0=clock:=by rw [hb0] at hb;cases hb;exact ⟨rfl,rfl⟩
  have hc:(Instr.checkKey false 10000 kt (intKeys.enc k)).run P w=.ok () w:=intKeys.plain P kt false 9999 k w hk
  have hg:(getObj b).run P w=.ok (.map es0 clock0) w:=by simp [getObj,Sem.run,hb]
  have hso:∀ o,(setObj b o).run P w=.ok () (setObjAt w b o):=fun o=>by simp [setObj,Sem.run,hb,setObjAt]
  rw [hn] at hf
  have hc':(Instr.checkKey false 10000 kt (.int .i64 k)).run P w=.ok () w:=hc
  have hf':(Instr.findKey kt (.int .i64 k) es0.toList).run P w=.ok none w:=hf
  have hkeys:∀ x∈es0.toList,x.key ≠ intKeys.enc k:=by
    intro x hx hxe
    have:(x.key,x.val)∈es0.toList.map (fun e=>(e.key,e.val)):=List.mem_map.2 ⟨x,hx,rfl⟩
    rw [he] at this
    obtain ⟨y,hy,hye⟩:=List.mem_map.1 this
    simp only [Prod.mk.injEq] at hye
    have hyk:y.1=k:=by have e:=hye.1.trans hxe;simpa [intKeys] using e
    unfold look at hn
    rw [Option.map_eq_none_iff,List.find?_eq_none] at hn
    exact hn y hy (by simp [hyk])
  refine ⟨setObjAt w b (.map (es0.push { key:=intKeys.enc k,val:=v,born:=clock0 }) (clock0+1)),?_,⟨_,_,setObjAt_at hlt,?_,stamped_push hs hkeys,by simp;omega,?_⟩,setObjAt_upd _ _ _⟩
  · show (Instr.mapUpdate t (.map (some b)) (.int .i64 k) v).run P w=_
    simp [Instr.mapUpdate,run_underlying ht,hg,hc',hf',hso]
    rfl
  · simp [he]
  · intro x hx
    rcases List.mem_append.1 hx with h | h
    · exact hw x h
    · simp at h
      subst h
      exact ⟨hk1,hk2⟩
theorem eraseIdx_of_map {α β:Type} (f:α→β):∀ (l:List α) (i:Nat),(l.map f).eraseIdx i=(l.eraseIdx i).map f
  | [],i=>by simp
  | x :: l,0=>rfl
  | x :: l,i+1=>by simp [eraseIdx_of_map f l i]
def del {V:Type} (m:List (Int × V)) (k:Int):List (Int × V):=m.eraseIdx (m.findIdx fun x=>decide (x.1=k))
theorem MapZ.delete {t kt et:TypeId} (h:MapZ w b m) (ht:P.underlying t=some (.map kt et)) (hk:P.underlying kt=some (.int .i64)) (k:Int) (ty:TypeId) {u:Value} (hn:look m k=some u) :
    ∃ w',(Builtin.delete_ #[t,kt] ty #[.map (some b),.int .i64 k]).run P w=.ok (.tuple #[]) w'∧MapZ w' b (del m k)∧Upd (fun i=>i=b) w w':=by
  obtain ⟨es0,clock0,hb0,hf⟩:=h.is.find (t:=t) hk k
  have hlt:=h.lt
  obtain ⟨es,clock,hb,he,hs,hl,hw⟩:=h
  obtain ⟨rfl,rfl⟩:es0=es∧clock0=clock:=by rw [hb0] at hb;cases hb;exact ⟨rfl,rfl⟩
  have hc:∀ e,(Instr.checkKey e 10000 kt (.int .i64 k)).run P w=.ok () w:=fun e=>intKeys.plain P kt e 9999 k w hk
  have hg:(getObj b).run P w=.ok (.map es0 clock0) w:=by simp [getObj,Sem.run,hb]
  have hso:∀ o,(setObj b o).run P w=.ok () (setObjAt w b o):=fun o=>by simp [setObj,Sem.run,hb,setObjAt]
  rw [hn] at hf
  have hf':(Instr.findKey kt (.int .i64 k) es0.toList).run P w=.ok (some (m.findIdx (fun x=>decide (x.1=k)),u)) w:=hf
  obtain ⟨x,hx,-,-⟩:=look_some hn
  have hi:m.findIdx (fun x=>decide (x.1=k)) < es0.size:=by
    have h1:=(List.getElem?_eq_some_iff.1 hx).1
    have h2:es0.size=m.length:=by simpa using congrArg List.length he
    omega
  have hsub:(es0.eraseIdxIfInBounds (m.findIdx (fun x=>decide (x.1=k)))).toList=es0.toList.eraseIdx (m.findIdx (fun x=>decide (x.1=k))):=by
    unfold Array.eraseIdxIfInBounds
    rw [dif_pos hi]
    simp
  refine ⟨setObjAt w b (.map (es0.eraseIdxIfInBounds (m.findIdx (fun x=>decide (x.1=k)))) clock0),?_,⟨_,_,setObjAt_at hlt,?_,stamped_erase hs _,?_,?_⟩,setObjAt_upd _ _ _⟩
  · simp [Builtin.delete_,run_underlying ht,hg,hc,hf',hso,Result.andThen]
  · rw [hsub]
    unfold del
    rw [← eraseIdx_of_map,he,eraseIdx_of_map]
  · unfold del
    have:=(List.eraseIdx_sublist m (m.findIdx (fun x=>decide (x.1=k)))).length_le
    omega
  · intro x hx
    exact hw x ((List.eraseIdx_sublist _ _).subset hx)
def keysD (m:List (Int × Value)):DataW Nat:=.map ((m.map fun x=>(Lit.int .i64 x.1,DataW.nil)).foldr DataW.insert [])
theorem wfI {x:Int} (h1:-9223372036854775808≤x) (h2:x < 9223372036854775808):(Lit.int .i64 x).wf=true:=by
  have e1:IntKind.i64.min=-9223372036854775808:=by decide
  have e2:IntKind.i64.max=9223372036854775807:=by decide
  simp only [Lit.wf,e1,e2,Bool.and_eq_true,decide_eq_true_eq]
  omega
theorem MapZ.owns {kt:TypeId} (h:MapZ w b m) (hk:P.underlying kt=some (.int .i64)):w.ownsMap P kt (fun _=>some (DataW.nil,[])) b m.length (keysD m):=by
  obtain ⟨es,c,h1,h2,h3,h4,h5⟩:=h
  have hl:es.size=m.length:=by simpa using congrArg List.length h2
  have hrd:∀ x∈es.toList,∃ y∈m,x.key=.int .i64 y.1∧WideElems.rd P kt (fun _=>some ((DataW.nil:DataW Nat),[])) x=some (Lit.int .i64 y.1,.nil):=by
    intro x hx
    have:(x.key,x.val)∈es.toList.map (fun e=>(e.key,e.val)):=List.mem_map.2 ⟨x,hx,rfl⟩
    rw [h2] at this
    obtain ⟨y,hy,hye⟩:=List.mem_map.1 this
    simp only [Prod.mk.injEq] at hye
    have hkx:x.key=.int .i64 y.1:=hye.1.symm
    refine ⟨y,hy,hkx,?_⟩
    have hko:=Maps.keyOf_int_mk (P:=P) hk (wfI (h5 y hy).1 (h5 y hy).2)
    simp [WideElems.rd,hkx,hko]
  refine ⟨es,c,h1,⟨by rw [hl];simp only [maxLen];omega,h3,fun x hx=>?_⟩,by omega,?_⟩
  · obtain ⟨y,-,-,hy⟩:=hrd x hx
    exact ⟨_,hy⟩
  · unfold keysD
    congr 2
    have e:es.toList.map (WideElems.rg P kt fun _=>some ((DataW.nil:DataW Nat),[]))=es.toList.map (fun e=>match e.key with | .int _ a=>(Lit.int .i64 a,(DataW.nil:DataW Nat)) | _=>(.bool false,.nil)):=by
      refine List.map_congr_left fun x hx=>?_
      obtain ⟨y,-,hk,hy⟩:=hrd x hx
      simp [WideElems.rg,hy,hk]
    rw [e]
    have e2:=congrArg (List.map fun p:Value × Value=>match p.1 with | .int _ a=>(Lit.int .i64 a,(DataW.nil:DataW Nat)) | _=>(.bool false,.nil)) h2
    simp only [List.map_map,Function.comp_def] at e2
    exact e2.symm
theorem keys_perm {ys:List Int} (h:ys.Perm (Go.intKeys (keysD m))):ys.Perm (m.map (·.1)):=by
  refine h.trans ?_
  show (List.map (fun p:Lit × DataW Nat=>Go.intOf p.1) _).Perm _
  refine ((WideShapes.sorted_perm _).map _).trans ?_
  rw [List.map_map]
  exact List.Perm.of_eq (List.map_congr_left fun x _=>rfl)
theorem keys_size:Go.Maps.size (keysD m)=m.length:=by
  show ((m.map fun x=>(Lit.int .i64 x.1,(DataW.nil:DataW Nat))).foldr DataW.insert []).length=_
  rw [length_sorted]
  simp
section
variable {ops:Array Oper} {rest:List Oper} {o:Oper} {a:Act} {Q:Exit→Act→World→Prop}
theorem wpList_insertZ (hg:o.guard=none) (mm x v:Operand) (t:TypeId) (hop:o.op=Op.mapUpdate t mm x v) (kt et:TypeId) (ht:P.underlying t=some (.map kt et)) (hk:P.underlying kt=some (.int .i64))
    (k:Int) (val:Value) (hm:a.eval mm=.map (some b)) (hx:a.eval x=.int .i64 k) (hv:a.eval v=val) (h:MapZ w b m) (hn:look m k=none) (hr:m.length < 100000) (hk1:-9223372036854775808≤k) (hk2:k < 9223372036854775808)
    (hK:∀ w',MapZ w' b (m++[(k,val)])→Upd (fun i=>i=b) w w'→wpList P ops Q rest (a.put o.dst undef) w'):wpList P ops Q (o :: rest) a w:=by
  refine wpList_plain hg fun K' hK'=>?_
  obtain ⟨w',hrun,r1,r2⟩:=h.insert ht hk k val hn hr hk1 hk2
  unfold Oper.wp
  simp [execOp,hop,hm,hx,hv,hrun,Result.andThen]
  exact hK' _ _ (hK w' r1 r2)
theorem wpList_deleteZ (hg:o.guard=none) (mm x:Operand) (t kt:TypeId) (hop:o.op=Op.call { callee:=Callee.builtin Builtin.delete,args:=#[mm,x],argTypes:=#[t,kt] }) (et:TypeId) (ht:P.underlying t=some (.map kt et)) (hk:P.underlying kt=some (.int .i64))
    (k:Int) (hm:a.eval mm=.map (some b)) (hx:a.eval x=.int .i64 k) (h:MapZ w b m) {u:Value} (hn:look m k=some u)
    (hK:∀ w',MapZ w' b (del m k)→Upd (fun i=>i=b) w w'→wpList P ops Q rest (a.put o.dst (.tuple #[])) w'):wpList P ops Q (o :: rest) a w:=by
  refine wpList_plain hg fun K' hK'=>?_
  obtain ⟨w',hrun,r1,r2⟩:=h.delete ht hk k o.type hn
  unfold Oper.wp
  simp [execOp,hop,resolve,invoke,builtin,hm,hx,hrun,Result.andThen]
  exact hK' _ _ (hK w' r1 r2)
end
theorem look_mem {V:Type} {m:List (Int × V)} {k:Int} {u:V} (h:look m k=some u):(k,u)∈m:=by
  obtain ⟨x,hx,h1,h2⟩:=look_some h
  have:=List.mem_of_getElem? hx
  cases x
  simp only at h1 h2
  subst h1 h2
  exact this
theorem look_of_mem {V:Type}:∀ {m:List (Int × V)} (hn:(m.map (·.1)).Nodup) {k:Int} {u:V},(k,u)∈m→look m k=some u
  | [],_,k,u,h=>by cases h
  | x :: m,hn,k,u,h=>by
    rw [look_cons]
    rw [List.map_cons,List.nodup_cons] at hn
    rcases List.mem_cons.1 h with h | h
    · rw [← h];simp
    · rw [if_neg (fun e=>hn.1 (by rw [e];exact List.mem_map.2 ⟨(k,u),h,rfl⟩)),look_of_mem hn.2 h]
theorem look_none_iff {V:Type}:∀ {m:List (Int × V)} {k:Int},look m k=none ↔ k ∉ m.map (·.1)
  | [],k=>by simp [look]
  | x :: m,k=>by
    rw [look_cons]
    by_cases h:x.1=k
    · simp [h]
    · have h':¬ k=x.1:=fun e=>h e.symm
      rw [if_neg h,look_none_iff,List.map_cons,List.mem_cons,not_or]
      exact ⟨fun e=>⟨h',e⟩,fun e=>e.2⟩
theorem look_append {V:Type}:∀ {m:List (Int × V)} {k j:Int} {u:V},look (m++[(k,u)]) j=(look m j).or (if k=j then some u else none)
  | [],k,j,u=>by simp [look]
  | x :: m,k,j,u=>by
    rw [List.cons_append,look_cons,look_cons,look_append (m:=m)]
    by_cases h:x.1=j <;> simp [h]
theorem look_del {V:Type}:∀ {m:List (Int × V)} (hn:(m.map (·.1)).Nodup) {k j:Int},look (del m k) j=if j=k then none else look m j
  | [],_,k,j=>by simp [del,look]
  | x :: m,hn,k,j=>by
    rw [List.map_cons,List.nodup_cons] at hn
    by_cases h:x.1=k
    · have e:del (x :: m) k=m:=by simp [del,List.findIdx_cons,h]
      rw [e,look_cons]
      by_cases hj:j=k
      · subst hj
        rw [if_pos rfl,look_none_iff,← h]
        exact hn.1
      · rw [if_neg hj,if_neg (fun e=>hj (by rw [← e,h]))]
    · have e:del (x :: m) k=x :: del m k:=by simp [del,List.findIdx_cons,h]
      rw [e,look_cons,look_cons,look_del hn.2]
      by_cases hj:j=k
      · subst hj
        simp [h]
      · simp [hj]
theorem del_length {V:Type} {m:List (Int × V)} {k:Int} {u:V} (h:look m k=some u):(del m k).length+1=m.length:=by
  obtain ⟨x,hx,-,-⟩:=look_some h
  have:=(List.getElem?_eq_some_iff.1 hx).1
  unfold del
  rw [List.length_eraseIdx_of_lt this]
  omega
theorem del_mem {V:Type} {m:List (Int × V)} {k:Int} {x:Int × V} (h:x∈del m k):x∈m:=(List.eraseIdx_sublist _ _).subset h
theorem del_mapV {V U:Type} (f:V→U) (m:List (Int × V)) (k:Int):del (m.map fun x=>(x.1,f x.2)) k=(del m k).map fun x=>(x.1,f x.2):=by
  unfold del
  rw [← eraseIdx_of_map]
  congr 1
  induction m with
  | nil=>rfl
  | cons x m ih=>simp [List.findIdx_cons,ih]
theorem look_mapVZ {V U:Type} (f:V→U) (m:List (Int × V)) (k:Int):look (m.map fun x=>(x.1,f x.2)) k=(look m k).map f:=by
  induction m with
  | nil=>rfl
  | cons x m ih =>
    rw [List.map_cons,look_cons,look_cons,ih]
    by_cases h:x.1=k <;> simp [h]
end Go.Proofs.YtheeomjfpnijbaaGreatDoor
end
section
namespace Go.Proofs.YtheeomjfpnijbaaGreatDoor
open Go.RowKit Go.Shelf
structure Buf where
  blk:Nat
  load:List UInt8
  lsn:Nat
  first:Nat
  pins:Nat
  used:Nat
def BufAt (w:World) (N:Zone) (b:Buf):Prop :=
  ∃ v,w.heap[b.blk]?=some (.cells #[v,.int .i64 b.lsn,.int .i64 b.first,.int .i64 b.pins,.int .i64 b.used] 321 (0,0))∧Byt w N v b.load
structure BufOk (clock:Nat) (b:Buf):Prop where
  load:b.load.length=112
  lsn:b.lsn≤4611686018427387904
  first:b.first≤4611686018427387904
  pins:b.pins≤100
  used:b.used≤clock
def mapP (M:List (Int × Buf)):List (Int × Value):=M.map fun x=>(x.1,.pointer (some ⟨x.2.blk,0,none⟩))
structure PoolAt (w:World) (N:Zone) (bp bd bl bm fro pages buffers clock:Nat) (M:List (Int × Buf)):Prop where
  cells:w.heap[bp]?=some (.cells #[.map (some bm),.int .i64 clock,.pointer (some ⟨bd,0,none⟩),.pointer (some ⟨bl,0,none⟩),.int .i64 fro,.int .i64 pages,.int .i64 buffers] 261 (0,0))
  map:MapZ w bm (mapP M)
  bufs:∀ x∈M,BufAt w N x.2
  apart:(M.map (·.2.blk)).Nodup
  low:N.B≤bp∧N.B≤bm∧∀ x∈M,N.B≤x.2.blk
  nums:∀ x∈M,BufOk clock x.2
  keys:∀ x∈M,0≤x.1∧x.1 < pages
section
variable {w w':World} {N:Zone} {bp bd bl bm fro pages buffers clock:Nat} {M:List (Int × Buf)}
theorem BufAt.upd {T:Nat→Prop} {b:Buf} (h:BufAt w N b) (hu:Upd T w w') (h1:¬ T b.blk) (h2:∀ k,T k→Typed w k 5→N k):BufAt w' N b:=by
  obtain ⟨v,hh,hb⟩:=h
  exact ⟨v,(hu.block _ (Array.getElem?_eq_some_iff.1 hh).1 h1).trans hh,hb.upd hu h2⟩
theorem BufAt.typed {b:Buf} (h:BufAt w N b):Typed w b.blk 321:=by
  obtain ⟨v,hh,-⟩:=h
  exact ⟨_,hh⟩
theorem PoolAt.typed (h:PoolAt w N bp bd bl bm fro pages buffers clock M):Typed w bp 261:=⟨_,h.cells⟩
theorem MapZ.notTyped {b k:Nat} {m:List (Int × Value)} {t:TypeId} (h:MapZ w b m) (ht:Typed w k t):k ≠ b:=by
  rintro rfl
  obtain ⟨es,c,h1,-⟩:=h
  obtain ⟨cs,h2⟩:=ht
  rw [h1] at h2
  cases h2
theorem PoolAt.upd {T:Nat→Prop} (h:PoolAt w N bp bd bl bm fro pages buffers clock M) (hu:Upd T w w') (h1:∀ k,T k→N.B≤k→¬ Typed w k 261∧¬ Typed w k 321∧k ≠ bm) (h2:∀ k,T k→Typed w k 5→N k):PoolAt w' N bp bd bl bm fro pages buffers clock M where
  cells:=(hu.block bp (Array.getElem?_eq_some_iff.1 h.cells).1 (fun ht=>(h1 bp ht h.low.1).1 h.typed)).trans h.cells
  map:=h.map.upd hu (fun ht=>(h1 bm ht h.low.2.1).2.2 rfl)
  bufs:=fun x hx=>(h.bufs x hx).upd hu (fun ht=>(h1 _ ht (h.low.2.2 x hx)).2.1 (h.bufs x hx).typed) h2
  apart:=h.apart
  low:=h.low
  nums:=h.nums
  keys:=h.keys
theorem PoolAt.below (h:PoolAt w N bp bd bl bm fro pages buffers clock M) (hb:Below w.heap.size w w'):PoolAt w' N bp bd bl bm fro pages buffers clock M :=
  h.upd (T:=fun _=>False) (Upd.of_below' hb _) (fun k hk=>hk.elim) (fun k hk=>hk.elim)
theorem PoolAt.nodup (h:PoolAt w N bp bd bl bm fro pages buffers clock M):(M.map (·.1)).Nodup:=by
  have:=h.map.nodup
  simpa [mapP,List.map_map,Function.comp_def] using this
theorem look_mapP (M:List (Int × Buf)) (k:Int):look (mapP M) k=(look M k).map fun b=>.pointer (some ⟨b.blk,0,none⟩):=look_mapVZ (fun b:Buf=>(Value.pointer (some ⟨b.blk,0,none⟩))) M k
theorem PoolAt.load (h:PoolAt w N bp bd bl bm fro pages buffers clock M) :
    w.cell? ⟨bp,0,none⟩=some (.map (some bm))∧w.cell? ⟨bp,1,none⟩=some (.int .i64 clock)∧w.cell? ⟨bp,2,none⟩=some (.pointer (some ⟨bd,0,none⟩))∧w.cell? ⟨bp,3,none⟩=some (.pointer (some ⟨bl,0,none⟩)) ∧
    w.cell? ⟨bp,4,none⟩=some (.int .i64 fro)∧w.cell? ⟨bp,5,none⟩=some (.int .i64 pages)∧w.cell? ⟨bp,6,none⟩=some (.int .i64 buffers):=by
  refine ⟨?_,?_,?_,?_,?_,?_,?_⟩ <;> simp [World.cell?,h.cells]
theorem BufAt.cell {b:Buf} (h:BufAt w N b):(∃ v,w.cell? ⟨b.blk,0,none⟩=some v∧Byt w N v b.load)∧w.cell? ⟨b.blk,1,none⟩=some (.int .i64 b.lsn)∧w.cell? ⟨b.blk,2,none⟩=some (.int .i64 b.first)∧w.cell? ⟨b.blk,3,none⟩=some (.int .i64 b.pins)∧w.cell? ⟨b.blk,4,none⟩=some (.int .i64 b.used):=by
  obtain ⟨v,hh,hb⟩:=h
  refine ⟨⟨v,?_,hb⟩,?_,?_,?_,?_⟩ <;> simp [World.cell?,hh]
def setM (M:List (Int × Buf)) (n:Int) (b':Buf):List (Int × Buf):=M.map fun x=>if x.1=n then (n,b') else x
theorem setM_keys (M:List (Int × Buf)) (n:Int) (b':Buf):(setM M n b').map (·.1)=M.map (·.1):=by
  unfold setM
  rw [List.map_map]
  refine List.map_congr_left fun x _=>?_
  simp only [Function.comp_apply]
  split
  · rename_i h;exact h.symm
  · rfl
theorem setM_length (M:List (Int × Buf)) (n:Int) (b':Buf):(setM M n b').length=M.length:=by simp [setM]
theorem look_setM (M:List (Int × Buf)) (n j:Int) (b':Buf):look (setM M n b') j=(look M j).map fun x=>if j=n then b' else x:=by
  induction M with
  | nil=>simp [setM,look]
  | cons x M ih =>
    show look ((if x.1=n then (n,b') else x) :: setM M n b') j=_
    rw [look_cons,look_cons,ih]
    by_cases hn:x.1=n
    · by_cases hj:x.1=j
      · have:n=j:=by rw [← hn,hj]
        simp [hn,this]
      · have:¬ n=j:=fun e=>hj (by rw [hn,e])
        simp [hn,this]
    · by_cases hj:x.1=j
      · have:¬ j=n:=fun e=>hn (by rw [hj,e])
        simp [hj,this]
      · simp [hn,hj]
theorem mem_setM {n:Int} {b':Buf} {x:Int × Buf} (h:x∈setM M n b'):x=(n,b') ∨ (x∈M∧x.1 ≠ n):=by
  unfold setM at h
  obtain ⟨y,hy,rfl⟩:=List.mem_map.1 h
  by_cases hn:y.1=n
  · simp [hn]
  · simp [hn,hy]
theorem one_key (hn:(M.map (·.1)).Nodup) {n:Int} {b c:Buf} (h1:(n,b)∈M) (h2:(n,c)∈M):b=c:=by
  have e1:=look_of_mem hn h1
  have e2:=look_of_mem hn h2
  rw [e1] at e2
  exact Option.some.inj e2
theorem setM_map {γ:Type} (f:Buf→γ) (hn:(M.map (·.1)).Nodup) {n:Int} {b b':Buf} (hm:(n,b)∈M) (hb:f b'=f b):(setM M n b').map (fun x=>(x.1,f x.2))=M.map fun x=>(x.1,f x.2):=by
  unfold setM
  rw [List.map_map]
  refine List.map_congr_left fun x hx=>?_
  simp only [Function.comp_apply]
  split
  · rename_i h
    have:x.2=b:=one_key hn (n:=n) (by rw [← h];exact hx) hm
    rw [this,hb,h]
  · rfl
theorem PoolAt.turn {clock':Nat} (h:PoolAt w N bp bd bl bm fro pages buffers clock M) {n:Int} {b b':Buf} (hm:(n,b)∈M) (hu:Upd (fun k=>k=bp ∨ k=b.blk) w w') (hk:b'.blk=b.blk) (hb:BufAt w' N b') (ho:BufOk clock' b') (hc:clock≤clock')
    (hp:w'.heap[bp]?=some (.cells #[.map (some bm),.int .i64 clock',.pointer (some ⟨bd,0,none⟩),.pointer (some ⟨bl,0,none⟩),.int .i64 fro,.int .i64 pages,.int .i64 buffers] 261 (0,0))):PoolAt w' N bp bd bl bm fro pages buffers clock' (setM M n b'):=by
  have hT:∀ k t,(k=bp ∨ k=b.blk)→Typed w k t→t=261 ∨ t=321:=fun k t hk ht=>by
    rcases hk with rfl | rfl
    · exact .inl (ht.one h.typed)
    · exact .inr (ht.one (h.bufs _ hm).typed)
  have h2:∀ k,(k=bp ∨ k=b.blk)→Typed w k 5→N k:=fun k hk ht=>by rcases hT k _ hk ht with e | e <;> exact absurd e (by decide)
  have hnd:=h.nodup
  refine ⟨hp,?_,?_,?_,⟨h.low.1,h.low.2.1,?_⟩,?_,?_⟩
  · unfold mapP
    rw [setM_map (fun b:Buf=>(Value.pointer (some ⟨b.blk,0,none⟩))) hnd hm (by simp only [hk])]
    exact h.map.upd hu (fun e=>by
      rcases e with e | e
      · exact h.map.notTyped h.typed e.symm
      · exact h.map.notTyped (h.bufs _ hm).typed e.symm)
  · intro x hx
    rcases mem_setM hx with rfl | ⟨hx,hne⟩
    · exact hb
    · refine (h.bufs x hx).upd hu (fun e=>?_) h2
      rcases e with e | e
      · have:=(h.bufs x hx).typed.one (e ▸ h.typed)
        exact absurd this (by decide)
      · have hp:=h.apart
        have:∀ (l:List (Int × Buf)),(l.map (·.2.blk)).Nodup→x∈l→(n,b)∈l→x=(n,b):=by
          intro l
          induction l with
          | nil=>intro _ hx;cases hx
          | cons y l ih =>
            intro hnd hx hm
            rw [List.map_cons,List.nodup_cons] at hnd
            rcases List.mem_cons.1 hx with h1 | h1
            · rcases List.mem_cons.1 hm with h3 | h3
              · rw [h1,h3]
              · exact absurd (List.mem_map.2 ⟨(n,b),h3,by rw [← h1];exact e.symm⟩) hnd.1
            · rcases List.mem_cons.1 hm with h3 | h3
              · exact absurd (List.mem_map.2 ⟨x,h1,by rw [← h3];exact e⟩) hnd.1
              · exact ih hnd.2 h1 h3
        have:=this M hp hx hm
        exact hne (by rw [this])
  · have e1:=congrArg (List.map Prod.snd) (setM_map (fun b:Buf=>b.blk) hnd hm hk)
    simp only [List.map_map,Function.comp_def] at e1
    rw [e1]
    exact h.apart
  · intro x hx
    rcases mem_setM hx with rfl | ⟨hx,-⟩
    · rw [hk];exact h.low.2.2 _ hm
    · exact h.low.2.2 x hx
  · intro x hx
    rcases mem_setM hx with rfl | ⟨hx,-⟩
    · exact ho
    · have:=h.nums x hx
      exact ⟨this.load,this.lsn,this.first,this.pins,Nat.le_trans this.used hc⟩
  · intro x hx
    rcases mem_setM hx with rfl | ⟨hx,-⟩
    · exact h.keys (n,b) hm
    · exact h.keys x hx
end
theorem clockK {k:Nat} (h:k < 4611686018427387904):wrap64 ((k:Int)+1)=((k+1:Nat):Int):=by
  unfold wrap64
  omega
set_option maxRecDepth 20000 in
set_option maxHeartbeats 400000 in
theorem touch_any {N:Zone} (bp bd bl bm fro pages buffers clock:Nat) (M:List (Int × Buf)) (n:Int) (b:Buf) (w:World) (h:PoolAt w N bp bd bl bm fro pages buffers clock M) (hm:(n,b)∈M) (hc:clock < 4611686018427387904) :
    Calls Tryz.prog 252 #[.pointer (some ⟨bp,0,none⟩),.pointer (some ⟨b.blk,0,none⟩)] w fun e w'=>(∃ v,e=.returned v)∧PoolAt w' N bp bd bl bm fro pages buffers (clock+1) (setM M n { b with used:=clock+1 })∧Upd (fun k=>k=bp ∨ k=b.blk) w w':=by
  have H:=Lib.hid h
  have HM:=Lib.hid hm
  obtain ⟨-,k1,-⟩:=h.load
  have f1:=frozenC (i:=1) h.cells
  obtain ⟨v,hbh,hby⟩:=h.bufs _ hm
  have hne:b.blk ≠ bp:=fun e=>by
    have:=(h.bufs _ hm).typed.one (e ▸ h.typed)
    exact absurd this (by decide)
  have hne':¬ bp=b.blk:=fun e=>hne e.symm
  have hlt:=cell_lt k1
  have hlb:b.blk < w.heap.size:=(Array.getElem?_eq_some_iff.1 hbh).1
  have HBH:=Lib.hid hbh
  have HBY:=Lib.hid hby
  have k4:(w.setCell ⟨bp,1,none⟩ (.int .i64 (clock+1:Nat))).cell? ⟨b.blk,4,none⟩=some (.int .i64 b.used):=by
    have:=(heap_setCell_other w ⟨bp,1,none⟩ b.blk (.int .i64 (clock+1:Nat)) hne).trans hbh
    simp only [World.cell?,this]
    rfl
  have f4:(w.setCell ⟨bp,1,none⟩ (.int .i64 (clock+1:Nat))).frozen? ⟨b.blk,4,none⟩=false:=frozenC ((heap_setCell_other w ⟨bp,1,none⟩ b.blk (.int .i64 (clock+1:Nat)) hne).trans hbh)
  have k1':(w.setCell ⟨bp,1,none⟩ (.int .i64 (clock+1:Nat))).cell? ⟨bp,1,none⟩=some (.int .i64 (clock+1:Nat)):=World.cell?_setCell_same _ _ _ k1
  have hw:=clockK hc
  have HC:=Lib.hid hc
  generalize hCC:clock+1=C at *
  have HCC:=Lib.hid hCC
  clear h hm hbh hby hc hCC
  go_enter Tryz.func252,Tryz.ntmps252
  go_wp2
  go_end0
  refine ⟨⟨_,rfl⟩,?_,?_⟩
  · have hU:Upd (fun k=>k=bp ∨ k=b.blk) w ((w.setCell ⟨bp,1,none⟩ (.int .i64 C)).setCell ⟨b.blk,4,none⟩ (.int .i64 C)) :=
      ((Upd.setC w bp 1 _).mono (T:=fun k=>k=bp ∨ k=b.blk) (fun k _ hk=>.inl hk)).trans' (Upd.setC _ b.blk 4 _) (fun j _ hj=>.inr hj)
    have hbb:((w.setCell ⟨bp,1,none⟩ (.int .i64 C)).setCell ⟨b.blk,4,none⟩ (.int .i64 C)).heap[b.blk]?=some (.cells #[v,.int .i64 b.lsn,.int .i64 b.first,.int .i64 b.pins,.int .i64 C] 321 (0,0)):=by
      rw [heap_setCell_same _ b.blk 4 _ _ _ ((heap_setCell_other w ⟨bp,1,none⟩ b.blk _ hne).trans HBH.out)]
      rfl
    refine H.out.turn HM.out hU rfl ⟨v,hbb,HBY.out.upd hU ?_⟩ ?_ (by have:=HCC.out;omega) ?_
    · intro k hk ht
      rcases hk with rfl | rfl
      · exact absurd (ht.one H.out.typed) (by decide)
      · exact absurd (ht.one ⟨_,HBH.out⟩) (by decide)
    · have:=H.out.nums _ HM.out
      exact ⟨this.load,this.lsn,this.first,this.pins,Nat.le_refl _⟩
    · rw [heap_setCell_other _ ⟨b.blk,4,none⟩ bp _ hne',heap_setCell_same w bp 1 _ _ _ H.out.cells]
      rfl
  · exact ((Upd.setC w bp 1 _).mono (T:=fun k=>k=bp ∨ k=b.blk) (fun k _ hk=>.inl hk)).trans' (Upd.setC _ b.blk 4 _) (fun j _ hj=>.inr hj)
end Go.Proofs.YtheeomjfpnijbaaGreatDoor
end
section
namespace Go.Proofs.YtheeomjfpnijbaaGreatDoor
open Go.RowKit Go.Shelf Go.Sort
attribute [local go_sem] Oper.semAt_some
theorem zbuf (w:World):(zeroValue 317).run Tryz.prog w=.ok (.pointer none) w:=by kernel_rfl
set_option maxRecDepth 20000 in
set_option maxHeartbeats 1000000 in
theorem order1_any {N:Zone} (Bt bp bd bl bm fro pages buffers clock:Nat) (M:List (Int × Buf)) (n m:Int) (b c:Buf) (w:World) (h:PoolAt w N bp bd bl bm fro pages buffers clock M) (hB:w.cell? ⟨Bt,0,none⟩=some (.pointer (some ⟨bp,0,none⟩))) (h1:(n,b)∈M) (h2:(m,c)∈M) (hc:clock < 4611686018427387904) :
    Calls Tryz.prog 287 #[.int .i64 n,.int .i64 m,.pointer (some ⟨Bt,0,none⟩)] w fun e w'=>e=.returned (.int .i64 ((b.used:Int) - (c.used:Int)))∧w'=w.drew:=by
  obtain ⟨k0,-⟩:=h.load
  have b4:=(h.bufs _ h1).cell.2.2.2.2
  have c4:=(h.bufs _ h2).cell.2.2.2.2
  have l1:=h.map.is.lookup (P:=Tryz.prog) Tryz.underlying257 Tryz.underlying3 (zbuf w) n
  have l2:=h.map.is.lookup (P:=Tryz.prog) Tryz.underlying257 Tryz.underlying3 (zbuf w) m
  rw [look_mapP,look_of_mem h.nodup h1] at l1
  rw [look_mapP,look_of_mem h.nodup h2] at l2
  have l1':(Instr.lookup 257 (.map (some bm)) (.int .i64 n) false).run Tryz.prog w.drew=.ok (.pointer (some ⟨b.blk,0,none⟩)) w.drew:=by
    have:=(h.below (Below.refl _ w).drew).map.is.lookup (P:=Tryz.prog) Tryz.underlying257 Tryz.underlying3 (zbuf w.drew) n
    rw [look_mapP,look_of_mem h.nodup h1] at this
    exact this
  have l2':(Instr.lookup 257 (.map (some bm)) (.int .i64 m) false).run Tryz.prog w.drew=.ok (.pointer (some ⟨c.blk,0,none⟩)) w.drew:=by
    have:=(h.below (Below.refl _ w).drew).map.is.lookup (P:=Tryz.prog) Tryz.underlying257 Tryz.underlying3 (zbuf w.drew) m
    rw [look_mapP,look_of_mem h.nodup h2] at this
    exact this
  have hw:IntKind.i64.wrap ((b.used:Int) - (c.used:Int))=(b.used:Int) - (c.used:Int):=by
    have u1:b.used≤clock:=(h.nums _ h1).used
    have u2:c.used≤clock:=(h.nums _ h2).used
    rw [IntKind.wrap_i64]
    omega
  clear h h1 h2 hc l1 l2
  go_enter Tryz.func287,Tryz.ntmps287
  go_wp2
  go_region
  go_wp2
  go_ret
  exact ⟨rfl,rfl⟩
abbrev KeyOf (M:List (Int × Buf)):={ k:Int // k∈M.map (·.1) }
def usedK (M:List (Int × Buf)) (k:Int):Int:=match look M k with | some b=>b.used | none=>0
theorem putRow_val {α:Type} [Inhabited α] (f:α→Int) (w:World) (blk off:Nat) (d:Array α):putRow (fun x=>Value.int .i64 (f x)) w blk off d=putRow encZ w blk off (d.map f):=by
  unfold putRow
  refine mapBlock_congr _ _ _ _ fun c _ _ _=>?_
  unfold putCells
  apply Array.ext_getElem?
  intro k
  simp only [Array.getElem?_mapIdx,Array.size_map]
  cases c[k]? with
  | none=>rfl
  | some y =>
    simp only [Option.map_some]
    by_cases hr:off≤k∧k < off+d.size
    · rw [if_pos hr,if_pos hr]
      have h1:k - off < d.size:=by omega
      rw [getElem!_pos d (k - off) h1,getElem!_pos (d.map f) (k - off) (by simpa using h1)]
      simp [encZ]
    · rw [if_neg hr,if_neg hr]
theorem sub_vals {p:Int→Prop}:∀ (ys:List Int) (h:∀ y∈ys,p y),∃ d:List { k:Int // p k },d.map (·.1)=ys
  | [],_=>⟨[],rfl⟩
  | y :: ys,h=>by
    obtain ⟨d,hd⟩:=sub_vals ys (fun z hz=>h z (by simp [hz]))
    exact ⟨⟨y,h y (by simp)⟩ :: d,by rw [List.map_cons,hd]⟩
theorem swo_sub {α:Type} [Inhabited α] (u:α→Int):SWO (ltOf fun x y:α=>u x - u y) where
  irrefl:=fun x=>by simp [ltOf]
  trans:=fun x y z h1 h2=>by simp only [ltOf,decide_eq_true_eq] at *;omega
  ntrans:=fun x y z h1 h2=>by simp only [ltOf,decide_eq_false_iff_not] at *;omega
set_option maxHeartbeats 1000000 in
theorem collect_keys {N:Zone} (Bm bp bd bl bm fro pages buffers clock:Nat) (M:List (Int × Buf)) (w:World) (h:PoolAt w N bp bd bl bm fro pages buffers clock M) (hm:w.cell? ⟨Bm,0,none⟩=some (.map (some bm))) :
    Calls Tryz.prog 259 #[.func (.func 296) #[] #[.pointer (some ⟨Bm,0,none⟩)]] w fun e w'=>∃ (v:Value) (ys:List Int),e=.returned v∧ys.Perm (M.map (·.1))∧w'.ownsRow w.heap.size 3 1 v ys.length (ys.map (Value.int .i64))∧Below w.heap.size w w':=by
  have hown:=h.map.owns (P:=Tryz.prog) (kt:=3) Tryz.underlying3
  refine (callsIn_wide (n:=5)).1 ?_
  refine (collectInts_in Fence.wide 5 trivial trivial 296 trivial (enters_of Tryz.func296 (by kernel_rfl) rfl) rfl (by omega) _ (Maps.size (keysD (mapP M))) (by rw [keys_size];obtain ⟨_,_,_,_,_,h4,_⟩:=h.map;omega) _ _ w (Kp:=KeepsWalks) walksK_t (walksK_b (w:=w)) (fun W W' hk _=>hk.walks)
    (AnyZI.keys_stops Tryz.keysZ Fence.wide 3 trivial rfl (by omega) Bm bm _ (keysD (mapP M)) w (cell_lt hm) hm hown)).mono ?_
  rintro e w' ⟨v,ys,rfl,⟨hp,-⟩,ho,hb⟩
  have e1:(mapP M).map (·.1)=M.map (·.1):=by simp [mapP,List.map_map,Function.comp_def]
  exact ⟨v,ys,rfl,e1 ▸ keys_perm hp,ho,hb⟩
set_option maxRecDepth 20000 in
set_option maxHeartbeats 1000000 in
theorem sortKeys_any {N:Zone} (Bt bp bd bl bm fro pages buffers clock base:Nat) (M:List (Int × Buf)) (ys:List Int) (v:Value) (w:World) (h:PoolAt w N bp bd bl bm fro pages buffers clock M) (hB:w.cell? ⟨Bt,0,none⟩=some (.pointer (some ⟨bp,0,none⟩)))
    (hBt:Typed w Bt 372) (hc:clock < 4611686018427387904) (hys:ys.Perm (M.map (·.1))) (ho:w.ownsRow base 3 1 v ys.length (ys.map (Value.int .i64))) :
    Calls Tryz.prog 295 #[v,.func (.func 287) #[] #[.pointer (some ⟨Bt,0,none⟩)]] w fun e w'=>(∃ x,e=.returned x)∧∃ zs:List Int,zs.Perm (M.map (·.1))∧w'.ownsRow base 3 1 v zs.length (zs.map (Value.int .i64))∧(∀ B,B≤w.heap.size→B≤base→Below B w w'):=by
  rcases ho.2 with ⟨rfl,h0⟩ | ⟨g,cap,cur,rfl,hb,hg,h1,h2,h3,h4⟩
  · refine (sortFunc_zero none 0 _ _).mono ?_
    rintro e w' ⟨he,rfl⟩
    exact ⟨he,ys,hys,ho,fun B hB _=>Below.refl _ _⟩
  · rcases ys with _ | ⟨y0,yt⟩
    · refine (sortFunc_zero _ cap _ _).mono ?_
      rintro e w' ⟨he,rfl⟩
      exact ⟨he,[],hys,ho,fun B hB _=>Below.refl _ _⟩
    · generalize hY:y0 :: yt=ys at *
      have hmem:∀ y∈ys,y∈M.map (·.1):=fun y hy=>hys.mem_iff.1 hy
      obtain ⟨d,hd⟩:=sub_vals ys hmem
      haveI:Inhabited (KeyOf M):=⟨⟨y0,hmem y0 (by rw [← hY];simp)⟩⟩
      have hdl:d.toArray.size=ys.length:=by rw [← hd];simp
      have hgl:g < w.heap.size:=(Array.getElem?_eq_some_iff.1 hg).1
      have hH:Holds (fun x:KeyOf M=>Value.int .i64 x.1) w g 0 d.toArray:=by
        have:=holds_of_block_i hg (ss:=ys) (by simpa using h4)
        intro j hj
        have hj':j < ys.length:=by rw [← hdl];exact hj
        obtain ⟨c1,c2⟩:=this j (by simpa using hj')
        refine ⟨?_,c2⟩
        rw [c1]
        congr 1
        have hjd:j < d.length:=by simpa using hj
        rw [getElem!_pos _ j (by simpa using hj'),getElem!_pos _ j (by simpa using hjd)]
        simp only [List.getElem_toArray,encZ]
        congr 1
        have e:=congrArg (fun l:List Int=>l[j]?) hd
        simp only [List.getElem?_map,List.getElem?_eq_getElem hjd,List.getElem?_eq_getElem hj',Option.map_some,Option.some.injEq] at e
        exact e.symm
      have hcmp:CmpLays1 Tryz.prog 287 #[.pointer (some ⟨Bt,0,none⟩)] (fun x:KeyOf M=>Value.int .i64 x.1) (fun x y=>usedK M x.1 - usedK M y.1) g 0 d.toArray.size w:=by
        intro m os dk hdk x y
        obtain ⟨⟨n1,b1⟩,hx,hx1⟩:=List.mem_map.1 x.2
        obtain ⟨⟨n2,b2⟩,hy,hy1⟩:=List.mem_map.1 y.2
        have hu:Upd (fun k=>k=g) w (sortWorld (fun x:KeyOf M=>Value.int .i64 x.1) w g 0 m dk os):=by
          unfold sortWorld
          rw [putRow_val]
          have:=grownBy_sorted_i (w:=w) (g:=g) (n:=m) (os:=os) (dk.map (·.1))
          exact (Upd.of_grown this).mono (fun k _ hk=>by simpa using hk)
        have hgT:Typed w g 3:=⟨_,hg⟩
        have hP:=h.upd hu (fun k hk _=>by subst hk;exact ⟨fun ht=>absurd (ht.one hgT) (by decide),fun ht=>absurd (ht.one hgT) (by decide),h.map.notTyped hgT⟩) (fun k hk ht=>by subst hk;exact absurd (ht.one hgT) (by decide))
        have hBW:=hu.cell hB (fun e=>by have e:Bt=g:=e;subst e;exact absurd (hBt.one hgT) (by decide))
        have e1:x.1=n1:=hx1.symm
        have e2:y.1=n2:=hy1.symm
        have u1:usedK M x.1=b1.used:=by unfold usedK;rw [e1,look_of_mem h.nodup hx]
        have u2:usedK M y.1=b2.used:=by unfold usedK;rw [e2,look_of_mem h.nodup hy]
        have goal':Calls Tryz.prog 287 #[.int .i64 x.1,.int .i64 y.1,.pointer (some ⟨Bt,0,none⟩)] (sortWorld (fun x:KeyOf M=>Value.int .i64 x.1) w g 0 m dk os) (fun e w'=>e=.returned (.int .i64 (usedK M x.1 - usedK M y.1))∧∃ q os',w'=grow ((sortWorld (fun x:KeyOf M=>Value.int .i64 x.1) w g 0 m dk os).drewN q) os'):=?_
        · exact goal'
        rw [u1,u2,e1,e2]
        refine (order1_any Bt bp bd bl bm fro pages buffers clock M n1 n2 b1 b2 _ hP hBW hx hy hc).mono ?_
        rintro e w' ⟨rfl,rfl⟩
        exact ⟨rfl,1,#[],by rw [grow_empty];rfl⟩
      have hcall:=Tryz.slices_SortFunc (fun x:KeyOf M=>Value.int .i64 x.1) (fun x=>by rfl) (fun x y=>usedK M x.1 - usedK M y.1) (swo_sub fun x:KeyOf M=>usedK M x.1) 287 #[.pointer (some ⟨Bt,0,none⟩)] g 0 cap d.toArray w (enters_of Tryz.func287 (by kernel_rfl) rfl) hcmp hH hgl (by rw [hdl];have h5:=hys.length_eq;obtain ⟨_,_,_,_,_,h6,_⟩:=h.map;simp [mapP] at h6 h5;omega)
      rw [hdl] at hcall
      refine hcall.mono ?_
      rintro e w' ⟨rfl,d',n,os,hperm,-,rfl⟩
      have hdsz:d'.size=ys.length:=by rw [hperm.1,hdl]
      have hpl:d'.toList.Perm d:=by
        have:=hperm.2.2
        rw [← hdl] at this
        rw [← hperm.1] at this
        have e5:d'.toList.length=d.length:=by simpa using hperm.1
        have e6:List.take d.length d'.toList=d'.toList:=by rw [← e5,List.take_length]
        simpa [hperm.1,e6] using this
      refine ⟨⟨_,rfl⟩,(d'.map (·.1)).toList,?_,?_,?_⟩
      · refine List.Perm.trans ?_ hys
        rw [← hd,Array.toList_map]
        exact hpl.map _
      · unfold sortWorld
        rw [putRow_val]
        have hl:(d'.map (·.1)).toList.length=ys.length:=by simp [hdsz]
        have:=ownsRow_sorted_i (n:=n) (os:=os) (ts:=(d'.map (·.1)).toList) hl hb hg h1 h2 (by simpa using h3)
        rw [hl]
        rw [Array.toArray_toList] at this
        exact this
      · intro B hB1 hB2
        unfold sortWorld
        rw [putRow_val]
        exact (Below.refl B w).grown (grownBy_sorted_i _) hB1 (fun j hj=>by cases hj;omega)
end Go.Proofs.YtheeomjfpnijbaaGreatDoor
namespace Go.Proofs.YtheeomjfpnijbaaGreatDoor
open Go.RowKit Go.Shelf Go.Sort
attribute [local go_sem] Oper.semAt_some
set_option maxRecDepth 20000 in
set_option maxHeartbeats 1000000 in
theorem sortedKeys_any {N:Zone} (Bm Bt bp bd bl bm fro pages buffers clock:Nat) (M:List (Int × Buf)) (w:World) (h:PoolAt w N bp bd bl bm fro pages buffers clock M) (hm:w.cell? ⟨Bm,0,none⟩=some (.map (some bm))) (hB:w.cell? ⟨Bt,0,none⟩=some (.pointer (some ⟨bp,0,none⟩)))
    (hBt:Typed w Bt 372) (hc:clock < 4611686018427387904) :
    Calls Tryz.prog 285 #[.func (.func 296) #[] #[.pointer (some ⟨Bm,0,none⟩)],.func (.func 287) #[] #[.pointer (some ⟨Bt,0,none⟩)]] w fun e w' =>
      ∃ (v:Value) (zs:List Int),e=.returned v∧zs.Perm (M.map (·.1))∧w'.ownsRow w.heap.size 3 1 v zs.length (zs.map (Value.int .i64))∧Below w.heap.size w w':=by
  have H:=Lib.hid h
  have HBT:=Lib.hid hBt
  have HBC:=Lib.hid hB
  have HC:=Lib.hid hc
  clear h hBt hB hc
  go_enter Tryz.func285,Tryz.ntmps285
  go_wp2_with fail
  refine (collect_keys Bm bp bd bl bm fro pages buffers clock M _ H.out hm).mono ?_
  rintro e w1 ⟨v,ys,rfl,hys,ho,hb⟩
  have H1:=Lib.hid (H.out.below hb)
  have HB1:=Lib.hid (keepC hb HBC.out)
  have HT1:Hid (Typed w1 Bt 372):=Lib.hid (by obtain ⟨cs,h'⟩:=HBT.out;exact ⟨cs,(hb.block _ (Array.getElem?_eq_some_iff.1 h').1).trans h'⟩)
  have HY:=Lib.hid hys
  have HO:=Lib.hid ho
  have HBE:=Lib.hid hb
  obtain ⟨p,c,rfl⟩:=own_zero ho
  clear hys ho hb
  go_wp2_with fail
  refine (sortKeys_any Bt bp bd bl bm fro pages buffers clock w.heap.size M ys (.slice p ys.length c) w1 H1.out HB1.out HT1.out HC.out HY.out HO.out).mono ?_
  rintro e w2 ⟨⟨x,rfl⟩,zs,hz,ho2,hb2⟩
  have hl:ys.length=zs.length:=by rw [HY.out.length_eq,hz.length_eq]
  rw [hl] at ho2
  have HZ:=Lib.hid hz
  have HO2:=Lib.hid ho2
  have HB2:=Lib.hid (HBE.out.trans (hb2 w.heap.size HBE.out.size (Nat.le_refl _)))
  clear hz ho2 hb2
  go_wp2
  go_ret
  exact ⟨_,zs,rfl,HZ.out,HO2.out,HB2.out⟩
set_option maxRecDepth 20000 in
set_option maxHeartbeats 1000000 in
theorem order_any {N:Zone} (bp bd bl bm fro pages buffers clock:Nat) (M:List (Int × Buf)) (w:World) (h:PoolAt w N bp bd bl bm fro pages buffers clock M) (hc:clock < 4611686018427387904) :
    Calls Tryz.prog 261 #[.pointer (some ⟨bp,0,none⟩)] w fun e w'=>∃ (v:Value) (zs:List Int),e=.returned v∧zs.Perm (M.map (·.1))∧w'.ownsRow w.heap.size 3 1 v zs.length (zs.map (Value.int .i64))∧Below w.heap.size w w':=by
  have hb1:Below w.heap.size w (w.alloc (.cells #[.pointer (some ⟨bp,0,none⟩)] 372)):=(Below.refl _ w).alloc (Nat.le_refl _) _
  have HB:=Lib.hid hb1
  have HB2:Hid (Below w.heap.size w ((w.alloc (.cells #[.pointer (some ⟨bp,0,none⟩)] 372)).alloc (.cells #[.map (some bm)] 257))):=Lib.hid (hb1.alloc (by simp) _)
  have kb:=keepC hb1 h.load.1
  have HK:=Lib.hid kb
  have hlt:=cell_lt h.load.1
  have hh2:((w.alloc (.cells #[.pointer (some ⟨bp,0,none⟩)] 372)).alloc (.cells #[.map (some bm)] 257)).heap[w.heap.size]?=some (.cells #[.pointer (some ⟨bp,0,none⟩)] 372 (0,0)) :=
    (Below.heap_alloc _ _ _ (by simp)).trans (heap_alloc_new w _)
  have HT2:Hid (Typed ((w.alloc (.cells #[.pointer (some ⟨bp,0,none⟩)] 372)).alloc (.cells #[.map (some bm)] 257)) w.heap.size 372):=Lib.hid ⟨_,hh2⟩
  have HC2:Hid (((w.alloc (.cells #[.pointer (some ⟨bp,0,none⟩)] 372)).alloc (.cells #[.map (some bm)] 257)).cell? ⟨w.heap.size,0,none⟩=some (.pointer (some ⟨bp,0,none⟩))):=Lib.hid (by simp [World.cell?,hh2])
  have H2:=Lib.hid (h.below HB2.out)
  have HC:=Lib.hid hc
  clear h hb1 hh2 hc
  go_enter Tryz.func261,Tryz.ntmps261
  go_wp2_with fail
  refine (keys_any (some bm) _).mono ?_
  rintro e w1 ⟨rfl,rfl⟩
  go_wp2_with fail
  refine (sortedKeys_any (w.heap.size+1) w.heap.size bp bd bl bm fro pages buffers clock M _ H2.out ?hm HC2.out HT2.out HC.out).mono ?_
  case hm =>
    have e:=cellNew (w:=w.alloc (.cells #[.pointer (some ⟨bp,0,none⟩)] 372)) (cs:=#[.map (some bm)]) (t:=257) (j:=0) (v:=.map (some bm)) rfl
    rw [World.size_alloc] at e
    exact e
  rintro e w2 ⟨v,zs,rfl,hz,ho,hb⟩
  have HZ:=Lib.hid hz
  have HO:=Lib.hid (own_mono ho (base':=w.heap.size) (by simp;omega))
  have HB3:=Lib.hid (chainC HB2.out hb)
  obtain ⟨p,c,rfl⟩:=own_zero ho
  clear hz ho hb
  go_wp2
  go_ret
  exact ⟨_,zs,rfl,HZ.out,HO.out,HB3.out⟩
theorem own_at1 {w:World} {base n c:Nat} {e:TypeId} {p:Option Addr} {xs:List Value} (h:w.ownsRow base e 1 (.slice p n c) n xs) (hn:0 < n):∃ g,p=some ⟨g,0,none⟩∧base≤g∧Typed w g e∧∀ (j:Nat) (x:Value),xs[j]?=some x→w.cell? ⟨g,j,none⟩=some x:=by
  rcases h.2 with ⟨e',h0⟩ | ⟨g,cap,cur,e',hb,hg,h1,h2,h3,h4⟩
  · omega
  · cases e'
    refine ⟨g,rfl,hb,⟨_,hg⟩,fun j x hx=>?_⟩
    have hl:xs.length=n * 1:=h.1
    have hj:j < n * 1:=by rw [← hl];exact (List.getElem?_eq_some_iff.1 hx).1
    rw [← h4,List.getElem?_take_of_lt hj] at hx
    simp only [World.cell?,hg]
    simpa using hx
set_option maxRecDepth 20000 in
set_option maxHeartbeats 2000000 in
theorem victim_any {N:Zone} (bp bd bl bm fro pages buffers clock:Nat) (M:List (Int × Buf)) (w:World) (h:PoolAt w N bp bd bl bm fro pages buffers clock M) (hc:clock < 4611686018427387904) :
    Calls Tryz.prog 253 #[.pointer (some ⟨bp,0,none⟩)] w fun e w'=>((∃ n b,e=.returned (.tuple #[.int .i64 n,.bool true])∧(n,b)∈M∧b.pins=0) ∨ (e=.returned (.tuple #[.int .i64 0,.bool false])∧∀ x∈M,x.2.pins ≠ 0))∧Below w.heap.size w w':=by
  have H:=Lib.hid h
  have HC:=Lib.hid hc
  have k0:=h.load.1
  have hlt:=cell_lt k0
  have HK:=Lib.hid k0
  clear h hc
  go_enter Tryz.func253,Tryz.ntmps253
  go_wp2_with fail
  refine (order_any bp bd bl bm fro pages buffers clock M _ H.out HC.out).mono ?_
  rintro e w1 ⟨v,zs,rfl,hz,ho,hb⟩
  have HZ:=Lib.hid hz
  have HO:=Lib.hid ho
  have HB:=Lib.hid hb
  have H1:=Lib.hid (H.out.below hb)
  have k01:=keepC hb k0
  have hsm:zs.length≤100000:=by
    have h5:=hz.length_eq
    obtain ⟨_,_,_,_,_,h6,_⟩:=H.out.map
    simp [mapP] at h6 h5
    omega
  obtain ⟨p,c,rfl⟩:=own_zero ho
  obtain ⟨L,hL⟩:∃ L,L=zs.length:=⟨_,rfl⟩
  rw [← hL] at hsm ⊢
  have HL:=Lib.hid hL
  clear hz ho hb hL
  go_wp2_with fail
  go_loopw [11] (fun i wr=>∃ k:Nat,k≤L∧i=.int .i64 k∧Hid (∀ j x b,j < k→zs[j]?=some x→(x,b)∈M→b.pins ≠ 0)∧wr=w1) (fun i _=>L - (intOf i).toNat)
  case atStart=>exact ⟨0,by omega,rfl,Lib.hid (fun j x b hj=>by omega),rfl⟩
  case round =>
    obtain ⟨k,hk,rfl,HP,rfl⟩:=hrel
    by_cases hkl:k < L
    · obtain ⟨x,hx⟩:∃ x,zs[k]?=some x:=⟨_,List.getElem?_eq_getElem (by rw [← HL.out];exact hkl)⟩
      have hxm:x∈M.map (·.1):=HZ.out.mem_iff.1 (List.mem_of_getElem? hx)
      obtain ⟨⟨x',b⟩,hxb,hxe⟩:=List.mem_map.1 hxm
      obtain rfl:x'=x:=hxe
      have ho':=HO.out
      rw [← HL.out] at ho'
      obtain ⟨g,rfl,-,-,hcell⟩:=own_at1 ho' (by omega)
      have hx2:wr.cell? ⟨g,k,none⟩=some (.int .i64 x'):=hcell k _ (by simp [hx])
      have c3:=(H1.out.bufs _ hxb).cell.2.2.2.1
      have HLK:Hid (look (mapP M) x'=some (.pointer (some ⟨b.blk,0,none⟩))):=Lib.hid (by rw [look_mapP,look_of_mem H1.out.nodup hxb];rfl)
      have HX:=Lib.hid hx
      have HXB:=Lib.hid hxb
      clear hx hxm hxb hcell ho'
      by_cases hp:b.pins=0
      · have hd:((b.pins:Int) == 0)=true:=by rw [beq_iff_eq];omega
        have HPP:=Lib.hid hp
        clear hp
        go_wp2_with (at_lookup;refine wpList_look (KK:=intKeys) rfl _ _ 257 rfl 3 317 Tryz.underlying257 Tryz.underlying3 _ zbuf x' rfl rfl H1.out.map.is ?_;rw [HLK.out,Option.getD_some])
        go_returns
        exact ⟨.inl ⟨x',rfl,b,HXB.out,HPP.out⟩,HB.out⟩
      · have hd:((b.pins:Int) == 0)=false:=by rw [beq_eq_false_iff_ne];omega
        have HPP:=Lib.hid hp
        clear hp
        go_wp2_with (at_lookup;refine wpList_look (KK:=intKeys) rfl _ _ 257 rfl 3 317 Tryz.underlying257 Tryz.underlying3 _ zbuf x' rfl rfl H1.out.map.is ?_;rw [HLK.out,Option.getD_some])
        go_roundw
        case rel=>exact ⟨k+1,by omega,by congr 1,Lib.hid (fun j y c hj hy hm=>by
          rcases Nat.lt_or_ge j k with h' | h'
          · exact HP.out j y c h' hy hm
          · obtain rfl:j=k:=by omega
            rw [HX.out] at hy
            cases hy
            rw [one_key H1.out.nodup hm HXB.out]
            exact HPP.out),by first | rfl | trivial⟩
        case measure=>simp [intOf];omega
    · obtain rfl:k=L:=by omega
      go_wp2
      go_returns
      refine ⟨.inr ⟨rfl,fun x hx=>?_⟩,HB.out⟩
      have hm:x.1∈zs:=HZ.out.mem_iff.2 (List.mem_map.2 ⟨x,hx,rfl⟩)
      obtain ⟨j,hj⟩:=List.getElem?_of_mem hm
      exact HP.out j x.1 x.2 (by rw [HL.out];exact (List.getElem?_eq_some_iff.1 hj).1) hj hx
end Go.Proofs.YtheeomjfpnijbaaGreatDoor
end
section
namespace Go.Proofs.YtheeomjfpnijbaaGreatDoor
open Go.RowKit
section
variable {P:Program} {w:World} {b r:Nat} {m:List (Int × Value)} {kt:TypeId}
def heldR (v:Value):Option (DataW Value × List MemPlace):=some (DataW.held v,[])
def dataZ (m:List (Int × Value)):DataW Value:=.map ((m.map fun x=>(Lit.int .i64 x.1,DataW.held x.2)).foldr DataW.insert [])
theorem MapZ.ownsH (h:MapZ w b m) (hk:P.underlying kt=some (.int .i64)):w.ownsMap P kt heldR b m.length (dataZ m):=by
  obtain ⟨es,c,h1,h2,h3,h4,h5⟩:=h
  have hl:es.size=m.length:=by simpa using congrArg List.length h2
  have hrd:∀ x∈es.toList,∃ y∈m,x.key=.int .i64 y.1∧x.val=y.2∧WideElems.rd P kt heldR x=some (Lit.int .i64 y.1,.held y.2):=by
    intro x hx
    have:(x.key,x.val)∈es.toList.map (fun e=>(e.key,e.val)):=List.mem_map.2 ⟨x,hx,rfl⟩
    rw [h2] at this
    obtain ⟨y,hy,hye⟩:=List.mem_map.1 this
    simp only [Prod.mk.injEq] at hye
    have hkx:x.key=.int .i64 y.1:=hye.1.symm
    have hvx:x.val=y.2:=hye.2.symm
    refine ⟨y,hy,hkx,hvx,?_⟩
    have hko:=Maps.keyOf_int_mk (P:=P) hk (wfI (h5 y hy).1 (h5 y hy).2)
    simp [WideElems.rd,hkx,hko,hvx,heldR]
  refine ⟨es,c,h1,⟨by rw [hl];simp only [maxLen];omega,h3,fun x hx=>?_⟩,by omega,?_⟩
  · obtain ⟨y,-,-,-,hy⟩:=hrd x hx
    exact ⟨_,hy⟩
  · unfold dataZ
    congr 2
    have e:es.toList.map (WideElems.rg P kt heldR)=es.toList.map (fun e=>match e.key with | .int _ a=>(Lit.int .i64 a,DataW.held e.val) | _=>(.bool false,.nil)):=by
      refine List.map_congr_left fun x hx=>?_
      obtain ⟨y,-,hk,hv,hy⟩:=hrd x hx
      simp [WideElems.rg,hy,hk,hv]
    rw [e]
    have e2:=congrArg (List.map fun p:Value × Value=>match p.1 with | .int _ a=>(Lit.int .i64 a,DataW.held p.2) | _=>((.bool false:Lit),(DataW.nil:DataW Value))) h2
    simp only [List.map_map,Function.comp_def] at e2
    exact e2.symm
def ItZ (P:Program) (kt:TypeId) (w:World) (b r:Nat) (m:List (Int × Value)) (todo:Int→Bool) (cnt:Nat):Prop :=
  ∃ left,w.ranges P kt heldR b r m.length (dataZ m) left cnt∧(∀ x:Int,left (.int .i64 x)=todo x)∧(m.map (·.1)).Nodup∧∀ x∈m,-9223372036854775808≤x.1∧x.1 < 9223372036854775808
theorem ItZ.upd {S:Nat→Prop} {w':World} {todo:Int→Bool} {cnt:Nat} (h:ItZ P kt w b r m todo cnt) (hu:Upd S w w') (h1:¬ S b) (h2:¬ S r):ItZ P kt w' b r m todo cnt:=by
  obtain ⟨left,⟨es,clock,since,seen,c0,hb,F,hs,hD,hr,rest⟩,q⟩:=h
  exact ⟨left,⟨es,clock,since,seen,c0,(hu.block b (Array.getElem?_eq_some_iff.1 hb).1 h1).trans hb,F,hs,hD,(hu.block r (Array.getElem?_eq_some_iff.1 hr).1 h2).trans hr,rest⟩,q⟩
theorem ItZ.below {w':World} {todo:Int→Bool} {cnt:Nat} (h:ItZ P kt w b r m todo cnt) (hb:Below w.heap.size w w'):ItZ P kt w' b r m todo cnt:=h.upd (Upd.of_below' hb (fun _=>False)) (fun h=>h) (fun h=>h)
theorem ItZ.left_eq {todo:Int→Bool} {cnt:Nat} (h:ItZ P kt w b r m todo cnt):w.rangeLeft b r=cnt:=by
  obtain ⟨left,hr,-⟩:=h
  exact hr.left_eq
theorem has_dataZ (x:Int) (hx:(Lit.int .i64 x).wf=true):Maps.has (dataZ m) (.int .i64 x)=decide (x∈m.map (·.1)):=by
  rw [Bool.eq_iff_iff,decide_eq_true_iff]
  constructor
  · intro h
    obtain ⟨p,hp,hpk⟩:=List.any_eq_true.1 h
    obtain ⟨y,hy,rfl⟩:=List.mem_map.1 (mem_sorted.1 hp)
    have:=WideAt.sameKey_eq hpk
    simp only [Lit.int.injEq] at this
    exact List.mem_map.2 ⟨y,hy,by simpa using this⟩
  · intro h
    obtain ⟨y,hy,rfl⟩:=List.mem_map.1 h
    refine List.any_eq_true.2 ⟨(Lit.int .i64 y.1,DataW.held y.2),mem_sorted.2 (List.mem_map.2 ⟨y,hy,rfl⟩),?_⟩
    simp [Lit.sameKey]
variable {ops:Array Oper} {rest:List Oper} {o:Oper} {a:Act} {Q:Exit→Act→World→Prop}
theorem wpList_rangeZ (hg:o.guard=none) (mm:Operand) (t:TypeId) (hop:o.op=Op.range t mm) (et:TypeId) (ht:P.underlying t=some (.map kt et)) (hk:P.underlying kt=some (.int .i64)) (hm:a.eval mm=.map (some b)) (h:MapZ w b m)
    (hK:∀ w' todo,ItZ P kt w' b w.heap.size m todo m.length→(∀ x∈m.map (·.1),todo x=true)→Below w.heap.size w w'→w'.heap.size=w.heap.size+1→wpList P ops Q rest (a.put o.dst (.pointer (some ⟨w.heap.size,0,none⟩))) w') :
    wpList P ops Q (o :: rest) a w:=by
  have hz:=h
  refine wpList_range_own w hg mm t hop kt et (Maps.int_keyed hk) ht heldR b m.length (dataZ m) hm (h.ownsH hk) fun w' hr hgr hs=>?_
  obtain ⟨es,c,h1,h2,h3,h4,h5⟩:=hz
  have hcnt:Maps.size (dataZ m)=m.length:=by simp [Maps.size,dataZ,length_sorted]
  rw [hcnt] at hr
  refine hK w' (fun x=>Maps.has (dataZ m) (.int .i64 x)) ⟨_,hr,fun _=>rfl,h.nodup,h5⟩ (fun x hx=>?_) ⟨hgr.os,hgr.tape,hgr.output,hgr.size,fun k hk=>hgr.block k hk (by simp)⟩ hs
  obtain ⟨y,hy,rfl⟩:=List.mem_map.1 hx
  rw [has_dataZ y.1 (wfI (h5 y hy).1 (h5 y hy).2)]
  exact decide_eq_true hx
theorem wpList_nextZ (hg:o.guard=none) (it:Operand) (hop:o.op=Op.next it false) (hk:P.underlying kt=some (.int .i64)) {todo:Int→Bool} {cnt:Nat} (hit:a.eval it=.pointer (some ⟨r,0,none⟩)) (h:ItZ P kt w b r m todo cnt)
    (hDone:(∀ x,todo x=false)→wpList P ops Q rest (a.put o.dst (.tuple #[.bool false])) w)
    (hMore:∀ (x:Int) (v:Value) (w':World) (cnt':Nat),look m x=some v→todo x=true→ItZ P kt w' b r m (fun z=>todo z && decide (z ≠ x)) cnt'→cnt' < cnt→Upd (fun k=>k=r) w w'→w'.heap.size=w.heap.size →
      (Instr.entry (.pointer (some ⟨r,0,none⟩))).run P w'=.ok (.tuple #[.int .i64 x,v]) w'→wpList P ops Q rest (a.put o.dst (.tuple #[.bool true,.int .i64 x,v])) w') :
    wpList P ops Q (o :: rest) a w:=by
  obtain ⟨left,hr,htodo,hnd,hbd⟩:=h
  refine wpList_next_ranges w hg it hop kt (Maps.int_keyed hk) heldR (Value.int .i64) (fun v:Value=>v) (fun key kl hkey=>by obtain ⟨x,rfl,_⟩:=Maps.keyOf_int_inv hk hkey;exact ⟨x,rfl⟩) (fun v y _=>⟨v,rfl⟩) b r m.length (dataZ m) left cnt hit hr
    (fun _ hl=>hDone fun x=>by rw [← htodo];exact hl _) ?_
  intro x v kl y w' cnt' hkey hlk hv hat hrg hlt hgr hsz hen
  obtain ⟨x',ex,rfl,hwf⟩:=Maps.keyOf_int_inv hk hkey
  cases ex
  have hxm:x∈m.map (·.1):=by
    obtain ⟨es,clock,since,seen,c0,hb,F,hs,hD,hri,hold,hc,hl1,hl2,-⟩:=hr
    obtain ⟨e,he,hek⟩:=hl2 _ hlk
    have hmem:(WideElems.rg P kt heldR e)∈(es.toList.map (WideElems.rg P kt heldR)).foldr DataW.insert []:=mem_sorted.2 (List.mem_map.2 ⟨e,he,rfl⟩)
    have hD':(m.map fun x=>(Lit.int .i64 x.1,DataW.held x.2)).foldr DataW.insert []=(es.toList.map (WideElems.rg P kt heldR)).foldr DataW.insert []:=by
      unfold dataZ at hD
      exact DataW.map.inj hD
    rw [← hD'] at hmem
    obtain ⟨z,hz,hze⟩:=List.mem_map.1 (mem_sorted.1 hmem)
    have:=congrArg Prod.fst hze
    rw [hek] at this
    simp only [Lit.int.injEq] at this
    exact List.mem_map.2 ⟨z,hz,by simpa using this⟩
  obtain ⟨z,hz,rfl⟩:=List.mem_map.1 hxm
  have hlook:=look_of_mem hnd (show (z.1,z.2)∈m from hz)
  have hyv:y.1=DataW.held v:=by cases hv;rfl
  have hvz:v=z.2:=by
    have h1:=hat DataW.nil
    rw [hyv] at h1
    unfold dataZ DataW.atKey at h1
    simp only at h1
    cases hf:((m.map fun x=>(Lit.int .i64 x.1,DataW.held x.2)).foldr DataW.insert []).find? (fun p=>p.1.sameKey (.int .i64 z.1)) with
    | none=>rw [hf] at h1;cases h1
    | some p =>
      rw [hf] at h1
      obtain ⟨q,hq,rfl⟩:=List.mem_map.1 (mem_sorted.1 (List.mem_of_find?_eq_some hf))
      have hqs:=List.find?_some (p:=fun p:Lit × DataW Value=>p.1.sameKey (.int .i64 z.1)) hf
      have hqk:=WideAt.sameKey_eq hqs
      simp only [Lit.int.injEq,true_and] at hqk
      have h2:=look_of_mem hnd (show (q.1,q.2)∈m from hq)
      rw [hqk,hlook] at h2
      simp only [DataW.held.injEq] at h1
      rw [← h1]
      exact (Option.some.inj h2).symm
  rw [hvz] at hen ⊢
  refine hMore z.1 z.2 w' cnt' hlook (by rw [← htodo];exact hlk) ⟨_,hrg,fun q=>?_,hnd,hbd⟩ hlt ⟨hgr.os,hgr.tape,hgr.output,hgr.size,fun k hk hn=>hgr.block k hk (fun e=>hn (by cases e;rfl))⟩ hsz hen
  rw [htodo]
  congr 1
  rw [Bool.eq_iff_iff]
  simp [Lit.sameKey]
end
end Go.Proofs.YtheeomjfpnijbaaGreatDoor
end
