/- Lemmas: Tree, TreeOrd, Kvs, Trail, PutT, Env, PutS, Settle. -/
import Derived.Test.YtheeomjfpnijbaaGreatDoorProg
set_option linter.unusedVariables false
section
namespace Go.Proofs.YtheeomjfpnijbaaGreatDoor
abbrev Key:=List UInt8
theorem k_irrefl (a:Key):¬ a < a:=List.lt_irrefl a
theorem k_trans {a b c:Key} (h:a < b) (h':b < c):a < c:=List.lt_trans h h'
theorem k_le {a b:Key} (h:¬ b < a):a≤b:=List.not_lt.1 h
theorem k_nlt {a b:Key} (h:a≤b):¬ b < a:=List.not_lt.2 h
theorem k_tri (a b:Key):a < b ∨ a=b ∨ b < a:=by
  by_cases h:a < b
  · exact .inl h
  · by_cases h':b < a
    · exact .inr (.inr h')
    · exact .inr (.inl (List.le_antisymm (List.not_lt.1 h') (List.not_lt.1 h)))
theorem k_nil {a:Key} (h:a ≠ []):([]:Key) < a:=by
  cases a with
  | nil=>exact absurd rfl h
  | cons x a=>simp
theorem k_nil_le (a:Key):([]:Key)≤a:=k_le (by simp)
theorem k_lt_le {a b c:Key} (h:a < b) (h':b≤c):a < c:=by
  rcases k_tri b c with h1 | h1 | h1
  · exact k_trans h h1
  · exact h1 ▸ h
  · exact absurd h1 (k_nlt h')
theorem k_le_lt {a b c:Key} (h:a≤b) (h':b < c):a < c:=by
  rcases k_tri a b with h1 | h1 | h1
  · exact k_trans h1 h'
  · exact h1 ▸ h'
  · exact absurd h1 (k_nlt h)
theorem k_of_lt {a b:Key} (h:a < b):a≤b:=k_le (fun h'=>k_irrefl a (k_trans h h'))
theorem k_refl (a:Key):a≤a:=k_le (k_irrefl a)
theorem k_le_tr {a b c:Key} (h:a≤b) (h':b≤c):a≤c:=by
  rcases k_tri a b with h1 | h1 | h1
  · exact k_of_lt (k_lt_le h1 h')
  · exact h1 ▸ h'
  · exact absurd h1 (k_nlt h)
structure Cel where
  key:Key
  val:Key
  child:Nat
structure Nd where
  page:Nat
  leaf:Bool
  first:Nat
  cells:List Cel
def le2 (n:Nat):List UInt8:=[UInt8.ofNat n,UInt8.ofNat (n / 256)]
def celB (leaf:Bool) (c:Cel):List UInt8:=UInt8.ofNat c.key.length :: (c.key++if leaf then UInt8.ofNat c.val.length :: c.val else le2 c.child)
def Nd.load (d:Nd):List UInt8:=(if d.leaf then [1,UInt8.ofNat d.cells.length] else [2,UInt8.ofNat d.cells.length]++le2 d.first)++d.cells.flatMap (celB d.leaf)
def pad (xs:List UInt8):List UInt8:=xs++List.replicate (112 - xs.length) 0
theorem pad_length {xs:List UInt8} (h:xs.length≤112):(pad xs).length=112:=by simp [pad];omega
structure CelOk (leaf:Bool) (c:Cel):Prop where
  key:1≤c.key.length∧c.key.length≤12
  val:c.val.length≤12
  child:c.child < 65536
  isLeaf:leaf=true→c.child=0
  inner:leaf=false→c.val=[]
structure NdOk (d:Nd):Prop where
  cells:∀ c∈d.cells,CelOk d.leaf c
  sorted:(d.cells.map (·.key)).Pairwise (· < ·)
  first:d.first < 65536
  isLeaf:d.leaf=true→d.first=0
def nle (key:Key):List Key→Nat
  | []=>0
  | k :: ks=>if key < k then 0 else nle key ks+1
theorem nle_le (key:Key):∀ ks,nle key ks≤ks.length:=by
  intro ks
  induction ks with
  | nil=>exact Nat.le_refl _
  | cons k ks ih=>unfold nle;split <;> simp;omega
def Nd.hits (d:Nd) (key:Key):Bool:=decide (key∈d.cells.map (·.key))
def Nd.at_ (d:Nd) (key:Key):Nat:=nle key (d.cells.map (·.key))
def Nd.kid (d:Nd) (n:Nat):Nat:=match n with
  | 0=>d.first
  | n+1=>(d.cells[n]?.map (·.child)).getD 0
def halfL (leaf:Bool):List Cel→Nat→Nat
  | [],_=>0
  | c :: cs,size=>if 60≤size+(celB leaf c).length then 1 else halfL leaf cs (size+(celB leaf c).length)+1
def Nd.half (d:Nd):Nat:=halfL d.leaf d.cells 0
structure Met where
  root:Nat
  unused:Nat
  free:Nat
  levels:Nat
def Met.load (z:Met):List UInt8:=le2 z.root++le2 z.unused++le2 z.free++[UInt8.ofNat z.levels]
structure MetOk (P:Nat) (z:Met):Prop where
  unused:1≤z.unused∧z.unused≤P
  root:1≤z.root∧z.root < z.unused
  free:z.free < z.unused
  levels:1≤z.levels∧z.levels≤20
structure PSt where
  F:Nat→List UInt8
  u:Nat
def updF (F:Nat→List UInt8) (n:Nat) (xs:List UInt8):Nat→List UInt8:=fun k=>if k=n then xs else F k
def Within (xs ys:List UInt8) (a m:Nat):Prop:=∀ i,i < a ∨ a+m≤i→xs[i]?=ys[i]?
def CostOf (old new:List UInt8) (c:Nat):Prop:=∀ a m,a+m≤112→Within old new a m→c≤174+2 * m
def WriteR (cap:Nat) (a:PSt) (n:Nat) (xs:List UInt8) (e:Nat) (b:PSt):Prop :=
  (e=0∧b.F=updF a.F n xs∧a.u≤b.u∧∃ c,CostOf (a.F n) xs c∧b.u≤a.u+c) ∨
  (e=4∧b=a∧∃ c,CostOf (a.F n) xs c∧cap < a.u+c)
inductive TakeR (cap P:Nat) (a:PSt):Nat→Nat→PSt→Prop
  | full (z:Met) (hz:a.F 0=pad z.load) (ho:MetOk P z) (h0:z.free=0) (hu:P≤z.unused):TakeR cap P a 0 4 a
  | new (z:Met) (e:Nat) (b:PSt) (hz:a.F 0=pad z.load) (ho:MetOk P z) (h0:z.free=0) (hu:z.unused < P)
      (hw:WriteR cap a 0 (pad ({ z with unused:=z.unused+1 }:Met).load) e b):TakeR cap P a z.unused e b
  | old (z:Met) (f:Nat) (tl:List UInt8) (e:Nat) (b:PSt) (hz:a.F 0=pad z.load) (ho:MetOk P z) (h0:0 < z.free) (hf:a.F z.free=le2 f++tl) (hlt:f < z.unused)
      (hw:WriteR cap a 0 (pad ({ z with free:=f }:Met).load) e b):TakeR cap P a z.free e b
  | bad (z:Met) (f:Nat) (tl:List UInt8) (hz:a.F 0=pad z.load) (ho:MetOk P z) (h0:0 < z.free) (hf:a.F z.free=le2 f++tl) (hb:f < 65536) (hlt:z.unused≤f):TakeR cap P a 0 71 a
def Nd.left (d:Nd):Nd:={ d with cells:=d.cells.take d.half }
def Nd.right (d:Nd) (p:Nat):Nd:=if d.leaf then { page:=p,leaf:=true,first:=0,cells:=d.cells.drop d.half } else { page:=p,leaf:=false,first:=(d.cells[d.half]?.getD ⟨[],[],0⟩).child,cells:=d.cells.drop (d.half+1) }
def Nd.up (d:Nd) (p:Nat):Cel:=⟨(d.cells[d.half]?.getD ⟨[],[],0⟩).key,[],p⟩
inductive PartR (cap:Nat) (a:PSt) (d:Nd) (p:Nat):Nat→PSt→Prop
  | left (e:Nat) (b:PSt) (hw:WriteR cap a d.page (pad d.left.load) e b) (he:e ≠ 0):PartR cap a d p e b
  | right (e:Nat) (b b':PSt) (hw:WriteR cap a d.page (pad d.left.load) 0 b) (hw':WriteR cap b p (pad (d.right p).load) e b'):PartR cap a d p e b'
inductive RootR (cap P:Nat) (a:PSt) (first:Nat) (up:Cel):Nat→PSt→Prop
  | take (p e:Nat) (b:PSt) (ht:TakeR cap P a p e b) (he:e ≠ 0):RootR cap P a first up e b
  | page (p e:Nat) (b b':PSt) (ht:TakeR cap P a p 0 b) (hw:WriteR cap b p (pad (Nd.load ⟨p,false,first,[up]⟩)) e b') (he:e ≠ 0):RootR cap P a first up e b'
  | high (p:Nat) (z:Met) (b b':PSt) (ht:TakeR cap P a p 0 b) (hw:WriteR cap b p (pad (Nd.load ⟨p,false,first,[up]⟩)) 0 b') (hz:b'.F 0=pad z.load) (ho:MetOk P z) (hl:20≤z.levels):RootR cap P a first up 71 b'
  | meta_ (p e:Nat) (z:Met) (b b' b'':PSt) (ht:TakeR cap P a p 0 b) (hw:WriteR cap b p (pad (Nd.load ⟨p,false,first,[up]⟩)) 0 b') (hz:b'.F 0=pad z.load) (ho:MetOk P z) (hl:z.levels < 20)
      (hw':WriteR cap b' 0 (pad ({ z with root:=p,levels:=z.levels+1 }:Met).load) e b''):RootR cap P a first up e b''
structure Stp where
  nd:Nd
  nle:Nat
  hit:Bool
def insC (l:List Cel) (i:Nat) (c:Cel):List Cel:=l.take i++c :: l.drop i
inductive StoreR (cap P:Nat):PSt→Nd→List Stp→Nat→PSt→Prop
  | fits (a:PSt) (d:Nd) (above:List Stp) (e:Nat) (b:PSt) (h:d.load.length≤112) (hw:WriteR cap a d.page (pad d.load) e b):StoreR cap P a d above e b
  | take (a:PSt) (d:Nd) (above:List Stp) (p e:Nat) (b:PSt) (h:112 < d.load.length) (ht:TakeR cap P a p e b) (he:e ≠ 0):StoreR cap P a d above e b
  | part (a:PSt) (d:Nd) (above:List Stp) (p e:Nat) (b b':PSt) (h:112 < d.load.length) (ht:TakeR cap P a p 0 b) (hp:PartR cap b d p e b') (he:e ≠ 0):StoreR cap P a d above e b'
  | root (a:PSt) (d:Nd) (p e:Nat) (b b' c:PSt) (h:112 < d.load.length) (ht:TakeR cap P a p 0 b) (hp:PartR cap b d p 0 b') (hr:RootR cap P b' d.page (d.up p) e c):StoreR cap P a d [] e c
  | up (a:PSt) (d:Nd) (s:Stp) (above:List Stp) (p e:Nat) (b b' c:PSt) (h:112 < d.load.length) (ht:TakeR cap P a p 0 b) (hp:PartR cap b d p 0 b')
      (hs:StoreR cap P b' { s.nd with cells:=insC s.nd.cells s.nle (d.up p) } above e c):StoreR cap P a d (s :: above) e c
end Go.Proofs.YtheeomjfpnijbaaGreatDoor
end
section
namespace Go.Proofs.YtheeomjfpnijbaaGreatDoor
def Tr:Nat→Type
  | 0=>Nat × List (Key × Key)
  | n+1=>Nat × Tr n × List (Key × Tr n)
def Tr.pg:{n:Nat}→Tr n→Nat
  | 0,t=>t.1
  | _+1,t=>t.1
def Tr.nd:{n:Nat}→Tr n→Nd
  | 0,t=>⟨t.1,true,0,t.2.map fun x=>⟨x.1,x.2,0⟩⟩
  | _+1,t=>⟨t.1,false,t.2.1.pg,t.2.2.map fun x=>⟨x.1,[],x.2.pg⟩⟩
def Tr.nds:{n:Nat}→Tr n→List Nd
  | 0,t=>[Tr.nd (n:=0) t]
  | n+1,t=>Tr.nd (n:=n+1) t :: (t.2.1.nds++t.2.2.flatMap fun x=>x.2.nds)
def Tr.pgs {n:Nat} (t:Tr n):List Nat:=t.nds.map (·.page)
def Tr.flat:{n:Nat}→Tr n→List (Key × Key)
  | 0,t=>t.2
  | _+1,t=>t.2.1.flat++t.2.2.flatMap fun x=>x.2.flat
theorem Tr.nd_page:∀ {n:Nat} (t:Tr n),t.nd.page=t.pg
  | 0,_=>rfl
  | _+1,_=>rfl
theorem Tr.nd_mem:∀ {n:Nat} (t:Tr n),t.nd∈t.nds
  | 0,t=>by simp [nds]
  | _+1,t=>by simp [nds]
theorem Tr.pg_mem {n:Nat} (t:Tr n):t.pg∈t.pgs:=List.mem_map.2 ⟨t.nd,t.nd_mem,t.nd_page⟩
theorem Tr.pgs_succ {n:Nat} (t:Tr (n+1)):t.pgs=t.pg :: (t.2.1.pgs++t.2.2.flatMap fun x=>x.2.pgs):=by
  unfold pgs
  show (Tr.nd (n:=n+1) t :: (t.2.1.nds++t.2.2.flatMap fun x=>x.2.nds)).map (·.page)=_
  rw [List.map_cons,List.map_append,List.map_flatMap]
  rfl
def OrdL {α:Type} (R:α→Key→Option Key→Prop):α→List (Key × α)→Key→Option Key→Prop
  | c,[],lo,hi=>R c lo hi
  | c,x :: cs,lo,hi=>lo < x.1∧(∀ h,hi=some h→x.1 < h)∧R c lo (some x.1)∧OrdL R x.2 cs x.1 hi
def Rise (l:List (Key × Key)):Prop:=(l.map (·.1)).Pairwise (· < ·)
def InB (lo:Key) (hi:Option Key) (k:Key):Prop:=lo≤k∧∀ h,hi=some h→k < h
def Tr.Ord:{n:Nat}→Tr n→Key→Option Key→Prop
  | 0,t,lo,hi=>Rise t.2∧∀ x∈t.2,InB lo hi x.1
  | _+1,t,lo,hi=>OrdL Tr.Ord t.2.1 t.2.2 lo hi
def goL {α:Type} (key:Key):α→List (Key × α)→α
  | c,[]=>c
  | c,x :: cs=>if key < x.1 then c else goL key x.2 cs
def putL {α:Type} (key:Key) (y:α):α→List (Key × α)→α × List (Key × α)
  | _,[]=>(y,[])
  | c,x :: cs=>if key < x.1 then (y,x :: cs) else (c,(x.1,(putL key y x.2 cs).1) :: (putL key y x.2 cs).2)
def putL2 {α:Type} (key:Key) (y:α) (up:Key × α):α→List (Key × α)→α × List (Key × α)
  | _,[]=>(y,[up])
  | c,x :: cs=>if key < x.1 then (y,up :: x :: cs) else (c,(x.1,(putL2 key y up x.2 cs).1) :: (putL2 key y up x.2 cs).2)
theorem InB.mono {lo lo':Key} {hi hi':Option Key} {k:Key} (h:InB lo hi k) (h1:lo'≤lo) (h2:hi'=hi ∨ hi'=none ∨ ∃ a b,hi=some a∧hi'=some b∧a≤b):InB lo' hi' k:=by
  refine ⟨k_le_tr h1 h.1,fun b hb=>?_⟩
  rcases h2 with rfl | rfl | ⟨a,b',rfl,rfl,hab⟩
  · exact h.2 b hb
  · cases hb
  · cases hb;exact k_lt_le (h.2 a rfl) hab
def HiLe (hi hi':Option Key):Prop:=hi'=hi ∨ hi'=none ∨ ∃ a b,hi=some a∧hi'=some b∧a≤b
theorem OrdL.mono {α:Type} {R:α→Key→Option Key→Prop} (hR:∀ c lo lo' hi hi',R c lo hi→lo'≤lo→HiLe hi hi'→R c lo' hi') :
    ∀ (cs:List (Key × α)) (c:α) (lo lo':Key) (hi hi':Option Key),OrdL R c cs lo hi→lo'≤lo→HiLe hi hi'→OrdL R c cs lo' hi':=by
  intro cs
  induction cs with
  | nil=>intro c lo lo' hi hi' h h1 h2;exact hR _ _ _ _ _ h h1 h2
  | cons x cs ih =>
    intro c lo lo' hi hi' h h1 h2
    obtain ⟨a,b,d,e⟩:=h
    refine ⟨k_le_lt h1 a,fun k hk=>?_,hR _ _ _ _ _ d h1 (.inl rfl),ih _ _ _ _ _ e (k_refl _) h2⟩
    rcases h2 with rfl | rfl | ⟨p,q,rfl,rfl,hpq⟩
    · exact b k hk
    · cases hk
    · cases hk;exact k_lt_le (b p rfl) hpq
theorem Tr.Ord.mono:∀ {n:Nat} {t:Tr n} {lo lo':Key} {hi hi':Option Key},t.Ord lo hi→lo'≤lo→HiLe hi hi'→t.Ord lo' hi'
  | 0,t,lo,lo',hi,hi',h,h1,h2=>⟨h.1,fun x hx=>(h.2 x hx).mono h1 h2⟩
  | n+1,t,lo,lo',hi,hi',h,h1,h2=>OrdL.mono (fun c a a' b b' hc x y=>Tr.Ord.mono (t:=c) hc x y) _ _ _ _ _ _ h h1 h2
def flatL {α:Type} (f:α→List (Key × Key)) (c:α) (cs:List (Key × α)):List (Key × Key):=f c++cs.flatMap fun x=>f x.2
theorem Rise.append {a b:List (Key × Key)} {k:Key} (ha:Rise a) (hb:Rise b) (h1:∀ x∈a,x.1 < k) (h2:∀ x∈b,k≤x.1):Rise (a++b):=by
  unfold Rise at *
  rw [List.map_append,List.pairwise_append]
  refine ⟨ha,hb,fun x hx y hy=>?_⟩
  obtain ⟨x',hx',rfl⟩:=List.mem_map.1 hx
  obtain ⟨y',hy',rfl⟩:=List.mem_map.1 hy
  exact k_lt_le (h1 x' hx') (h2 y' hy')
theorem OrdL.flat {α:Type} {R:α→Key→Option Key→Prop} {f:α→List (Key × Key)} (hR:∀ c lo hi,R c lo hi→Rise (f c)∧∀ x∈f c,InB lo hi x.1) :
    ∀ (cs:List (Key × α)) (c:α) (lo:Key) (hi:Option Key),OrdL R c cs lo hi→Rise (flatL f c cs)∧∀ x∈flatL f c cs,InB lo hi x.1:=by
  intro cs
  induction cs with
  | nil =>
    intro c lo hi h
    have:=hR c lo hi h
    simpa [flatL] using this
  | cons y cs ih =>
    intro c lo hi h
    obtain ⟨a,b,d,e⟩:=h
    obtain ⟨h1,h2⟩:=hR _ _ _ d
    obtain ⟨h3,h4⟩:=ih _ _ _ e
    have e':flatL f c (y :: cs)=f c++flatL f y.2 cs:=by simp [flatL]
    rw [e']
    refine ⟨h1.append h3 (k:=y.1) (fun x hx=>(h2 x hx).2 _ rfl) (fun x hx=>(h4 x hx).1),fun x hx=>?_⟩
    rcases List.mem_append.1 hx with h | h
    · refine ⟨(h2 x h).1,fun k hk=>k_trans ((h2 x h).2 _ rfl) (b k hk)⟩
    · exact ⟨k_le_tr (k_of_lt a) (h4 x h).1,(h4 x h).2⟩
theorem Tr.Ord.flat:∀ {n:Nat} {t:Tr n} {lo:Key} {hi:Option Key},t.Ord lo hi→Rise t.flat∧∀ x∈t.flat,InB lo hi x.1
  | 0,t,lo,hi,h=>h
  | n+1,t,lo,hi,h=>OrdL.flat (R:=Tr.Ord (n:=n)) (f:=Tr.flat (n:=n)) (fun c lo hi hc=>Tr.Ord.flat hc) _ _ _ _ h
theorem OrdL.keys {α:Type} {R:α→Key→Option Key→Prop}:∀ (cs:List (Key × α)) (c:α) (lo:Key) (hi:Option Key),OrdL R c cs lo hi→(cs.map (·.1)).Pairwise (· < ·)∧∀ k∈cs.map (·.1),lo < k∧∀ h,hi=some h→k < h:=by
  intro cs
  induction cs with
  | nil=>intro c lo hi h;simp
  | cons x cs ih =>
    intro c lo hi h
    obtain ⟨a,b,d,e⟩:=h
    obtain ⟨h1,h2⟩:=ih _ _ _ e
    refine ⟨List.pairwise_cons.2 ⟨fun k hk=>(h2 k hk).1,h1⟩,fun k hk=>?_⟩
    rcases List.mem_cons.1 hk with rfl | hk
    · exact ⟨a,b⟩
    · exact ⟨k_trans a (h2 k hk).1,(h2 k hk).2⟩
theorem OrdL.at {α:Type} {R:α→Key→Option Key→Prop} {f:α→List (Key × Key)} (key:Key) (hR:∀ c lo hi,R c lo hi→Rise (f c)∧∀ x∈f c,InB lo hi x.1) :
    ∀ (cs:List (Key × α)) (c:α) (lo:Key) (hi:Option Key),OrdL R c cs lo hi→InB lo hi key →
      ∃ (lo':Key) (hi':Option Key) (pre post:List (Key × Key)),R (goL key c cs) lo' hi'∧InB lo' hi' key∧lo≤lo'∧(∀ x∈pre,x.1 < lo')∧(∀ x∈post,∀ h,hi'=some h→h≤x.1)∧(hi'=none→post=[])∧flatL f c cs=pre++(f (goL key c cs)++post) ∧
        (∀ y,R y lo' hi'→OrdL R (putL key y c cs).1 (putL key y c cs).2 lo hi∧flatL f (putL key y c cs).1 (putL key y c cs).2=pre++(f y++post)) ∧
        (∀ y z k,lo' < k→(∀ h,hi'=some h→k < h)→R y lo' (some k)→R z k hi'→OrdL R (putL2 key y (k,z) c cs).1 (putL2 key y (k,z) c cs).2 lo hi∧flatL f (putL2 key y (k,z) c cs).1 (putL2 key y (k,z) c cs).2=pre++(f y++(f z++post))):=by
  intro cs
  induction cs with
  | nil =>
    intro c lo hi h hk
    refine ⟨lo,hi,[],[],h,hk,k_refl _,by simp,by simp,fun _=>rfl,by simp [flatL,goL],fun y hy=>⟨hy,by simp [flatL,putL]⟩,fun y z k h1 h2 h3 h4=>⟨⟨h1,h2,h3,h4⟩,by simp [flatL,putL2]⟩⟩
  | cons x cs ih =>
    intro c lo hi h hk
    obtain ⟨a,b,d,e⟩:=h
    by_cases hlt:key < x.1
    · have e':∀ y:α,flatL f y (x :: cs)=f y++flatL f x.2 cs:=fun y=>by simp [flatL]
      have hfl:=OrdL.flat hR _ _ _ _ e
      refine ⟨lo,some x.1,[],flatL f x.2 cs,?_,⟨hk.1,fun h hh=>by cases hh;exact hlt⟩,k_refl _,by simp,fun z hz h hh=>by cases hh;exact (hfl.2 z hz).1,nofun,?_,fun y hy=>?_,fun y z k h1 h2 h3 h4=>?_⟩
      · rw [goL,if_pos hlt];exact d
      · rw [goL,if_pos hlt,e',List.nil_append]
      · rw [putL,if_pos hlt]
        exact ⟨⟨a,b,hy,e⟩,by rw [e',List.nil_append]⟩
      · rw [putL2,if_pos hlt]
        refine ⟨⟨h1,fun h hh=>k_trans (h2 _ rfl) (b h hh),h3,h2 _ rfl,fun h hh=>b h hh,h4,e⟩,by simp [flatL]⟩
    · have hge:x.1≤key:=k_le hlt
      obtain ⟨lo',hi',pre,post,r1,r2,r3,r4,r5,r6,r7,r8,r9⟩:=ih x.2 x.1 hi e ⟨hge,hk.2⟩
      have e':∀ (y z:α) (l:List (Key × α)),flatL f y ((x.1,z) :: l)=f y++flatL f z l:=fun y z l=>by simp [flatL]
      have hc:=hR _ _ _ d
      refine ⟨lo',hi',f c++pre,post,?_,r2,k_le_tr (k_of_lt a) r3,fun z hz=>?_,r5,r6,?_,fun y hy=>?_,fun y z k h1 h2 h3 h4=>?_⟩
      · rw [goL,if_neg hlt];exact r1
      · rcases List.mem_append.1 hz with h | h
        · exact k_lt_le ((hc.2 z h).2 _ rfl) r3
        · exact r4 z h
      · rw [goL,if_neg hlt]
        have:=e' c x.2 cs
        rw [show (x.1,x.2)=x from rfl] at this
        rw [this,r7,List.append_assoc]
      · rw [putL,if_neg hlt]
        obtain ⟨q1,q2⟩:=r8 y hy
        exact ⟨⟨a,b,d,q1⟩,by rw [e',q2,List.append_assoc]⟩
      · rw [putL2,if_neg hlt]
        obtain ⟨q1,q2⟩:=r9 y z k h1 h2 h3 h4
        exact ⟨⟨a,b,d,q1⟩,by rw [e',q2,List.append_assoc]⟩
end Go.Proofs.YtheeomjfpnijbaaGreatDoor
end
section
namespace Go.Proofs.YtheeomjfpnijbaaGreatDoor
def insK (key val:Key):List (Key × Key)→List (Key × Key)
  | []=>[(key,val)]
  | x :: l=>if key < x.1 then (key,val) :: x :: l else if x.1=key then (key,val) :: l else x :: insK key val l
theorem insK_app {key val:Key} {m post:List (Key × Key)}:∀ {pre:List (Key × Key)},(∀ x∈pre,x.1 < key)→(∀ x∈post,key < x.1)→insK key val (pre++(m++post))=pre++(insK key val m++post):=by
  intro pre
  induction pre with
  | nil =>
    intro _ h
    simp only [List.nil_append]
    induction m with
    | nil =>
      cases post with
      | nil=>rfl
      | cons x l=>simp only [List.nil_append,insK];rw [if_pos (h x (by simp))];rfl
    | cons y m ih =>
      simp only [List.cons_append,insK]
      split
      · rfl
      · split
        · rfl
        · rw [ih];rfl
  | cons y pre ih =>
    intro h1 h2
    have h:=h1 y (by simp)
    simp only [List.cons_append,insK]
    rw [if_neg (k_nlt (k_of_lt h)),if_neg (fun e=>by rw [e] at h;exact k_irrefl _ h),ih (fun x hx=>h1 x (by simp [hx])) h2]
theorem mem_insK {key val:Key} {x:Key × Key}:∀ {l:List (Key × Key)},x∈insK key val l→x=(key,val) ∨ x∈l:=by
  intro l
  induction l with
  | nil=>intro h;exact .inl (by simpa [insK] using h)
  | cons y l ih =>
    intro h
    unfold insK at h
    split at h
    · rcases List.mem_cons.1 h with h | h
      · exact .inl h
      · exact .inr h
    · split at h
      · rcases List.mem_cons.1 h with h | h
        · exact .inl h
        · exact .inr (by simp [h])
      · rcases List.mem_cons.1 h with h | h
        · exact .inr (by simp [h])
        · rcases ih h with h | h
          · exact .inl h
          · exact .inr (by simp [h])
theorem Rise.cons {x:Key × Key} {l:List (Key × Key)}:Rise (x :: l) ↔ (∀ y∈l,x.1 < y.1)∧Rise l:=by
  unfold Rise
  rw [List.map_cons,List.pairwise_cons]
  simp
theorem Rise.insK {key val:Key}:∀ {l:List (Key × Key)},Rise l→Rise (insK key val l):=by
  intro l
  induction l with
  | nil=>intro _;simp [Proofs.YtheeomjfpnijbaaGreatDoor.insK,Rise]
  | cons y l ih =>
    intro h
    obtain ⟨h1,h2⟩:=Rise.cons.1 h
    unfold Proofs.YtheeomjfpnijbaaGreatDoor.insK
    split
    · rename_i hlt
      exact Rise.cons.2 ⟨fun z hz=>by rcases List.mem_cons.1 hz with rfl | hz;exact hlt;exact k_trans hlt (h1 z hz),h⟩
    · split
      · rename_i e
        exact Rise.cons.2 ⟨fun z hz=>by rw [← e];exact h1 z hz,h2⟩
      · rename_i hn hne
        refine Rise.cons.2 ⟨fun z hz=>?_,ih h2⟩
        rcases mem_insK hz with rfl | hz
        · rcases k_tri y.1 key with h | h | h
          · exact h
          · exact absurd h hne
          · exact absurd h hn
        · exact h1 z hz
def kids {α:Type} (c:α) (cs:List (Key × α)):List α:=c :: cs.map (·.2)
theorem kids_at {α:Type} (key:Key):∀ (cs:List (Key × α)) (c:α),∃ l r,kids c cs=l++goL key c cs :: r∧l.length=nle key (cs.map (·.1)) ∧
    (∀ y,kids (putL key y c cs).1 (putL key y c cs).2=l++y :: r)∧(∀ y up,kids (putL2 key y up c cs).1 (putL2 key y up c cs).2=l++y :: up.2 :: r):=by
  intro cs
  induction cs with
  | nil=>intro c;exact ⟨[],[],rfl,rfl,fun _=>rfl,fun _ _=>rfl⟩
  | cons x cs ih =>
    intro c
    by_cases h:key < x.1
    · refine ⟨[],kids x.2 cs,?_,?_,fun y=>?_,fun y up=>?_⟩
      · rw [goL,if_pos h];rfl
      · rw [List.map_cons,nle,if_pos h];rfl
      · rw [putL,if_pos h];rfl
      · rw [putL2,if_pos h];rfl
    · obtain ⟨l,r,h1,h2,h3,h4⟩:=ih x.2
      refine ⟨c :: l,r,?_,?_,fun y=>?_,fun y up=>?_⟩
      · rw [goL,if_neg h,List.cons_append,← h1];rfl
      · rw [List.map_cons,nle,if_neg h,List.length_cons,h2]
      · rw [putL,if_neg h,List.cons_append,← h3 y];rfl
      · rw [putL2,if_neg h,List.cons_append,← h4 y up];rfl
theorem putL_map {α β:Type} (key:Key) (g:α→β) (y:α):∀ (cs:List (Key × α)) (c:α),g y=g (goL key c cs) →
    g (putL key y c cs).1=g c∧(putL key y c cs).2.map (fun x=>(x.1,g x.2))=cs.map (fun x=>(x.1,g x.2)):=by
  intro cs
  induction cs with
  | nil=>intro c h;exact ⟨h,rfl⟩
  | cons x cs ih =>
    intro c h
    by_cases hlt:key < x.1
    · rw [goL,if_pos hlt] at h
      rw [putL,if_pos hlt]
      exact ⟨h,rfl⟩
    · rw [goL,if_neg hlt] at h
      rw [putL,if_neg hlt]
      obtain ⟨h1,h2⟩:=ih x.2 h
      refine ⟨rfl,?_⟩
      simp only [List.map_cons,h1,h2]
theorem putL2_map {α β:Type} (key:Key) (g:α→β) (y:α) (up:Key × α):∀ (cs:List (Key × α)) (c:α),g y=g (goL key c cs) →
    g (putL2 key y up c cs).1=g c∧(putL2 key y up c cs).2.map (fun x=>(x.1,g x.2))=(cs.map (fun x=>(x.1,g x.2))).take (nle key (cs.map (·.1)))++(up.1,g up.2) :: (cs.map (fun x=>(x.1,g x.2))).drop (nle key (cs.map (·.1))):=by
  intro cs
  induction cs with
  | nil=>intro c h;exact ⟨h,rfl⟩
  | cons x cs ih =>
    intro c h
    by_cases hlt:key < x.1
    · rw [goL,if_pos hlt] at h
      have e:nle key ((x :: cs).map (·.1))=0:=by simp only [List.map_cons,nle,if_pos hlt]
      rw [putL2,if_pos hlt,e]
      exact ⟨h,rfl⟩
    · rw [goL,if_neg hlt] at h
      have e:nle key ((x :: cs).map (·.1))=nle key (cs.map (·.1))+1:=by simp only [List.map_cons,nle,if_neg hlt]
      rw [putL2,if_neg hlt,e]
      obtain ⟨h1,h2⟩:=ih x.2 h
      refine ⟨rfl,?_⟩
      simp only [List.map_cons,h1,h2,List.take_succ_cons,List.drop_succ_cons,List.cons_append]
end Go.Proofs.YtheeomjfpnijbaaGreatDoor
end
section
namespace Go.Proofs.YtheeomjfpnijbaaGreatDoor
structure Holds (P:Nat) (F:Nat→List UInt8) (d:Nd):Prop where
  page:1≤d.page∧d.page < P
  ok:NdOk d
  load:d.load.length≤112
  at_:F d.page=pad d.load
inductive Trail (P:Nat) (F:Nat→List UInt8) (key:Key):Nat→List Nd→Prop
  | leaf (d:Nd) (h:Holds P F d) (hl:d.leaf=true):Trail P F key d.page [d]
  | down (d:Nd) (ds:List Nd) (h:Holds P F d) (hl:d.leaf=false) (ht:Trail P F key (d.kid (d.at_ key)) ds):Trail P F key d.page (d :: ds)
theorem Trail.ne {P:Nat} {F:Nat→List UInt8} {key:Key} {n:Nat} {ds:List Nd} (h:Trail P F key n ds):ds ≠ []:=by cases h <;> simp
theorem Trail.cases' {P:Nat} {F:Nat→List UInt8} {key:Key} {n:Nat} {ds:List Nd} (h:Trail P F key n ds) :
    ∃ d r,ds=d :: r∧d.page=n∧Holds P F d∧d.leaf=decide (r.length=0)∧(r ≠ []→Trail P F key (d.kid (d.at_ key)) r):=by
  cases h with
  | leaf d h hl=>exact ⟨d,[],rfl,rfl,h,by rw [hl];rfl,fun h=>absurd rfl h⟩
  | down d ds h hl ht =>
    refine ⟨d,ds,rfl,rfl,h,?_,fun _=>ht⟩
    rw [hl]
    cases ds with
    | nil=>exact absurd rfl ht.ne
    | cons x xs=>simp
end Go.Proofs.YtheeomjfpnijbaaGreatDoor
end
section
namespace Go.Proofs.YtheeomjfpnijbaaGreatDoor
def Tr.sub (key:Key) {n:Nat} (t:Tr (n+1)):Tr n:=goL key t.2.1 t.2.2
def Tr.put1 (key:Key) {n:Nat} (t:Tr (n+1)) (y:Tr n):Tr (n+1):=(t.1,putL key y t.2.1 t.2.2)
def Tr.put2 (key:Key) {n:Nat} (t:Tr (n+1)) (y:Tr n) (up:Key × Tr n):Tr (n+1):=(t.1,putL2 key y up t.2.1 t.2.2)
def Tr.kids {n:Nat} (t:Tr (n+1)):List (Tr n):=Proofs.YtheeomjfpnijbaaGreatDoor.kids t.2.1 t.2.2
theorem flatL_kids {α β:Type} (f:α→List β) (c:α) (cs:List (Key × α)):(f c++cs.flatMap fun x=>f x.2)=(Proofs.YtheeomjfpnijbaaGreatDoor.kids c cs).flatMap f:=by
  unfold Proofs.YtheeomjfpnijbaaGreatDoor.kids
  rw [List.flatMap_cons,List.flatMap_map]
theorem Tr.nds_eq {n:Nat} (t:Tr (n+1)):t.nds=t.nd :: t.kids.flatMap Tr.nds:=by
  show t.nd :: (t.2.1.nds++t.2.2.flatMap fun x=>x.2.nds)=_
  rw [flatL_kids]
  rfl
theorem Tr.flat_eq {n:Nat} (t:Tr (n+1)):t.flat=t.kids.flatMap Tr.flat:=by
  show t.2.1.flat++(t.2.2.flatMap fun x=>x.2.flat)=_
  rw [flatL_kids]
  rfl
theorem Tr.pgs_eq {n:Nat} (t:Tr (n+1)):t.pgs=t.pg :: t.kids.flatMap Tr.pgs:=by
  rw [Tr.pgs_succ,flatL_kids]
  rfl
def Tr.keys {n:Nat} (t:Tr (n+1)):List Key:=t.2.2.map (·.1)
theorem Tr.nd_keys {n:Nat} (t:Tr (n+1)):t.nd.cells.map (·.key)=t.keys:=by
  show ((t.2.2.map fun x=>(⟨x.1,[],x.2.pg⟩:Cel)).map (·.key))=t.2.2.map (·.1)
  rw [List.map_map]
  rfl
theorem Tr.nd_at {n:Nat} (t:Tr (n+1)) (key:Key):t.nd.at_ key=nle key t.keys:=by unfold Nd.at_;rw [t.nd_keys]
theorem Tr.kids_at {n:Nat} (t:Tr (n+1)) (key:Key):∃ l r,t.kids=l++t.sub key :: r∧l.length=t.nd.at_ key∧(∀ y,(t.put1 key y).kids=l++y :: r)∧(∀ y up,(t.put2 key y up).kids=l++y :: up.2 :: r):=by
  obtain ⟨l,r,h1,h2,h3,h4⟩:=Proofs.YtheeomjfpnijbaaGreatDoor.kids_at key t.2.2 t.2.1
  exact ⟨l,r,h1,by rw [t.nd_at];exact h2,h3,h4⟩
theorem Tr.kid_sub {n:Nat} (t:Tr (n+1)) (key:Key):t.nd.kid (t.nd.at_ key)=(t.sub key).pg:=by
  obtain ⟨l,r,h1,h2,-,-⟩:=t.kids_at key
  have h3:t.kids[t.nd.at_ key]?=some (t.sub key):=by rw [h1,← h2];simp
  unfold Tr.kids Proofs.YtheeomjfpnijbaaGreatDoor.kids at h3
  unfold Nd.kid
  split
  · rename_i e
    rw [e] at h3
    simp at h3
    rw [← h3]
    rfl
  · rename_i m e
    rw [e] at h3
    rw [List.getElem?_cons_succ,List.getElem?_map] at h3
    show (((t.2.2.map fun x=>(⟨x.1,[],x.2.pg⟩:Cel))[m]?.map (·.child)).getD 0)=_
    rw [List.getElem?_map]
    cases hx:t.2.2[m]? with
    | none=>rw [hx] at h3;cases h3
    | some x=>rw [hx] at h3;have h4:x.2=t.sub key:=Option.some.inj h3;rw [← h4];rfl
theorem Tr.nd_put1 {n:Nat} (t:Tr (n+1)) (key:Key) (y:Tr n) (h:y.pg=(t.sub key).pg):(t.put1 key y).nd=t.nd:=by
  obtain ⟨h1,h2⟩:=putL_map key Tr.pg y t.2.2 t.2.1 h
  have h3:=congrArg (List.map fun x:Key × Nat=>(⟨x.1,[],x.2⟩:Cel)) h2
  rw [List.map_map,List.map_map] at h3
  show (⟨t.1,false,(putL key y t.2.1 t.2.2).1.pg,(putL key y t.2.1 t.2.2).2.map fun x=>⟨x.1,[],x.2.pg⟩⟩:Nd)=⟨t.1,false,t.2.1.pg,t.2.2.map fun x=>⟨x.1,[],x.2.pg⟩⟩
  rw [h1]
  congr 1
theorem Tr.nd_put2 {n:Nat} (t:Tr (n+1)) (key:Key) (y:Tr n) (up:Key × Tr n) (h:y.pg=(t.sub key).pg):(t.put2 key y up).nd={ t.nd with cells:=insC t.nd.cells (t.nd.at_ key) ⟨up.1,[],up.2.pg⟩ }:=by
  obtain ⟨h1,h2⟩:=putL2_map key Tr.pg y up t.2.2 t.2.1 h
  have h3:=congrArg (List.map fun x:Key × Nat=>(⟨x.1,[],x.2⟩:Cel)) h2
  rw [List.map_append,List.map_cons,List.map_take,List.map_drop,List.map_map,List.map_map] at h3
  show (⟨t.1,false,(putL2 key y up t.2.1 t.2.2).1.pg,(putL2 key y up t.2.1 t.2.2).2.map fun x=>⟨x.1,[],x.2.pg⟩⟩:Nd)=⟨t.1,false,t.2.1.pg,insC (t.2.2.map fun x=>(⟨x.1,[],x.2.pg⟩:Cel)) (t.nd.at_ key) ⟨up.1,[],up.2.pg⟩⟩
  rw [h1,t.nd_at]
  congr 1
def Tr.lf (key:Key):{n:Nat}→Tr n→Tr 0
  | 0,t=>t
  | _+1,t=>(goL key t.2.1 t.2.2).lf key
def Tr.path (key:Key):{n:Nat}→Tr n→List Nd
  | 0,t=>[Tr.nd (n:=0) t]
  | n+1,t=>Tr.nd (n:=n+1) t :: (goL key t.2.1 t.2.2).path key
def Tr.ups (key:Key):{n:Nat}→Tr n→List Stp→List Stp
  | 0,_,acc=>acc
  | n+1,t,acc=>(goL key t.2.1 t.2.2).ups key (⟨Tr.nd (n:=n+1) t,Nd.at_ (Tr.nd (n:=n+1) t) key,false⟩ :: acc)
theorem Tr.lf_mem (key:Key):∀ {n:Nat} (t:Tr n),(t.lf key).nd∈t.nds
  | 0,t=>by simp [lf,nds]
  | n+1,t=>by
    rw [t.nds_eq]
    obtain ⟨l,r,h,-⟩:=t.kids_at key
    refine List.mem_cons_of_mem _ (List.mem_flatMap.2 ⟨t.sub key,by rw [h];simp,Tr.lf_mem key (t.sub key)⟩)
theorem Tr.sub_nds {n:Nat} (t:Tr (n+1)) (key:Key) {d:Nd} (h:d∈(t.sub key).nds):d∈t.nds:=by
  rw [t.nds_eq]
  obtain ⟨l,r,e,-⟩:=t.kids_at key
  exact List.mem_cons_of_mem _ (List.mem_flatMap.2 ⟨t.sub key,by rw [e];simp,h⟩)
theorem Tr.trail {P:Nat} {F:Nat→List UInt8} (key:Key):∀ {n:Nat} (t:Tr n),(∀ d∈t.nds,Holds P F d)→Trail P F key t.pg (t.path key)
  | 0,t,h=>by
    have:=Trail.leaf (key:=key) (Tr.nd (n:=0) t) (h _ t.nd_mem) rfl
    exact this
  | n+1,t,h=>by
    have h1:=Tr.trail key (t.sub key) (fun d hd=>h d (t.sub_nds key hd))
    rw [← t.kid_sub key] at h1
    exact Trail.down (Tr.nd (n:=n+1) t) _ (h _ t.nd_mem) rfl h1
theorem Tr.path_ups (key:Key):∀ {n:Nat} (t:Tr n) (acc:List Stp),(t.ups key acc).map (·.nd)=(t.path key).dropLast.reverse++acc.map (·.nd)∧(t.path key).getLast?=some (t.lf key).nd∧(t.path key).length=n+1
  | 0,t,acc=>⟨rfl,rfl,rfl⟩
  | n+1,t,acc=>by
    obtain ⟨h1,h2,h3⟩:=Tr.path_ups key (t.sub key) (⟨Tr.nd (n:=n+1) t,Nd.at_ (Tr.nd (n:=n+1) t) key,false⟩ :: acc)
    have hne:(t.sub key).path key ≠ []:=by intro e;rw [e] at h3;simp at h3
    have e:t.path key=Tr.nd (n:=n+1) t :: (t.sub key).path key:=rfl
    refine ⟨?_,?_,by rw [e,List.length_cons,h3]⟩
    · show ((t.sub key).ups key _).map (·.nd)=_
      rw [h1,e,List.dropLast_cons_of_ne_nil hne]
      simp
    · rw [e,List.getLast?_cons]
      rw [h2]
      rfl
def Tr.left:{n:Nat}→Tr n→Nat→Tr n
  | 0,t,k=>(t.1,t.2.take k)
  | _+1,t,k=>(t.1,t.2.1,t.2.2.take k)
def Tr.right:{n:Nat}→(t:Tr n)→(k p:Nat)→k < t.nd.cells.length→Tr n
  | 0,t,k,p,_=>(p,t.2.drop k)
  | _+1,t,k,p,h=>(p,(t.2.2[k]'(by simpa [nd] using h)).2,t.2.2.drop (k+1))
def Nd.upK (d:Nd) (k:Nat) (h:k < d.cells.length):Key:=d.cells[k].key
theorem Tr.left_pg {n:Nat} (t:Tr n) (k:Nat):(t.left k).pg=t.pg:=by cases n <;> rfl
theorem Tr.right_pg {n:Nat} (t:Tr n) (k p:Nat) (h:k < t.nd.cells.length):(t.right k p h).pg=p:=by cases n <;> rfl
theorem Tr.left_nd {n:Nat} (t:Tr n):(t.left t.nd.half).nd=t.nd.left:=by
  cases n with
  | zero=>unfold Nd.left left;simp only [nd];rw [List.map_take]
  | succ n=>unfold Nd.left left;simp only [nd];rw [List.map_take]
theorem Tr.right_nd {n:Nat} (t:Tr n) (p:Nat) (h:t.nd.half < t.nd.cells.length):(t.right t.nd.half p h).nd=t.nd.right p:=by
  cases n with
  | zero =>
    unfold Nd.right right
    simp only [nd,if_true]
    rw [List.map_drop]
  | succ n =>
    unfold Nd.right
    have hl:(Tr.nd (n:=n+1) t).leaf=false:=rfl
    rw [hl]
    simp only [Bool.false_eq_true,if_false]
    rw [List.getElem?_eq_getElem h]
    unfold right
    simp only [nd,Option.getD_some,List.getElem_map]
    rw [List.map_drop]
theorem Nd.up_eq (d:Nd) (p:Nat) (h:d.half < d.cells.length):d.up p=⟨d.upK d.half h,[],p⟩:=by unfold Nd.up Nd.upK;rw [List.getElem?_eq_getElem h];rfl
theorem OrdL.split {α:Type} {R:α→Key→Option Key→Prop}:∀ (cs:List (Key × α)) (c:α) (lo:Key) (hi:Option Key) (k:Nat) (hk:k < cs.length),OrdL R c cs lo hi →
    lo < cs[k].1∧(∀ h,hi=some h→cs[k].1 < h)∧OrdL R c (cs.take k) lo (some cs[k].1)∧OrdL R cs[k].2 (cs.drop (k+1)) cs[k].1 hi:=by
  intro cs
  induction cs with
  | nil=>intro c lo hi k hk;simp at hk
  | cons x cs ih =>
    intro c lo hi k hk h
    obtain ⟨a,b,d,e⟩:=h
    cases k with
    | zero=>exact ⟨a,b,d,e⟩
    | succ k =>
      obtain ⟨h1,h2,h3,h4⟩:=ih x.2 x.1 hi k (by simpa using hk) e
      simp only [List.getElem_cons_succ,List.take_succ_cons,List.drop_succ_cons]
      exact ⟨k_trans a h1,h2,⟨a,fun h hh=>by cases hh;exact h1,d,h3⟩,h4⟩
theorem Rise.take_lt {l:List (Key × Key)} (h:Rise l) {k:Nat} (hk:k < l.length):∀ x∈l.take k,x.1 < l[k].1:=by
  intro x hx
  obtain ⟨i,hi,rfl⟩:=List.mem_iff_getElem.1 hx
  have hi':i < k:=by simp at hi;omega
  have:=List.pairwise_iff_getElem.1 h i k (by simp;omega) (by simpa using hk) hi'
  simpa using this
theorem Rise.drop_ge {l:List (Key × Key)} (h:Rise l) {k:Nat} (hk:k < l.length):∀ x∈l.drop k,l[k].1≤x.1:=by
  intro x hx
  obtain ⟨i,hi,rfl⟩:=List.mem_iff_getElem.1 hx
  rw [List.getElem_drop]
  rcases Nat.eq_zero_or_pos i with h0 | h0
  · subst h0;exact k_refl _
  · have:=List.pairwise_iff_getElem.1 h k (k+i) (by simpa using hk) (by simp at hi ⊢;omega) (by omega)
    simp at this
    exact k_of_lt this
theorem Rise.part {l a:List (Key × Key)} (h:Rise l) (hs:a.Sublist l):Rise a:=List.Pairwise.sublist (hs.map _) h
theorem list_at {α:Type} {l:List α} {k:Nat} (hk:k < l.length):l=l.take k++l[k] :: l.drop (k+1):=by rw [← List.drop_eq_getElem_cons hk,List.take_append_drop]
theorem flatMap_at {α β:Type} (f:α→List β) {l:List α} {k:Nat} (hk:k < l.length):l.flatMap f=(l.take k).flatMap f++(f l[k]++(l.drop (k+1)).flatMap f):=by
  have h:=congrArg (List.flatMap f) (list_at hk)
  rw [List.flatMap_append,List.flatMap_cons] at h
  exact h
theorem Tr.split {n:Nat} (t:Tr n) {lo:Key} {hi:Option Key} {k p:Nat} (h:k < t.nd.cells.length) (h1:1≤k) (ho:t.Ord lo hi) :
    lo < t.nd.upK k h∧(∀ b,hi=some b→t.nd.upK k h < b)∧(t.left k).Ord lo (some (t.nd.upK k h))∧(t.right k p h).Ord (t.nd.upK k h) hi∧(t.left k).flat++(t.right k p h).flat=t.flat:=by
  cases n with
  | zero =>
    obtain ⟨hr,hb⟩:=ho
    have hk:k < t.2.length:=by simpa [nd] using h
    have e:t.nd.upK k h=t.2[k].1:=by simp [Nd.upK,nd]
    rw [e]
    have h0:t.2[0].1 < t.2[k].1:=by
      have:=List.pairwise_iff_getElem.1 hr 0 k (by simp;omega) (by simpa using hk) (by omega)
      simpa using this
    refine ⟨k_le_lt (hb _ (List.getElem_mem (by omega))).1 h0,(hb _ (List.getElem_mem hk)).2,⟨Rise.part hr (List.take_sublist _ _),fun x hx=>⟨(hb x (List.mem_of_mem_take hx)).1,fun b hb'=>by cases hb';exact hr.take_lt hk x hx⟩⟩,
      ⟨Rise.part hr (List.drop_sublist _ _),fun x hx=>⟨hr.drop_ge hk x hx,(hb x (List.mem_of_mem_drop hx)).2⟩⟩,?_⟩
    show t.2.take k++t.2.drop k=t.2
    exact List.take_append_drop _ _
  | succ n =>
    have hk:k < t.2.2.length:=by simpa [nd] using h
    have e:t.nd.upK k h=t.2.2[k].1:=by simp [Nd.upK,nd]
    rw [e]
    obtain ⟨a,b,c,d⟩:=OrdL.split t.2.2 t.2.1 lo hi k hk ho
    refine ⟨a,b,c,d,?_⟩
    show (t.2.1.flat++(t.2.2.take k).flatMap fun x=>x.2.flat)++(t.2.2[k].2.flat++(t.2.2.drop (k+1)).flatMap fun x=>x.2.flat)=t.2.1.flat++t.2.2.flatMap fun x=>x.2.flat
    rw [flatMap_at (fun x:Key × Tr n=>x.2.flat) hk]
    simp only [List.append_assoc]
theorem Tr.split_kids {n:Nat} (t:Tr (n+1)) {k p:Nat} (h:k < t.nd.cells.length):(t.left k).kids++(t.right k p h).kids=t.kids:=by
  have hk:k < t.2.2.length:=by simpa [nd] using h
  show (t.2.1 :: (t.2.2.take k).map (·.2))++(t.2.2[k].2 :: (t.2.2.drop (k+1)).map (·.2))=t.2.1 :: t.2.2.map (·.2)
  have h:=congrArg (List.map (·.2)) (list_at hk)
  rw [List.map_append,List.map_cons] at h
  rw [h]
  simp only [List.cons_append]
end Go.Proofs.YtheeomjfpnijbaaGreatDoor
end
section
namespace Go.Proofs.YtheeomjfpnijbaaGreatDoor
theorem u8_inj {a b:Nat} (ha:a < 256) (hb:b < 256) (h:UInt8.ofNat a=UInt8.ofNat b):a=b:=by
  have:=congrArg UInt8.toNat h
  simp at this
  omega
theorem u8_mod {a b:Nat} (h:UInt8.ofNat a=UInt8.ofNat b):a % 256=b % 256:=by
  have:=congrArg UInt8.toNat h
  simpa using this
theorem le2_inj {a b:Nat} (ha:a < 65536) (hb:b < 65536) (h:le2 a=le2 b):a=b:=by
  unfold le2 at h
  simp only [List.cons.injEq,and_true] at h
  have h1:=u8_mod h.1
  have h2:=u8_inj (by omega) (by omega) h.2
  omega
theorem le2_app {a b:Nat} {x y:List UInt8} (ha:a < 65536) (hb:b < 65536) (h:le2 a++x=le2 b++y):a=b:=by
  refine le2_inj ha hb ?_
  have:=congrArg (List.take 2) h
  simpa [le2] using this
theorem met_inj {P:Nat} (hP:P≤4096) {z y:Met} (hz:MetOk P z) (hy:MetOk P y) (h:pad z.load=pad y.load):z=y:=by
  have h1:=congrArg (List.take 2) h
  have h2:=congrArg (fun l=>List.take 2 (List.drop 2 l)) h
  have h3:=congrArg (fun l=>List.take 2 (List.drop 4 l)) h
  have h4:=congrArg (fun l=>List.take 1 (List.drop 6 l)) h
  have e1:∀ x:Met,List.take 2 (pad x.load)=le2 x.root:=fun x=>by simp [pad,Met.load,le2]
  have e2:∀ x:Met,List.take 2 (List.drop 2 (pad x.load))=le2 x.unused:=fun x=>by simp [pad,Met.load,le2]
  have e3:∀ x:Met,List.take 2 (List.drop 4 (pad x.load))=le2 x.free:=fun x=>by simp [pad,Met.load,le2]
  have e4:∀ x:Met,List.take 1 (List.drop 6 (pad x.load))=[UInt8.ofNat x.levels]:=fun x=>by simp [pad,Met.load,le2]
  simp only [e1,e2,e3,e4] at h1 h2 h3 h4
  have a:=hz.unused;have b:=hz.root;have c:=hz.free;have d:=hz.levels
  have a':=hy.unused;have b':=hy.root;have c':=hy.free;have d':=hy.levels
  have i1:=le2_inj (by omega) (by omega) h1
  have i2:=le2_inj (by omega) (by omega) h2
  have i3:=le2_inj (by omega) (by omega) h3
  have i4:z.levels=y.levels:=u8_inj (by omega) (by omega) (by simpa using h4)
  cases z;cases y
  simp_all
theorem met_len (z:Met):z.load.length=7:=rfl
theorem met_within (z y:Met):Within (pad z.load) (pad y.load) 0 7:=by
  intro i hi
  have h:7≤i:=by omega
  unfold pad
  rw [met_len,met_len,List.getElem?_append_right (by rw [met_len];exact h),List.getElem?_append_right (by rw [met_len];exact h),met_len,met_len]
theorem cost_met {z y:Met} {c:Nat} (h:CostOf (pad z.load) (pad y.load) c):c≤188:=h 0 7 (by decide) (met_within z y)
theorem cost_all {old new:List UInt8} {c:Nat} (h1:old.length≤112) (h2:new.length≤112) (h:CostOf old new c):c≤398 :=
  h 0 112 (by decide) (fun i hi=>by rw [List.getElem?_eq_none (by omega),List.getElem?_eq_none (by omega)])
def Chain (F:Nat→List UInt8):Nat→List Nat→Prop
  | n,[]=>n=0
  | n,k :: l=>n=k∧0 < k∧∃ f tl,F k=le2 f++tl∧f < 65536∧Chain F f l
theorem Chain.congr {F G:Nat→List UInt8}:∀ {l:List Nat} {n:Nat},Chain F n l→(∀ k∈l,G k=F k)→Chain G n l:=by
  intro l
  induction l with
  | nil=>intro n h _;exact h
  | cons k l ih =>
    intro n h hc
    obtain ⟨h1,h2,f,tl,h3,h4,h5⟩:=h
    exact ⟨h1,h2,f,tl,by rw [hc k (by simp),h3],h4,ih h5 (fun j hj=>hc j (by simp [hj]))⟩
structure Env (P:Nat) (F:Nat→List UInt8) (X:Nat→Prop) (z:Met) (fl:List Nat):Prop where
  small:P≤4096
  z0:F 0=pad z.load
  ok:MetOk P z
  chain:Chain F z.free fl
  nodup:fl.Nodup
  free:∀ k∈fl,1≤k∧k < z.unused∧¬ X k
  used:∀ k,X k→1≤k∧k < z.unused
  all:∀ k,1≤k→k < z.unused→X k ∨ k∈fl
  len:∀ k,k < P→(F k).length=112
theorem Env.lt {P:Nat} {F:Nat→List UInt8} {X:Nat→Prop} {z:Met} {fl:List Nat} (h:Env P F X z fl) {k:Nat} (hk:X k):1≤k∧k < P:=by
  have:=h.used k hk;have:=h.ok.unused;omega
theorem Env.upd {P n:Nat} {F:Nat→List UInt8} {X:Nat→Prop} {z:Met} {fl:List Nat} {xs:List UInt8} (h:Env P F X z fl) (hn:X n) (hx:xs.length=112):Env P (updF F n xs) X z fl:=by
  have hn0:=h.used n hn
  have e:∀ k,k ≠ n→updF F n xs k=F k:=fun k hk=>if_neg hk
  exact { small:=h.small,z0:=(e 0 (by omega)).trans h.z0,ok:=h.ok,chain:=h.chain.congr (fun k hk=>e k (fun e=>(h.free k hk).2.2 (e ▸ hn))),nodup:=h.nodup,free:=h.free,used:=h.used,all:=h.all
          len:=fun k hk=>by unfold updF;split;exact hx;exact h.len k hk }
theorem WriteR.env {cap P n e:Nat} {a b:PSt} {X:Nat→Prop} {z:Met} {fl:List Nat} {xs:List UInt8} (h:Env P a.F X z fl) (hw:WriteR cap a n xs e b) (hn:X n) (hx:xs.length=112) :
    (e=0∧b.F=updF a.F n xs∧a.u≤b.u∧b.u≤a.u+398∧Env P b.F X z fl) ∨ (e=4∧b=a∧cap < a.u+398):=by
  have hl:=h.len n (h.lt hn).2
  rcases hw with ⟨h1,h2,h3,c,h4,h5⟩ | ⟨h1,h2,c,h4,h5⟩
  · have:=cost_all (by omega) (by omega) h4
    exact .inl ⟨h1,h2,h3,by omega,by rw [h2];exact h.upd hn hx⟩
  · have:=cost_all (by omega) (by omega) h4
    exact .inr ⟨h1,h2,by omega⟩
theorem WriteR.met {cap P e:Nat} {a b:PSt} {X:Nat→Prop} {z y:Met} {fl:List Nat} (h:Env P a.F X z fl) (hw:WriteR cap a 0 (pad y.load) e b) :
    (e=0∧b.F=updF a.F 0 (pad y.load)∧a.u≤b.u∧b.u≤a.u+188) ∨ (e=4∧b=a∧cap < a.u+188):=by
  rcases hw with ⟨h1,h2,h3,c,h4,h5⟩ | ⟨h1,h2,c,h4,h5⟩
  · rw [h.z0] at h4
    have:=cost_met h4
    exact .inl ⟨h1,h2,h3,by omega⟩
  · rw [h.z0] at h4
    have:=cost_met h4
    exact .inr ⟨h1,h2,by omega⟩
theorem updF_other {F:Nat→List UInt8} {n k:Nat} {xs:List UInt8} (h:k ≠ n):updF F n xs k=F k:=if_neg h
theorem updF_same {F:Nat→List UInt8} {n:Nat} {xs:List UInt8}:updF F n xs n=xs:=if_pos rfl
theorem TakeR.env {cap P p e:Nat} {a b:PSt} {X:Nat→Prop} {z:Met} {fl:List Nat} (h:Env P a.F X z fl) (ht:TakeR cap P a p e b) :
    (e=4∧b=a) ∨ (e=0∧(1≤p∧p < P∧¬ X p)∧(∀ k,k ≠ 0→b.F k=a.F k)∧a.u≤b.u∧b.u≤a.u+188∧∃ z' fl',Env P b.F (fun k=>X k ∨ k=p) z' fl'∧z'.root=z.root∧z'.levels=z.levels):=by
  have hP:=h.small
  have hun:=h.ok.unused
  cases ht with
  | full y hy ho h0 hu=>exact .inl ⟨rfl,rfl⟩
  | new y e b hy ho h0 hu hw =>
    obtain rfl:z=y:=met_inj hP h.ok ho (h.z0.symm.trans hy)
    rcases hw.met h with ⟨rfl,h2,h3,h4⟩ | ⟨rfl,rfl,-⟩
    · refine .inr ⟨rfl,⟨hun.1,hu,fun hx=>by have:=h.used _ hx;omega⟩,fun k hk=>by rw [h2];exact updF_other hk,h3,h4,{ z with unused:=z.unused+1 },fl,?_,rfl,rfl⟩
      rw [h2]
      have e:∀ k,k ≠ 0→updF a.F 0 (pad ({ z with unused:=z.unused+1 }:Met).load) k=a.F k:=fun k hk=>updF_other hk
      have hr:=ho.root;have hf:=ho.free;have hl:=ho.levels
      exact { small:=hP,z0:=updF_same,ok:=⟨⟨by show 1≤z.unused+1;omega,by show z.unused+1≤P;omega⟩,⟨hr.1,by show z.root < z.unused+1;omega⟩,by show z.free < z.unused+1;omega,hl⟩
              chain:=h.chain.congr (fun k hk=>e k (by have:=h.free k hk;omega)),nodup:=h.nodup
              free:=fun k hk=>by obtain ⟨a1,a2,a3⟩:=h.free k hk;exact ⟨a1,by show k < z.unused+1;omega,fun hx=>hx.elim a3 (by omega)⟩
              used:=fun k hk=>by rcases hk with hk | hk;have:=h.used k hk;exact ⟨this.1,by show k < z.unused+1;omega⟩;exact ⟨by omega,by show k < z.unused+1;omega⟩
              all:=fun k h1 h2=>by
                have h2':k < z.unused+1:=h2
                rcases Nat.lt_or_ge k z.unused with h3 | h3
                · rcases h.all k h1 h3 with h4 | h4
                  · exact .inl (.inl h4)
                  · exact .inr h4
                · exact .inl (.inr (by omega))
              len:=fun k hk=>by
                by_cases hk0:k=0
                · rw [hk0,updF_same];exact pad_length (by rw [met_len];decide)
                · rw [e k hk0];exact h.len k hk }
    · exact .inl ⟨rfl,rfl⟩
  | old y f tl e b hy ho h0 hf hlt hw =>
    obtain rfl:z=y:=met_inj hP h.ok ho (h.z0.symm.trans hy)
    have hch:=h.chain
    cases fl with
    | nil=>exact absurd hch (by show ¬ z.free=0;omega)
    | cons k fl =>
      obtain ⟨e1,-,f',tl',h3,h4,h5⟩:=hch
      have hff:f'=f:=le2_app h4 (by omega) (h3.symm.trans (by rw [← e1];exact hf))
      subst hff
      have hk:=h.free k (by simp)
      have hnd:=List.nodup_cons.1 h.nodup
      rcases hw.met h with ⟨rfl,h2,h3',h4'⟩ | ⟨rfl,rfl,-⟩
      · refine .inr ⟨rfl,⟨by omega,by omega,by rw [e1];exact hk.2.2⟩,fun j hj=>by rw [h2];exact updF_other hj,h3',h4',{ z with free:=f' },fl,?_,rfl,rfl⟩
        rw [h2]
        have e:∀ k,k ≠ 0→updF a.F 0 (pad ({ z with free:=f' }:Met).load) k=a.F k:=fun k hk=>updF_other hk
        exact { small:=hP,z0:=updF_same,ok:=⟨ho.unused,ho.root,hlt,ho.levels⟩
                chain:=h5.congr (fun j hj=>e j (by have:=h.free j (by simp [hj]);omega)),nodup:=hnd.2
                free:=fun j hj=>by obtain ⟨a1,a2,a3⟩:=h.free j (by simp [hj]);exact ⟨a1,a2,fun hx=>hx.elim a3 (fun hx=>hnd.1 (by rw [← e1,← hx];exact hj))⟩
                used:=fun j hj=>by rcases hj with hj | hj;exact h.used j hj;exact ⟨by omega,by show j < z.unused;omega⟩
                all:=fun j h1 h2=>by
                  rcases h.all j h1 h2 with h4 | h4
                  · exact .inl (.inl h4)
                  · rcases List.mem_cons.1 h4 with h4 | h4
                    · exact .inl (.inr (by omega))
                    · exact .inr h4
                len:=fun k hk=>by
                  by_cases hk0:k=0
                  · rw [hk0,updF_same];exact pad_length (by rw [met_len];decide)
                  · rw [e k hk0];exact h.len k hk }
      · exact .inl ⟨rfl,rfl⟩
  | bad y f tl hy ho h0 hf hb hlt =>
    obtain rfl:z=y:=met_inj hP h.ok ho (h.z0.symm.trans hy)
    have hch:=h.chain
    cases fl with
    | nil=>exact absurd hch (by show ¬ z.free=0;omega)
    | cons k fl =>
      obtain ⟨e1,-,f',tl',h3,h4,h5⟩:=hch
      have hff:f'=f:=le2_app h4 hb (h3.symm.trans (by rw [← e1];exact hf))
      subst hff
      cases fl with
      | nil=>have:f'=0:=h5;omega
      | cons j fl =>
        have h6:=h.free j (by simp)
        have:f'=j:=h5.1
        omega
end Go.Proofs.YtheeomjfpnijbaaGreatDoor
end
section
namespace Go.Proofs.YtheeomjfpnijbaaGreatDoor
def nb (d:Nd):Nat:=(d.cells.flatMap (celB d.leaf)).length
theorem load_nb (d:Nd):d.load.length=(if d.leaf then 2 else 4)+nb d:=by
  unfold Nd.load nb
  cases h:d.leaf <;> simp [le2] <;> omega
theorem celB_sz {leaf:Bool} {c:Cel} (h:CelOk leaf c):(celB leaf c).length≤(if leaf then 26 else 15)∧(if leaf then 3 else 4)≤(celB leaf c).length:=by
  have h1:=h.key
  have h2:=h.val
  unfold celB
  cases leaf <;> simp [le2] <;> omega
theorem halfL_spec (leaf:Bool) (m:Nat):∀ (cs:List Cel) (s:Nat),(∀ c∈cs,(celB leaf c).length≤m)→s < 60→60≤s+(cs.flatMap (celB leaf)).length →
    1≤halfL leaf cs s∧halfL leaf cs s≤cs.length∧60≤s+((cs.take (halfL leaf cs s)).flatMap (celB leaf)).length∧s+((cs.take (halfL leaf cs s)).flatMap (celB leaf)).length≤59+m:=by
  intro cs
  induction cs with
  | nil=>intro s _ h1 h2;simp at h2;omega
  | cons c cs ih =>
    intro s hm h1 h2
    have hc:=hm c (by simp)
    unfold halfL
    split
    · rename_i h
      simp
      omega
    · rename_i h
      rw [List.flatMap_cons,List.length_append] at h2
      obtain ⟨a,b,d,e⟩:=ih (s+(celB leaf c).length) (fun x hx=>hm x (by simp [hx])) (by omega) (by omega)
      simp only [List.take_succ_cons,List.flatMap_cons,List.length_append,List.length_cons]
      omega
theorem half_fit {d:Nd} (hd:NdOk d) (h1:112 < d.load.length) (h2:nb d≤if d.leaf then 136 else 123) (p:Nat) (hp:p < 65536) :
    1≤d.half∧d.half < d.cells.length∧NdOk d.left∧NdOk (d.right p)∧d.left.load.length≤112∧(d.right p).load.length≤112∧nb d.left≤85∧nb (d.right p)≤85∧(d.leaf=false→nb d.left≤75∧nb (d.right p)≤75∧109≤nb d):=by
  have hl:=load_nb d
  have hm:∀ c∈d.cells,(celB d.leaf c).length≤(if d.leaf then 26 else 15):=fun c hc=>(celB_sz (hd.cells c hc)).1
  obtain ⟨a,b,x,y⟩:=halfL_spec d.leaf _ d.cells 0 hm (by omega) (by unfold nb at hl;split at hl <;> omega)
  have e1:nb d.left=((d.cells.take d.half).flatMap (celB d.leaf)).length:=rfl
  have hhalf:halfL d.leaf d.cells 0=d.half:=rfl
  rw [hhalf] at a b x y
  have hlt:d.half < d.cells.length:=by
    refine Nat.lt_of_le_of_ne b fun e=>?_
    rw [e,List.take_length] at y
    unfold nb at hl
    cases hc:d.leaf <;> rw [hc] at hl y <;> simp at hl y <;> omega
  have hs:=flatMap_at (celB d.leaf) hlt
  have hs':=congrArg List.length hs
  simp only [List.length_append] at hs'
  have hck:=celB_sz (hd.cells _ (List.getElem_mem hlt))
  have hcell:=hd.cells _ (List.getElem_mem hlt)
  have el:d.left.leaf=d.leaf:=rfl
  have hsub:∀ {l:List Cel},l.Sublist d.cells→(l.map (·.key)).Pairwise (· < ·):=fun hs=>hd.sorted.sublist (hs.map _)
  cases hlf:d.leaf with
  | true =>
    have er:d.right p={ page:=p,leaf:=true,first:=0,cells:=d.cells.drop d.half }:=by unfold Nd.right;rw [hlf];rfl
    have e2:nb (d.right p)=((d.cells.drop d.half).flatMap (celB true)).length:=by rw [er];rfl
    have e3:((d.cells.drop d.half).flatMap (celB true)).length+nb d.left=nb d:=by
      rw [e1]
      unfold nb
      conv=>rhs;rw [← List.take_append_drop d.half d.cells,List.flatMap_append,List.length_append]
      rw [hlf,Nat.add_comm]
    rw [hlf] at h2 hl y x hck
    simp only [if_true] at h2 hl y hck
    rw [hlf] at e1
    have l1:=load_nb d.left
    have l2:=load_nb (d.right p)
    rw [el,hlf,if_pos rfl] at l1
    rw [er,if_pos rfl,← er] at l2
    refine ⟨a,hlt,⟨fun c hc=>hd.cells c (List.mem_of_mem_take hc),hsub (List.take_sublist _ _),hd.first,fun h=>hd.isLeaf h⟩,?_,by omega,by omega,by omega,by omega,fun h=>by cases h⟩
    rw [er]
    exact ⟨fun c hc=>by have:=hd.cells c (List.mem_of_mem_drop hc);rwa [hlf] at this,hsub (List.drop_sublist _ _),(by show 0 < 65536;decide),fun _=>rfl⟩
  | false =>
    have er:d.right p={ page:=p,leaf:=false,first:=d.cells[d.half].child,cells:=d.cells.drop (d.half+1) }:=by
      unfold Nd.right
      rw [hlf]
      simp only [Bool.false_eq_true,if_false]
      rw [List.getElem?_eq_getElem hlt]
      rfl
    have e2:nb (d.right p)=((d.cells.drop (d.half+1)).flatMap (celB false)).length:=by rw [er];rfl
    rw [hlf] at h2 hl y x hck hs' e1
    simp only [Bool.false_eq_true,if_false] at h2 hl y hck
    have e3:nb d=(d.cells.flatMap (celB false)).length:=by unfold nb;rw [hlf]
    have l1:=load_nb d.left
    have l2:=load_nb (d.right p)
    rw [el,hlf] at l1
    simp only [Bool.false_eq_true,if_false] at l1
    rw [er] at l2
    simp only [Bool.false_eq_true,if_false] at l2
    rw [← er] at l2
    refine ⟨a,hlt,⟨fun c hc=>hd.cells c (List.mem_of_mem_take hc),hsub (List.take_sublist _ _),hd.first,fun h=>hd.isLeaf h⟩,?_,by omega,by omega,by omega,by omega,fun _=>by omega⟩
    rw [er]
    exact ⟨fun c hc=>by have:=hd.cells c (List.mem_of_mem_drop hc);rwa [hlf] at this,hsub (List.drop_sublist _ _),hcell.child,fun h=>by cases h⟩
theorem Tr.nds_hd:∀ {n:Nat} (t:Tr n),t.nds=t.nd :: t.nds.tail
  | 0,_=>rfl
  | _+1,_=>rfl
theorem Tr.pgs_hd {n:Nat} (t:Tr n):t.pgs=t.pg :: t.nds.tail.map (·.page):=by
  unfold pgs
  rw [t.nds_hd,List.map_cons,t.nd_page]
  rfl
theorem Tr.split_tail {n:Nat} (t:Tr n) {k p:Nat} (h:k < t.nd.cells.length):(t.left k).nds.tail++(t.right k p h).nds.tail=t.nds.tail:=by
  cases n with
  | zero=>rfl
  | succ n =>
    rw [(t.left k).nds_eq,(t.right k p h).nds_eq,t.nds_eq]
    simp only [List.tail_cons]
    rw [← List.flatMap_append,t.split_kids h]
structure Live (P:Nat) (F:Nat→List UInt8) (X:Nat→Prop) {n:Nat} (t:Tr n) (lo:Key) (hi:Option Key):Prop where
  holds:∀ d∈t.nds,Holds P F d
  nodup:t.pgs.Nodup
  inX:∀ k∈t.pgs,X k
  ord:t.Ord lo hi
structure Ripe (P:Nat) (F:Nat→List UInt8) (X:Nat→Prop) {n:Nat} (t:Tr n) (lo:Key) (hi:Option Key):Prop where
  ok:NdOk t.nd
  size:nb t.nd≤if t.nd.leaf then 136 else 123
  below:∀ d∈t.nds.tail,Holds P F d
  nodup:t.pgs.Nodup
  inX:∀ k∈t.pgs,X k
  ord:t.Ord lo hi
theorem Holds.keep {P:Nat} {F G:Nat→List UInt8} {d:Nd} (h:Holds P F d) (e:G d.page=F d.page):Holds P G d:=⟨h.page,h.ok,h.load,e.trans h.at_⟩
theorem Live.keep {P:Nat} {F G:Nat→List UInt8} {X Y:Nat→Prop} {n:Nat} {t:Tr n} {lo:Key} {hi:Option Key} (h:Live P F X t lo hi) (e:∀ k∈t.pgs,G k=F k) (hY:∀ k∈t.pgs,Y k):Live P G Y t lo hi :=
  ⟨fun d hd=>(h.holds d hd).keep (e _ (List.mem_map.2 ⟨d,hd,rfl⟩)),h.nodup,hY,h.ord⟩
theorem tail_page {n:Nat} {t:Tr n} (h:t.pgs.Nodup) {d:Nd} (hd:d∈t.nds.tail):d.page∈t.pgs∧d.page ≠ t.pg:=by
  rw [t.pgs_hd] at h ⊢
  have hm:d.page∈t.nds.tail.map (·.page):=List.mem_map.2 ⟨d,hd,rfl⟩
  exact ⟨List.mem_cons_of_mem _ hm,fun e=>(List.nodup_cons.1 h).1 (e ▸ hm)⟩
theorem Ripe.live {P:Nat} {F G:Nat→List UInt8} {X Y:Nat→Prop} {n:Nat} {t:Tr n} {lo:Key} {hi:Option Key} (h:Ripe P F X t lo hi) (hl:t.nd.load.length≤112) (hp:1≤t.pg∧t.pg < P) (hr:G t.pg=pad t.nd.load) (e:∀ k∈t.pgs,k ≠ t.pg→G k=F k) (hY:∀ k∈t.pgs,Y k):Live P G Y t lo hi:=by
  refine ⟨fun d hd=>?_,h.nodup,hY,h.ord⟩
  rw [t.nds_hd] at hd
  rcases List.mem_cons.1 hd with rfl | hd
  · exact ⟨by rw [t.nd_page];exact hp,h.ok,hl,by rw [t.nd_page];exact hr⟩
  · obtain ⟨h1,h2⟩:=tail_page h.nodup hd
    exact (h.below d hd).keep (e _ h1 h2)
theorem Ripe.halves {P p:Nat} {F G:Nat→List UInt8} {X:Nat→Prop} {n:Nat} {t:Tr n} {lo:Key} {hi:Option Key} (hh:Ripe P F X t lo hi) (hl:112 < t.nd.load.length) (hp:1≤t.pg∧t.pg < P) (hP:P≤4096) (hq:1≤p∧p < P) (hx:¬ X p)
    (hL:G t.pg=pad t.nd.left.load) (e:∀ k∈t.pgs,k ≠ t.pg→G k=F k) :
    ∃ (hk:t.nd.half < t.nd.cells.length),Live P G X (t.left t.nd.half) lo (some (t.nd.upK _ hk))∧lo < t.nd.upK _ hk∧(∀ b,hi=some b→t.nd.upK _ hk < b)∧(t.left t.nd.half).flat++(t.right t.nd.half p hk).flat=t.flat ∧
      (G p=pad (t.nd.right p).load→Live P G (fun k=>X k ∨ k=p) (t.right t.nd.half p hk) (t.nd.upK _ hk) hi)∧(∀ k∈(t.right t.nd.half p hk).pgs,k=p ∨ (k∈t.pgs∧k ∉ (t.left t.nd.half).pgs))∧(∀ k∈(t.left t.nd.half).pgs,k∈t.pgs)∧(t.nd.leaf=false→nb (t.left t.nd.half).nd≤75∧nb (t.right t.nd.half p hk).nd≤75∧109≤nb t.nd):=by
  obtain ⟨h1,h2,h3,h4,h5,h6,-,-,h9⟩:=half_fit hh.ok hl hh.size p (by omega)
  obtain ⟨o1,o2,o3,o4,o5⟩:=t.split (p:=p) h2 h1 hh.ord
  have hst:=t.split_tail (p:=p) h2
  have hpL:=(t.left t.nd.half).pgs_hd
  have hpR:=(t.right t.nd.half p h2).pgs_hd
  have hpT:=t.pgs_hd
  rw [t.left_pg] at hpL
  rw [t.right_pg] at hpR
  have hnd:=hh.nodup
  rw [hpT,← hst,List.map_append] at hnd
  have hmem:∀ d,d∈(t.left t.nd.half).nds.tail ∨ d∈(t.right t.nd.half p h2).nds.tail→d∈t.nds.tail:=fun d hd=>by rw [← hst];exact List.mem_append.2 hd
  have hLp:∀ k∈(t.left t.nd.half).pgs,k∈t.pgs:=fun k hk=>by
    rw [hpL] at hk
    rcases List.mem_cons.1 hk with rfl | hk
    · exact t.pg_mem
    · obtain ⟨d,hd,rfl⟩:=List.mem_map.1 hk
      exact (tail_page hh.nodup (hmem d (.inl hd))).1
  have hRp:∀ k∈(t.right t.nd.half p h2).pgs,k=p ∨ (k∈t.pgs∧k ∉ (t.left t.nd.half).pgs):=fun k hk=>by
    rw [hpR] at hk
    rcases List.mem_cons.1 hk with rfl | hk
    · exact .inl rfl
    · refine .inr ⟨?_,fun hk'=>?_⟩
      · obtain ⟨d,hd,rfl⟩:=List.mem_map.1 hk
        exact (tail_page hh.nodup (hmem d (.inr hd))).1
      · rw [hpL] at hk'
        obtain ⟨n1,n2⟩:=List.nodup_cons.1 hnd
        rcases List.mem_cons.1 hk' with rfl | hk'
        · exact n1 (List.mem_append.2 (.inr hk))
        · exact (List.nodup_append.1 n2).2.2 k hk' k hk rfl
  have hbel:∀ d∈t.nds.tail,Holds P G d:=fun d hd=>by
    obtain ⟨a,b⟩:=tail_page hh.nodup hd
    exact (hh.below d hd).keep (e _ a b)
  refine ⟨h2,⟨fun d hd=>?_,?_,fun k hk=>hh.inX k (hLp k hk),o3⟩,o1,o2,o5,fun hG=>⟨fun d hd=>?_,?_,fun k hk=>?_,o4⟩,hRp,hLp,fun hlf=>?_⟩
  · rw [(t.left t.nd.half).nds_hd] at hd
    rcases List.mem_cons.1 hd with rfl | hd
    · rw [t.left_nd]
      exact ⟨by show 1≤t.nd.page∧t.nd.page < P;rw [t.nd_page];exact hp,h3,h5,by show G t.nd.page=_;rw [t.nd_page];exact hL⟩
    · exact hbel d (hmem d (.inl hd))
  · rw [hpL]
    obtain ⟨n1,n2⟩:=List.nodup_cons.1 hnd
    exact List.nodup_cons.2 ⟨fun hm=>n1 (List.mem_append.2 (.inl hm)),(List.nodup_append.1 n2).1⟩
  · rw [(t.right t.nd.half p h2).nds_hd] at hd
    rcases List.mem_cons.1 hd with rfl | hd
    · have hpg:(t.nd.right p).page=p:=by rw [← t.right_nd p h2,Tr.nd_page,t.right_pg]
      rw [t.right_nd p h2]
      exact ⟨by rw [hpg];exact hq,h4,h6,by rw [hpg];exact hG⟩
    · exact hbel d (hmem d (.inr hd))
  · rw [hpR]
    obtain ⟨n1,n2⟩:=List.nodup_cons.1 hnd
    refine List.nodup_cons.2 ⟨fun hm=>?_,(List.nodup_append.1 n2).2.1⟩
    obtain ⟨d,hd,he⟩:=List.mem_map.1 hm
    exact hx (he ▸ hh.inX _ (tail_page hh.nodup (hmem d (.inr hd))).1)
  · rcases hRp k hk with h | h
    · exact .inr h
    · exact .inl (hh.inX k h.1)
  · rw [t.left_nd,t.right_nd p h2]
    exact h9 hlf
end Go.Proofs.YtheeomjfpnijbaaGreatDoor
end
section
namespace Go.Proofs.YtheeomjfpnijbaaGreatDoor
def Tr.NE:{n:Nat}→Tr n→Prop
  | 0,t=>t.2 ≠ []
  | _+1,t=>t.2.1.NE∧∀ x∈t.2.2,x.2.NE
theorem Tr.NE_iff {n:Nat} (t:Tr (n+1)):t.NE ↔ ∀ y∈t.kids,y.NE:=by
  show (t.2.1.NE∧∀ x∈t.2.2,x.2.NE) ↔ ∀ y∈t.2.1 :: t.2.2.map (·.2),y.NE
  constructor
  · intro h y hy
    rcases List.mem_cons.1 hy with rfl | hy
    · exact h.1
    · obtain ⟨x,hx,rfl⟩:=List.mem_map.1 hy
      exact h.2 x hx
  · intro h
    exact ⟨h _ (by simp),fun x hx=>h _ (List.mem_cons_of_mem _ (List.mem_map.2 ⟨x,hx,rfl⟩))⟩
theorem Tr.NE_left {n:Nat} {t:Tr n} {k:Nat} (h:t.NE) (h1:1≤k):(t.left k).NE:=by
  cases n with
  | zero =>
    show t.2.take k ≠ []
    intro e
    have:=congrArg List.length e
    have h2:t.2.length ≠ 0:=fun e=>h (List.eq_nil_of_length_eq_zero e)
    rw [List.length_take,List.length_nil] at this
    omega
  | succ n =>
    refine (Tr.NE_iff _).2 fun y hy=>(Tr.NE_iff t).1 h y ?_
    have hy':y∈t.2.1 :: (t.2.2.take k).map (·.2):=hy
    rcases List.mem_cons.1 hy' with rfl | hy'
    · exact List.mem_cons_self ..
    · obtain ⟨x,hx,rfl⟩:=List.mem_map.1 hy'
      exact List.mem_cons_of_mem _ (List.mem_map.2 ⟨x,List.mem_of_mem_take hx,rfl⟩)
theorem Tr.NE_right {n:Nat} {t:Tr n} {k p:Nat} (h:t.NE) (hk:k < t.nd.cells.length):(t.right k p hk).NE:=by
  cases n with
  | zero =>
    show t.2.drop k ≠ []
    intro e
    have:=congrArg List.length e
    simp [nd] at this hk
    omega
  | succ n =>
    refine (Tr.NE_iff _).2 fun y hy=>(Tr.NE_iff t).1 h y ?_
    rw [← t.split_kids (p:=p) hk]
    exact List.mem_append.2 (.inr hy)
def Tr.pot (f:Nat→Nat) (c:Nat):{n:Nat}→Tr n→Nat
  | 0,_=>c
  | n+1,t=>c+f n * (nb (Tr.nd (n:=n+1) t) - 75)+(t.2.1.pot f c+(t.2.2.map fun x=>x.2.pot f c).sum)
theorem Tr.pot_eq {n:Nat} (f:Nat→Nat) (c:Nat) (t:Tr (n+1)):t.pot f c=c+f n * (nb t.nd - 75)+(t.kids.map (Tr.pot f c)).sum:=by
  show c+f n * (nb t.nd - 75)+(t.2.1.pot f c+(t.2.2.map fun x=>x.2.pot f c).sum)=c+f n * (nb t.nd - 75)+((t.2.1 :: t.2.2.map (·.2)).map (Tr.pot f c)).sum
  rw [List.map_cons,List.sum_cons,List.map_map]
  rfl
theorem Tr.split_pot {n:Nat} (f:Nat→Nat) (c:Nat) (t:Tr (n+1)) {k p:Nat} (h:k < t.nd.cells.length) (h1:nb (t.left k).nd≤75) (h2:nb (t.right k p h).nd≤75) (h3:109≤nb t.nd):(t.left k).pot f c+(t.right k p h).pot f c+34 * f n≤t.pot f c+c:=by
  rw [Tr.pot_eq,Tr.pot_eq,Tr.pot_eq,← t.split_kids (p:=p) h,List.map_append,List.sum_append]
  have e1:nb (t.left k).nd - 75=0:=by omega
  have e2:nb (t.right k p h).nd - 75=0:=by omega
  rw [e1,e2]
  have:34 * f n≤f n * (nb t.nd - 75):=by rw [Nat.mul_comm];exact Nat.mul_le_mul_left _ (by omega)
  omega
theorem Tr.split_pot0 (f:Nat→Nat) (c:Nat) (t:Tr 0) {k p:Nat} (h:k < t.nd.cells.length):(t.left k).pot f c+(t.right k p h).pot f c=t.pot f c+c:=rfl
theorem take_ne {α:Type} {l:List α} {k:Nat} (h:l ≠ []) (hk:1≤k):l.take k ≠ []:=by
  intro e
  have:=congrArg List.length e
  have h2:l.length ≠ 0:=fun e=>h (List.eq_nil_of_length_eq_zero e)
  rw [List.length_take,List.length_nil] at this
  omega
def NextR (cap P:Nat) (b:PSt) (first:Nat) (up:Cel):List Stp→Nat→PSt→Prop
  | [],e,c=>RootR cap P b first up e c
  | s :: above,e,c=>StoreR cap P b { s.nd with cells:=insC s.nd.cells s.nle up } above e c
theorem settle {cap P:Nat} {a c:PSt} {X:Nat→Prop} {z:Met} {fl:List Nat} {n:Nat} {t1 tf:Tr n} {lo:Key} {hi:Option Key} {above:List Stp} {e:Nat}
    (hE:Env P a.F X z fl) (h1:Ripe P a.F X t1 lo hi) (hf:Live P a.F X tf lo hi) (hpg:tf.pg=t1.pg) (hs:StoreR cap P a t1.nd above e c) :
    (∃ (T:Tr n) (X':Nat→Prop) (z':Met) (fl':List Nat),Env P c.F X' z' fl'∧z'.root=z.root∧z'.levels=z.levels∧Live P c.F X' T lo hi∧T.pg=t1.pg∧(∀ k,X k→X' k)∧(∀ k,X k→k ≠ t1.pg→c.F k=a.F k) ∧
      (∀ k∈T.pgs,k∈t1.pgs ∨ k∈tf.pgs)∧(t1.NE→tf.NE→T.NE)∧(t1.nd.cells ≠ []→tf.nd.cells ≠ []→T.nd.cells ≠ [])∧(e=0 ∨ e=4)∧(e=0→T=t1∧X'=X∧a.u≤c.u∧c.u≤a.u+398)) ∨
    (∃ (p:Nat) (b:PSt) (z':Met) (fl':List Nat) (hk:t1.nd.half < t1.nd.cells.length),(1≤p∧p < P∧¬ X p)∧Env P b.F (fun k=>X k ∨ k=p) z' fl'∧z'.root=z.root∧z'.levels=z.levels ∧
      Live P b.F X (t1.left t1.nd.half) lo (some (t1.nd.upK _ hk))∧Live P b.F (fun k=>X k ∨ k=p) (t1.right t1.nd.half p hk) (t1.nd.upK _ hk) hi∧lo < t1.nd.upK _ hk∧(∀ b,hi=some b→t1.nd.upK _ hk < b) ∧
      (t1.left t1.nd.half).flat++(t1.right t1.nd.half p hk).flat=t1.flat∧(∀ k∈(t1.right t1.nd.half p hk).pgs,k=p ∨ (k∈t1.pgs∧k ∉ (t1.left t1.nd.half).pgs))∧(∀ k∈(t1.left t1.nd.half).pgs,k∈t1.pgs)∧(t1.nd.leaf=false→nb (t1.left t1.nd.half).nd≤75∧nb (t1.right t1.nd.half p hk).nd≤75∧109≤nb t1.nd) ∧
      1≤t1.nd.half∧(∀ k,X k→k ≠ t1.pg→b.F k=a.F k)∧a.u≤b.u∧b.u≤a.u+984∧NextR cap P b t1.pg ⟨t1.nd.upK _ hk,[],p⟩ above e c):=by
  have hr:X t1.pg:=h1.inX _ t1.pg_mem
  have hrp:=hE.lt hr
  have hlenP:∀ xs:List UInt8,xs.length≤112→(pad xs).length=112:=fun xs h=>pad_length h
  have hdp:t1.nd.page=t1.pg:=t1.nd_page
  -- the failed end
  have fail:∀ (e:Nat),e=4→c=a→(∃ (T:Tr n) (X':Nat→Prop) (z':Met) (fl':List Nat),Env P c.F X' z' fl'∧z'.root=z.root∧z'.levels=z.levels∧Live P c.F X' T lo hi∧T.pg=t1.pg∧(∀ k,X k→X' k)∧(∀ k,X k→k ≠ t1.pg→c.F k=a.F k) ∧
      (∀ k∈T.pgs,k∈t1.pgs ∨ k∈tf.pgs)∧(t1.NE→tf.NE→T.NE)∧(t1.nd.cells ≠ []→tf.nd.cells ≠ []→T.nd.cells ≠ [])∧(e=0 ∨ e=4)∧(e=0→T=t1∧X'=X∧a.u≤c.u∧c.u≤a.u+398)):=fun e he hc=>by
    subst hc
    exact ⟨tf,X,z,fl,hE,rfl,rfl,hf,hpg,fun _ h=>h,fun _ _ _=>rfl,fun k hk=>.inr hk,fun _ h=>h,fun _ h=>h,.inr he,fun h=>by omega⟩
  -- a page taken: what stands then
  have took:∀ (p:Nat) (b:PSt),TakeR cap P a p 0 b→(1≤p∧p < P∧¬ X p)∧(∀ k,k ≠ 0→b.F k=a.F k)∧a.u≤b.u∧b.u≤a.u+188∧∃ z' fl',Env P b.F (fun k=>X k ∨ k=p) z' fl'∧z'.root=z.root∧z'.levels=z.levels:=fun p b ht=>by
    rcases ht.env hE with ⟨h,-⟩ | ⟨-,h⟩
    · cases h
    · exact h
  have hle:∀ d:Nd,(hl:112 < d.load.length)→True:=fun _ _=>trivial
  -- both halves written
  have both:∀ (p:Nat) (b b':PSt),112 < t1.nd.load.length→TakeR cap P a p 0 b→PartR cap b t1.nd p 0 b' →
      ∃ (z':Met) (fl':List Nat) (hk:t1.nd.half < t1.nd.cells.length),(1≤p∧p < P∧¬ X p)∧Env P b'.F (fun k=>X k ∨ k=p) z' fl'∧z'.root=z.root∧z'.levels=z.levels ∧
      Live P b'.F X (t1.left t1.nd.half) lo (some (t1.nd.upK _ hk))∧Live P b'.F (fun k=>X k ∨ k=p) (t1.right t1.nd.half p hk) (t1.nd.upK _ hk) hi∧lo < t1.nd.upK _ hk∧(∀ b,hi=some b→t1.nd.upK _ hk < b) ∧
      (t1.left t1.nd.half).flat++(t1.right t1.nd.half p hk).flat=t1.flat∧(∀ k∈(t1.right t1.nd.half p hk).pgs,k=p ∨ (k∈t1.pgs∧k ∉ (t1.left t1.nd.half).pgs))∧(∀ k∈(t1.left t1.nd.half).pgs,k∈t1.pgs)∧(t1.nd.leaf=false→nb (t1.left t1.nd.half).nd≤75∧nb (t1.right t1.nd.half p hk).nd≤75∧109≤nb t1.nd) ∧
      1≤t1.nd.half∧(∀ k,X k→k ≠ t1.pg→b'.F k=a.F k)∧a.u≤b'.u∧b'.u≤a.u+984:=fun p b b' hl ht hp=>by
    obtain ⟨hp1,hF,hu1,hu2,z',fl',hE',hz1,hz2⟩:=took p b ht
    obtain ⟨f1,f2,f3,f4,f5,f6,-,-,-⟩:=half_fit h1.ok hl h1.size p (by have:=hE.small;omega)
    cases hp with
    | left b' hw he=>exact absurd rfl he
    | right b1 b' hw hw' =>
      rw [show t1.nd.page=t1.pg from hdp] at hw
      rcases hw.env hE' (.inl hr) (hlenP _ f5) with ⟨-,g1,g2,g3,g4⟩ | ⟨h,-⟩
      rotate_left
      · cases h
      · rcases hw'.env g4 (.inr rfl) (hlenP _ f6) with ⟨-,k1,k2,k3,k4⟩ | ⟨h,-⟩
        rotate_left
        · cases h
        · have hne:t1.pg ≠ p:=fun e=>hp1.2.2 (e ▸ hr)
          have hkeep:∀ k,X k→k ≠ t1.pg→b'.F k=a.F k:=fun k hk hkn=>by
            have hkp:k ≠ p:=fun e=>hp1.2.2 (e ▸ hk)
            have hk0:=hE.used k hk
            rw [k1,updF_other hkp,g1,updF_other hkn,hF k (by omega)]
          obtain ⟨hk,i1,i2,i3,i4,i5,i6,i7,i8⟩:=h1.halves (G:=b'.F) (p:=p) hl hrp hE.small ⟨hp1.1,hp1.2.1⟩ hp1.2.2 (by rw [k1,updF_other hne,g1,updF_same]) (fun k hk hkn=>hkeep k (h1.inX k hk) hkn)
          exact ⟨z',fl',hk,hp1,k4,hz1,hz2,i1,i5 (by rw [k1,updF_same]),i2,i3,i4,i6,i7,i8,f1,hkeep,by omega,by omega⟩
  cases hs with
  | fits _ _ _ _ _ h hw =>
    rw [hdp] at hw
    rcases hw.env hE hr (hlenP _ h) with ⟨rfl,g1,g2,g3,g4⟩ | ⟨g1,g2,-⟩
    · refine .inl ⟨t1,X,z,fl,g4,rfl,rfl,h1.live h hrp (by rw [g1,updF_same]) (fun k hk hkn=>by rw [g1,updF_other hkn]) h1.inX,rfl,fun _ h=>h,fun k hk hkn=>by rw [g1,updF_other hkn],fun k hk=>.inl hk,fun h _=>h,fun h _=>h,.inl rfl,fun _=>⟨rfl,rfl,g2,g3⟩⟩
    · exact .inl (fail e g1 g2)
  | take _ _ _ p _ _ h ht he =>
    rcases ht.env hE with ⟨g1,g2⟩ | ⟨g1,-⟩
    · exact .inl (fail e g1 g2)
    · exact absurd g1 he
  | part _ _ _ p _ b _ hl ht hp he =>
    obtain ⟨hp1,hF,hu1,hu2,z',fl',hE',hz1,hz2⟩:=took p b ht
    obtain ⟨f1,f2,f3,f4,f5,f6,-,-,-⟩:=half_fit h1.ok hl h1.size p (by have:=hE.small;omega)
    have htf:∀ k∈tf.pgs,b.F k=a.F k:=fun k hk=>hF k (by have:=hE.used k (hf.inX k hk);omega)
    cases hp with
    | left _ hw _ =>
      rw [show t1.nd.page=t1.pg from hdp] at hw
      rcases hw.env hE' (.inl hr) (hlenP _ f5) with ⟨g,-⟩ | ⟨g1,g2,-⟩
      · exact absurd g he
      · subst g2
        exact .inl ⟨tf,_,z',fl',hE',hz1,hz2,hf.keep htf (fun k hk=>.inl (hf.inX k hk)),hpg,fun _ h=>.inl h,fun k hk _=>hF k (by have:=hE.used k hk;omega),fun k hk=>.inr hk,fun _ h=>h,fun _ h=>h,.inr g1,fun h=>by omega⟩
    | right b1 _ hw hw' =>
      rw [show t1.nd.page=t1.pg from hdp] at hw
      rcases hw.env hE' (.inl hr) (hlenP _ f5) with ⟨-,g1,g2,g3,g4⟩ | ⟨h,-⟩
      rotate_left
      · cases h
      · rcases hw'.env g4 (.inr rfl) (hlenP _ f6) with ⟨g,-⟩ | ⟨k1,k2,-⟩
        · exact absurd g he
        · subst k2
          have hkeep:∀ k,X k→k ≠ t1.pg→c.F k=a.F k:=fun k hk hkn=>by
            have hk0:=hE.used k hk
            rw [g1,updF_other hkn,hF k (by omega)]
          obtain ⟨hk,i1,i2,i3,i4,i5,i6,i7,i8⟩:=h1.halves (G:=c.F) (p:=p) hl hrp hE.small ⟨hp1.1,hp1.2.1⟩ hp1.2.2 (by rw [g1,updF_same]) (fun k hk hkn=>hkeep k (h1.inX k hk) hkn)
          have hmo:(t1.left t1.nd.half).Ord lo hi:=i1.ord.mono (k_refl _) (by
            cases hh:hi with
            | none=>exact .inr (.inl rfl)
            | some b=>exact .inr (.inr ⟨_,b,rfl,rfl,k_of_lt (i3 b hh)⟩))
          exact .inl ⟨t1.left t1.nd.half,_,z',fl',g4,hz1,hz2,⟨i1.holds,i1.nodup,fun k hk=>.inl (i1.inX k hk),hmo⟩,t1.left_pg _,fun _ h=>.inl h,hkeep,fun k hk=>.inl (i7 k hk),fun h _=>Tr.NE_left h f1,fun h _=>by rw [t1.left_nd];exact take_ne h f1,.inr k1,fun h=>by omega⟩
  | root _ _ p _ b b' _ hl ht hp hr' =>
    obtain ⟨z',fl',hk,q1,q2,q3,q4,q5,q6,q7,q8,q9,q10,q11,q12,q13,q14,q15,q16⟩:=both p b b' hl ht hp
    rw [hdp,Nd.up_eq _ _ hk] at hr'
    exact .inr ⟨p,b',z',fl',hk,q1,q2,q3,q4,q5,q6,q7,q8,q9,q10,q11,q12,q13,q14,q15,q16,hr'⟩
  | up _ _ s above p _ b b' _ hl ht hp hs' =>
    obtain ⟨z',fl',hk,q1,q2,q3,q4,q5,q6,q7,q8,q9,q10,q11,q12,q13,q14,q15,q16⟩:=both p b b' hl ht hp
    rw [Nd.up_eq _ _ hk] at hs'
    exact .inr ⟨p,b',z',fl',hk,q1,q2,q3,q4,q5,q6,q7,q8,q9,q10,q11,q12,q13,q14,q15,q16,hs'⟩
end Go.Proofs.YtheeomjfpnijbaaGreatDoor
end
