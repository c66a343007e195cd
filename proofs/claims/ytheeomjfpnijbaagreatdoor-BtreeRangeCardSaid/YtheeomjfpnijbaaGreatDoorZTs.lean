/- Lemmas: StoreT, StoreS, StoreU, TreeR, GetT, DelS, TreeF. -/
import Derived.Test.YtheeomjfpnijbaaGreatDoorZTr
set_option linter.unusedVariables false
section
namespace Go.Proofs.YtheeomjfpnijbaaGreatDoor
def Cheap (κ:Nat) (f:Nat→Nat) (c:Nat):Prop:=∀ l,κ * 984+c+15 * f (l+1)≤34 * f l
structure Moves (X X':Nat→Prop) (F G:Nat→List UInt8) {n:Nat} (t t':Tr n):Prop where
  up:∀ k,X k→X' k
  rest:∀ k,X k→k ∉ t.pgs→G k=F k
  new:∀ k∈t'.pgs,k∈t.pgs ∨ ¬ X k
structure Whole (X X':Nat→Prop) {n:Nat} (t t':Tr n):Prop where
  kept:∀ k∈t.pgs,k∈t'.pgs
  all:∀ k,X' k→X k ∨ k∈t'.pgs
def Fin (P:Nat) (key val:Key) (a c:PSt) (X:Nat→Prop) (z:Met) {n:Nat} (t:Tr n) (lo:Key) (hi:Option Key) (e:Nat):Prop :=
  ∃ (T:Tr n) (X':Nat→Prop) (z':Met) (fl':List Nat),Env P c.F X' z' fl'∧z'.root=z.root∧z'.levels=z.levels∧Live P c.F X' T lo hi∧T.pg=t.pg∧Moves X X' a.F c.F t T∧(t.NE→T.NE)∧(t.nd.cells ≠ []→T.nd.cells ≠ [])∧(e=0 ∨ e=4) ∧
    (e=0→T.flat=insK key val t.flat∧Whole X X' t T∧a.u≤c.u∧∀ κ f w,Cheap κ f w→κ * c.u+T.pot f w≤κ * a.u+t.pot f w+κ * 1382+w+15 * f 0)
def Emerge (cap P:Nat) (key val:Key) (a c:PSt) (X:Nat→Prop) (z:Met) {n:Nat} (t:Tr n) (lo:Key) (hi:Option Key) (above:List Stp) (e:Nat):Prop :=
  ∃ (b:PSt) (t1 tf:Tr n) (X':Nat→Prop) (z':Met) (fl':List Nat),StoreR cap P b t1.nd above e c∧Env P b.F X' z' fl'∧z'.root=z.root∧z'.levels=z.levels∧Ripe P b.F X' t1 lo hi∧Live P b.F X' tf lo hi∧t1.pg=t.pg∧tf.pg=t.pg ∧
    Moves X X' a.F b.F t t1∧Moves X X' a.F b.F t tf∧(t.NE→t1.NE∧tf.NE)∧(t.nd.cells ≠ []→t1.nd.cells ≠ []∧tf.nd.cells ≠ [])∧t1.flat=insK key val t.flat∧Whole X X' t t1∧a.u≤b.u∧∀ κ f w,Cheap κ f w→κ * b.u+t1.pot f w≤κ * a.u+t.pot f w+(if n=0 then 0 else κ * 984+w+15 * f 0)
theorem Tr.at {n:Nat} (t:Tr (n+1)) {lo:Key} {hi:Option Key} {key:Key} (h:t.Ord lo hi) (hk:InB lo hi key) :
    ∃ (lo':Key) (hi':Option Key) (pre post:List (Key × Key)),(t.sub key).Ord lo' hi'∧InB lo' hi' key∧(∀ x∈pre,x.1 < key)∧(∀ x∈post,key < x.1)∧t.flat=pre++((t.sub key).flat++post) ∧
      (∀ y:Tr n,y.Ord lo' hi'→(t.put1 key y).Ord lo hi∧(t.put1 key y).flat=pre++(y.flat++post)) ∧
      (∀ (y z:Tr n) (k:Key),lo' < k→(∀ h,hi'=some h→k < h)→y.Ord lo' (some k)→z.Ord k hi'→(t.put2 key y (k,z)).Ord lo hi∧(t.put2 key y (k,z)).flat=pre++(y.flat++(z.flat++post))):=by
  obtain ⟨lo',hi',pre,post,r1,r2,r3,r4,r5,r6,r7,r8,r9⟩:=OrdL.at (R:=Tr.Ord (n:=n)) (f:=Tr.flat (n:=n)) key (fun c lo hi hc=>Tr.Ord.flat hc) t.2.2 t.2.1 lo hi h hk
  refine ⟨lo',hi',pre,post,r1,r2,fun x hx=>k_lt_le (r4 x hx) r2.1,fun x hx=>?_,r7,r8,r9⟩
  cases hh:hi' with
  | none=>rw [r6 hh] at hx;cases hx
  | some b=>exact k_lt_le (r2.2 b hh) (r5 x hx b hh)
theorem ins_node {d:Nd} {i:Nat} {c:Cel} (hd:NdOk d) (hc:CelOk d.leaf c) (hs:((insC d.cells i c).map (·.key)).Pairwise (· < ·)) :
    NdOk { d with cells:=insC d.cells i c }∧nb { d with cells:=insC d.cells i c }=nb d+(celB d.leaf c).length:=by
  constructor
  · refine ⟨fun x hx=>?_,hs,hd.first,hd.isLeaf⟩
    rcases List.mem_append.1 hx with hx | hx
    · exact hd.cells x (List.mem_of_mem_take hx)
    · rcases List.mem_cons.1 hx with rfl | hx
      · exact hc
      · exact hd.cells x (List.mem_of_mem_drop hx)
  · show ((d.cells.take i++c :: d.cells.drop i).flatMap (celB d.leaf)).length=_
    unfold nb
    conv=>rhs;rw [← List.take_append_drop i d.cells,List.flatMap_append,List.length_append]
    rw [List.flatMap_append,List.flatMap_cons,List.length_append,List.length_append]
    omega
theorem Tr.Ord.keys {n:Nat} {t:Tr (n+1)} {lo:Key} {hi:Option Key} (h:t.Ord lo hi):(t.nd.cells.map (·.key)).Pairwise (· < ·):=by
  rw [t.nd_keys]
  exact (OrdL.keys (R:=Tr.Ord (n:=n)) _ _ _ _ h).1
theorem Tr.pgs_at {n:Nat} (t:Tr (n+1)) (key:Key):∃ l r:List (Tr n),t.kids=l++t.sub key :: r∧(∀ y,(t.put1 key y).kids=l++y :: r)∧(∀ y up,(t.put2 key y up).kids=l++y :: up.2 :: r) ∧
    t.nds.tail=l.flatMap Tr.nds++((t.sub key).nds++r.flatMap Tr.nds)∧t.pgs=t.pg :: (l.flatMap Tr.pgs++((t.sub key).pgs++r.flatMap Tr.pgs)) ∧
    (∀ y,(t.put1 key y).nds.tail=l.flatMap Tr.nds++(y.nds++r.flatMap Tr.nds))∧(∀ y,(t.put1 key y).pgs=t.pg :: (l.flatMap Tr.pgs++(y.pgs++r.flatMap Tr.pgs))) ∧
    (∀ y up,(t.put2 key y up).nds.tail=l.flatMap Tr.nds++(y.nds++(up.2.nds++r.flatMap Tr.nds)))∧(∀ y up,(t.put2 key y up).pgs=t.pg :: (l.flatMap Tr.pgs++(y.pgs++(up.2.pgs++r.flatMap Tr.pgs)))):=by
  obtain ⟨l,r,h1,-,h2,h3⟩:=t.kids_at key
  refine ⟨l,r,h1,h2,h3,?_,?_,fun y=>?_,fun y=>?_,fun y up=>?_,fun y up=>?_⟩
  · rw [t.nds_eq,List.tail_cons,h1,List.flatMap_append,List.flatMap_cons]
  · rw [t.pgs_eq,h1,List.flatMap_append,List.flatMap_cons]
  · rw [Tr.nds_eq,List.tail_cons,h2,List.flatMap_append,List.flatMap_cons]
  · rw [Tr.pgs_eq,h2,List.flatMap_append,List.flatMap_cons];rfl
  · rw [Tr.nds_eq,List.tail_cons,h3,List.flatMap_append,List.flatMap_cons,List.flatMap_cons]
  · rw [Tr.pgs_eq,h3,List.flatMap_append,List.flatMap_cons,List.flatMap_cons];rfl
theorem nds_pgs {n:Nat} {l:List (Tr n)} {d:Nd} (h:d∈l.flatMap Tr.nds):d.page∈l.flatMap Tr.pgs:=by
  obtain ⟨y,hy,hd⟩:=List.mem_flatMap.1 h
  exact List.mem_flatMap.2 ⟨y,hy,List.mem_map.2 ⟨d,hd,rfl⟩⟩
end Go.Proofs.YtheeomjfpnijbaaGreatDoor
end
section
namespace Go.Proofs.YtheeomjfpnijbaaGreatDoor
theorem nodup_swap {A B B' C:List Nat} (h:(A++(B++C)).Nodup) (hB:B'.Nodup) (hd:∀ k∈B',k∈B ∨ (k ∉ A∧k ∉ C)):(A++(B'++C)).Nodup:=by
  rw [List.nodup_append] at h ⊢
  obtain ⟨h1,h2,h3⟩:=h
  rw [List.nodup_append] at h2
  obtain ⟨h4,h5,h6⟩:=h2
  refine ⟨h1,?_,fun x hx y hy e=>?_⟩
  · rw [List.nodup_append]
    refine ⟨hB,h5,fun x hx y hy e=>?_⟩
    rcases hd x hx with h | h
    · exact h6 x h y hy e
    · exact h.2 (e ▸ hy)
  · rcases List.mem_append.1 hy with hy | hy
    · rcases hd y hy with h | h
      · exact h3 x hx y (List.mem_append.2 (.inl h)) e
      · exact h.1 (e ▸ hx)
    · exact h3 x hx y (List.mem_append.2 (.inr hy)) e
theorem Live.sub {P:Nat} {F:Nat→List UInt8} {X:Nat→Prop} {n:Nat} {t:Tr (n+1)} {lo lo':Key} {hi hi':Option Key} {key:Key} (h:Live P F X t lo hi) (ho:(t.sub key).Ord lo' hi'):Live P F X (t.sub key) lo' hi'∧(∀ k∈(t.sub key).pgs,k∈t.pgs):=by
  obtain ⟨l,r,-,-,-,h4,h5,-⟩:=t.pgs_at key
  have hp:∀ k∈(t.sub key).pgs,k∈t.pgs:=fun k hk=>by rw [h5];exact List.mem_cons_of_mem _ (List.mem_append.2 (.inr (List.mem_append.2 (.inl hk))))
  refine ⟨⟨fun d hd=>h.holds d (t.sub_nds key hd),?_,fun k hk=>h.inX k (hp k hk),ho⟩,hp⟩
  have hn:=h.nodup
  rw [h5] at hn
  exact (List.nodup_append.1 (List.nodup_append.1 (List.nodup_cons.1 hn).2).2.1).1
theorem Live.put1 {P:Nat} {F G:Nat→List UInt8} {X X':Nat→Prop} {n:Nat} {t:Tr (n+1)} {y:Tr n} {lo lo':Key} {hi hi':Option Key} {key:Key} (hh:Live P F X t lo hi) (hy:Live P G X' y lo' hi') (hpg:y.pg=(t.sub key).pg) (hm:Moves X X' F G (t.sub key) y) (ho:(t.put1 key y).Ord lo hi) :
    Live P G X' (t.put1 key y) lo hi∧Moves X X' F G t (t.put1 key y):=by
  obtain ⟨l,r,h1,h2,h3,h4,h5,h6,h7,-⟩:=t.pgs_at key
  have hn:=hh.nodup
  rw [h5] at hn
  have hn':((t.pg :: l.flatMap Tr.pgs)++((t.sub key).pgs++r.flatMap Tr.pgs)).Nodup:=hn
  have hout:∀ k,k∈t.pg :: l.flatMap Tr.pgs ∨ k∈r.flatMap Tr.pgs→k∈t.pgs∧k ∉ (t.sub key).pgs:=fun k hk=>by
    rw [List.nodup_append] at hn'
    obtain ⟨n1,n2,n3⟩:=hn'
    rw [List.nodup_append] at n2
    rcases hk with hk | hk
    · exact ⟨by rw [h5];exact (List.mem_append.2 (.inl hk):k∈(t.pg :: l.flatMap Tr.pgs)++_),fun hm=>n3 k hk k (List.mem_append.2 (.inl hm)) rfl⟩
    · exact ⟨by rw [h5];exact List.mem_cons_of_mem _ (List.mem_append.2 (.inr (List.mem_append.2 (.inr hk)))),fun hm=>n2.2.2 k hm k hk rfl⟩
  have hG:∀ k,k∈t.pg :: l.flatMap Tr.pgs ∨ k∈r.flatMap Tr.pgs→G k=F k∧X' k:=fun k hk=>by
    obtain ⟨a,b⟩:=hout k hk
    exact ⟨hm.rest k (hh.inX k a) b,hm.up k (hh.inX k a)⟩
  have hpgs:(t.put1 key y).pgs=(t.pg :: l.flatMap Tr.pgs)++(y.pgs++r.flatMap Tr.pgs):=h7 y
  refine ⟨⟨fun d hd=>?_,?_,fun k hk=>?_,ho⟩,⟨hm.up,fun k hk hkt=>hm.rest k hk (fun hs=>hkt ?_),fun k hk=>?_⟩⟩
  · rw [(t.put1 key y).nds_hd] at hd
    rcases List.mem_cons.1 hd with rfl | hd
    · rw [t.nd_put1 key y hpg]
      exact (hh.holds _ t.nd_mem).keep (hG _ (.inl (by rw [t.nd_page];simp))).1
    · rw [h6] at hd
      rcases List.mem_append.1 hd with hd | hd
      · exact (hh.holds d (by rw [t.nds_hd,h4];exact List.mem_cons_of_mem _ (List.mem_append.2 (.inl hd)))).keep (hG _ (.inl (List.mem_cons_of_mem _ (nds_pgs hd)))).1
      · rcases List.mem_append.1 hd with hd | hd
        · exact hy.holds d hd
        · exact (hh.holds d (by rw [t.nds_hd,h4];exact List.mem_cons_of_mem _ (List.mem_append.2 (.inr (List.mem_append.2 (.inr hd)))))).keep (hG _ (.inr (nds_pgs hd))).1
  · rw [hpgs]
    refine nodup_swap hn' hy.nodup fun k hk=>?_
    rcases hm.new k hk with h | h
    · exact .inl h
    · exact .inr ⟨fun hk'=>h (hh.inX k (hout k (.inl hk')).1),fun hk'=>h (hh.inX k (hout k (.inr hk')).1)⟩
  · rw [hpgs] at hk
    rcases List.mem_append.1 hk with hk | hk
    · exact (hG k (.inl hk)).2
    · rcases List.mem_append.1 hk with hk | hk
      · exact hy.inX k hk
      · exact (hG k (.inr hk)).2
  · rw [h5];exact List.mem_cons_of_mem _ (List.mem_append.2 (.inr (List.mem_append.2 (.inl hs))))
  · rw [hpgs] at hk
    rcases List.mem_append.1 hk with hk | hk
    · exact .inl (hout k (.inl hk)).1
    · rcases List.mem_append.1 hk with hk | hk
      · rcases hm.new k hk with h | h
        · exact .inl (by rw [h5];exact List.mem_cons_of_mem _ (List.mem_append.2 (.inr (List.mem_append.2 (.inl h)))))
        · exact .inr h
      · exact .inl (hout k (.inr hk)).1
theorem Live.put2 {P:Nat} {F G:Nat→List UInt8} {X X':Nat→Prop} {n:Nat} {t:Tr (n+1)} {y u:Tr n} {k0:Key} {lo lo':Key} {hi hi':Option Key} {key:Key} (hh:Live P F X t lo hi) (hy:Live P G X' y lo' (some k0)) (hu:Live P G X' u k0 hi') (hpg:y.pg=(t.sub key).pg) (hdis:∀ k∈u.pgs,k ∉ y.pgs)
    (hup:∀ k,X k→X' k) (hrest:∀ k,X k→k ∉ (t.sub key).pgs→G k=F k) (hnew:∀ k,k∈y.pgs ∨ k∈u.pgs→k∈(t.sub key).pgs ∨ ¬ X k) (hk0:1≤k0.length∧k0.length≤12) (hup5:u.pg < 65536) (ho:(t.put2 key y (k0,u)).Ord lo hi) :
    Ripe P G X' (t.put2 key y (k0,u)) lo hi∧Moves X X' F G t (t.put2 key y (k0,u))∧nb (t.put2 key y (k0,u)).nd≤nb t.nd+15:=by
  obtain ⟨l,r,h1,h2,h3,h4,h5,-,-,h6,h7⟩:=t.pgs_at key
  have hn:=hh.nodup
  rw [h5] at hn
  have hn':((t.pg :: l.flatMap Tr.pgs)++((t.sub key).pgs++r.flatMap Tr.pgs)).Nodup:=hn
  have hout:∀ k,k∈t.pg :: l.flatMap Tr.pgs ∨ k∈r.flatMap Tr.pgs→k∈t.pgs∧k ∉ (t.sub key).pgs:=fun k hk=>by
    rw [List.nodup_append] at hn'
    obtain ⟨n1,n2,n3⟩:=hn'
    rw [List.nodup_append] at n2
    rcases hk with hk | hk
    · exact ⟨by rw [h5];exact (List.mem_append.2 (.inl hk):k∈(t.pg :: l.flatMap Tr.pgs)++_),fun hm=>n3 k hk k (List.mem_append.2 (.inl hm)) rfl⟩
    · exact ⟨by rw [h5];exact List.mem_cons_of_mem _ (List.mem_append.2 (.inr (List.mem_append.2 (.inr hk)))),fun hm=>n2.2.2 k hm k hk rfl⟩
  have hG:∀ k,k∈t.pg :: l.flatMap Tr.pgs ∨ k∈r.flatMap Tr.pgs→G k=F k∧X' k:=fun k hk=>by
    obtain ⟨a,b⟩:=hout k hk
    exact ⟨hrest k (hh.inX k a) b,hup k (hh.inX k a)⟩
  have hpgs:(t.put2 key y (k0,u)).pgs=(t.pg :: l.flatMap Tr.pgs)++((y.pgs++u.pgs)++r.flatMap Tr.pgs):=by rw [h7 y (k0,u),List.append_assoc];rfl
  have hroot:=hh.holds _ t.nd_mem
  have hnd:=t.nd_put2 key y (k0,u) hpg
  have hck:CelOk t.nd.leaf ⟨k0,[],u.pg⟩:=⟨hk0,(by simp),hup5,(fun h=>by cases h),fun _=>rfl⟩
  have hsort:=Tr.Ord.keys ho
  rw [hnd] at hsort
  obtain ⟨i1,i2⟩:=ins_node hroot.ok hck hsort
  have hsz:nb (t.put2 key y (k0,u)).nd≤nb t.nd+15:=by
    rw [hnd,i2]
    have:=(celB_sz hck).1
    have e:t.nd.leaf=false:=rfl
    rw [e] at this ⊢
    simpa using this
  refine ⟨⟨by rw [hnd];exact i1,?_,fun d hd=>?_,?_,fun k hk=>?_,ho⟩,⟨hup,fun k hk hkt=>hrest k hk (fun hs=>hkt ?_),fun k hk=>?_⟩,hsz⟩
  · have h8:=load_nb t.nd
    have h9:=hroot.load
    have e:t.nd.leaf=false:=rfl
    have e':(t.put2 key y (k0,u)).nd.leaf=false:=rfl
    rw [e] at h8
    rw [e']
    simp at h8 ⊢
    omega
  · rw [h6] at hd
    rcases List.mem_append.1 hd with hd | hd
    · exact (hh.holds d (by rw [t.nds_hd,h4];exact List.mem_cons_of_mem _ (List.mem_append.2 (.inl hd)))).keep (hG _ (.inl (List.mem_cons_of_mem _ (nds_pgs hd)))).1
    · rcases List.mem_append.1 hd with hd | hd
      · exact hy.holds d hd
      · rcases List.mem_append.1 hd with hd | hd
        · exact hu.holds d hd
        · exact (hh.holds d (by rw [t.nds_hd,h4];exact List.mem_cons_of_mem _ (List.mem_append.2 (.inr (List.mem_append.2 (.inr hd)))))).keep (hG _ (.inr (nds_pgs hd))).1
  · rw [hpgs]
    refine nodup_swap hn' ?_ fun k hk=>?_
    · rw [List.nodup_append]
      exact ⟨hy.nodup,hu.nodup,fun x hx y hy e=>hdis y hy (e ▸ hx)⟩
    · rcases hnew k (List.mem_append.1 hk) with h | h
      · exact .inl h
      · exact .inr ⟨fun hk'=>h (hh.inX k (hout k (.inl hk')).1),fun hk'=>h (hh.inX k (hout k (.inr hk')).1)⟩
  · rw [hpgs] at hk
    rcases List.mem_append.1 hk with hk | hk
    · exact (hG k (.inl hk)).2
    · rcases List.mem_append.1 hk with hk | hk
      · rcases List.mem_append.1 hk with hk | hk
        · exact hy.inX k hk
        · exact hu.inX k hk
      · exact (hG k (.inr hk)).2
  · rw [h5];exact List.mem_cons_of_mem _ (List.mem_append.2 (.inr (List.mem_append.2 (.inl hs))))
  · rw [hpgs] at hk
    rcases List.mem_append.1 hk with hk | hk
    · exact .inl (hout k (.inl hk)).1
    · rcases List.mem_append.1 hk with hk | hk
      · rcases hnew k (List.mem_append.1 hk) with h | h
        · exact .inl (by rw [h5];exact List.mem_cons_of_mem _ (List.mem_append.2 (.inr (List.mem_append.2 (.inl h)))))
        · exact .inr h
      · exact .inl (hout k (.inr hk)).1
end Go.Proofs.YtheeomjfpnijbaaGreatDoor
end
section
namespace Go.Proofs.YtheeomjfpnijbaaGreatDoor
theorem insK_ne (key val:Key) (l:List (Key × Key)):insK key val l ≠ []:=by
  cases l with
  | nil=>simp [insK]
  | cons x l=>unfold insK;split;simp;split;simp;simp
theorem insC_ne (l:List Cel) (i:Nat) (c:Cel):insC l i c ≠ []:=by unfold insC;simp
def Tr.ins (key val:Key) (t:Tr 0):Tr 0:=(t.1,insK key val t.2)
def celOf (x:Key × Key):Cel:=⟨x.1,x.2,0⟩
theorem insK_nb (key val:Key):∀ l:List (Key × Key),(((insK key val l).map celOf).flatMap (celB true)).length≤((l.map celOf).flatMap (celB true)).length+(celB true ⟨key,val,0⟩).length:=by
  intro l
  induction l with
  | nil=>simp [insK,celOf]
  | cons x l ih =>
    unfold insK
    split
    · simp only [List.map_cons,List.flatMap_cons,List.length_append,celOf]
      omega
    · split
      · simp only [List.map_cons,List.flatMap_cons,List.length_append,celOf]
        omega
      · simp only [List.map_cons,List.flatMap_cons,List.length_append] at ih ⊢
        omega
theorem ins_ripe {P:Nat} {F:Nat→List UInt8} {X:Nat→Prop} {t:Tr 0} {key val lo:Key} {hi:Option Key} (h:Live P F X t lo hi) (hk:InB lo hi key) (h1:1≤key.length∧key.length≤12) (h2:val.length≤12):Ripe P F X (Tr.ins key val t) lo hi:=by
  have hr:=h.holds _ t.nd_mem
  obtain ⟨o1,o2⟩:=h.ord
  have hc:CelOk true ⟨key,val,0⟩:=⟨h1,h2,by show 0 < 65536;decide,fun _=>rfl,fun h=>by cases h⟩
  have hcells:∀ c∈(insK key val t.2).map celOf,CelOk true c:=fun c hc'=>by
    obtain ⟨x,hx,rfl⟩:=List.mem_map.1 hc'
    rcases mem_insK hx with rfl | hx
    · exact hc
    · exact hr.ok.cells _ (List.mem_map.2 ⟨x,hx,rfl⟩)
  refine ⟨⟨hcells,?_,(by show 0 < 65536;decide),fun _=>rfl⟩,?_,(fun d hd=>by cases hd),?_,?_,Rise.insK o1,fun x hx=>?_⟩
  · have:((insK key val t.2).map celOf).map (·.key)=(insK key val t.2).map (·.1):=by rw [List.map_map];rfl
    show (((insK key val t.2).map celOf).map (·.key)).Pairwise (· < ·)
    rw [this]
    exact Rise.insK o1
  · have h3:=insK_nb key val t.2
    have h4:=load_nb t.nd
    have h5:=hr.load
    have e:t.nd.leaf=true:=rfl
    rw [e] at h4
    simp only [if_true] at h4
    have h6:=(celB_sz hc).1
    simp only [if_true] at h6
    show (((insK key val t.2).map celOf).flatMap (celB true)).length≤136
    have e2:nb t.nd=((t.2.map celOf).flatMap (celB true)).length:=rfl
    omega
  · have:=h.nodup
    exact this
  · have:=h.inX
    exact this
  · rcases mem_insK hx with rfl | hx
    · exact hk
    · exact o2 x hx
theorem put1_NE {n:Nat} {t:Tr (n+1)} {key:Key} {y:Tr n} (h:t.NE) (hy:y.NE):(t.put1 key y).NE:=by
  obtain ⟨l,r,h1,-,h2,-⟩:=t.kids_at key
  refine (Tr.NE_iff _).2 fun u hu=>?_
  have h0:=(Tr.NE_iff t).1 h
  rw [h1] at h0
  rw [h2] at hu
  rcases List.mem_append.1 hu with hu | hu
  · exact h0 u (List.mem_append.2 (.inl hu))
  · rcases List.mem_cons.1 hu with rfl | hu
    · exact hy
    · exact h0 u (List.mem_append.2 (.inr (List.mem_cons_of_mem _ hu)))
theorem put2_NE {n:Nat} {t:Tr (n+1)} {key:Key} {y:Tr n} {up:Key × Tr n} (h:t.NE) (hy:y.NE) (hu:up.2.NE):(t.put2 key y up).NE:=by
  obtain ⟨l,r,h1,-,-,h2⟩:=t.kids_at key
  refine (Tr.NE_iff _).2 fun u hu'=>?_
  have h0:=(Tr.NE_iff t).1 h
  rw [h1] at h0
  rw [h2] at hu'
  rcases List.mem_append.1 hu' with hu' | hu'
  · exact h0 u (List.mem_append.2 (.inl hu'))
  · rcases List.mem_cons.1 hu' with rfl | hu'
    · exact hy
    · rcases List.mem_cons.1 hu' with rfl | hu'
      · exact hu
      · exact h0 u (List.mem_append.2 (.inr (List.mem_cons_of_mem _ hu')))
theorem sub_NE {n:Nat} {t:Tr (n+1)} (h:t.NE) (key:Key):(t.sub key).NE:=by
  obtain ⟨l,r,h1,-⟩:=t.kids_at key
  exact (Tr.NE_iff t).1 h _ (by rw [h1];simp)
theorem put1_pot {n:Nat} {t:Tr (n+1)} {key:Key} {y:Tr n} (f:Nat→Nat) (w:Nat) (hpg:y.pg=(t.sub key).pg):(t.put1 key y).pot f w+(t.sub key).pot f w=t.pot f w+y.pot f w:=by
  obtain ⟨l,r,h1,-,h2,-⟩:=t.kids_at key
  rw [Tr.pot_eq,Tr.pot_eq,h1,h2,t.nd_put1 key y hpg]
  simp only [List.map_append,List.map_cons,List.sum_append,List.sum_cons]
  omega
theorem put2_pot {n:Nat} {t:Tr (n+1)} {key:Key} {y:Tr n} {up:Key × Tr n} (f:Nat→Nat) (w:Nat) (h:nb (t.put2 key y up).nd≤nb t.nd+15):(t.put2 key y up).pot f w+(t.sub key).pot f w≤t.pot f w+y.pot f w+up.2.pot f w+15 * f n:=by
  obtain ⟨l,r,h1,-,-,h2⟩:=t.kids_at key
  rw [Tr.pot_eq,Tr.pot_eq,h1,h2]
  simp only [List.map_append,List.map_cons,List.sum_append,List.sum_cons]
  have:f n * (nb (t.put2 key y up).nd - 75)≤f n * (nb t.nd - 75)+15 * f n:=by
    rw [Nat.mul_comm 15 (f n),← Nat.mul_add]
    exact Nat.mul_le_mul_left _ (by omega)
  omega
theorem Moves.refl (X:Nat→Prop) (F:Nat→List UInt8) {n:Nat} (t:Tr n):Moves X X F F t t:=⟨fun _ h=>h,fun _ _ _=>rfl,fun _ h=>.inl h⟩
theorem Moves.trans {X Y Z:Nat→Prop} {F G H:Nat→List UInt8} {n:Nat} {t t1 t2:Tr n} (h:Moves X Y F G t t1) (h2:∀ k,Y k→Z k) (h3:∀ k,Y k→k ≠ t.pg→H k=G k) (h4:∀ k∈t2.pgs,k∈t.pgs ∨ ¬ X k):Moves X Z F H t t2 :=
  ⟨fun k hk=>h2 k (h.up k hk),fun k hk hkt=>(h3 k (h.up k hk) (fun e=>hkt (e ▸ t.pg_mem))).trans (h.rest k hk hkt),h4⟩
theorem whole_put1 {X X':Nat→Prop} {n:Nat} {t:Tr (n+1)} {key:Key} {y:Tr n} (h:Whole X X' (t.sub key) y):Whole X X' t (t.put1 key y):=by
  obtain ⟨l,r,-,-,-,-,h5,-,h7,-⟩:=t.pgs_at key
  refine ⟨fun k hk=>?_,fun k hk=>?_⟩
  · rw [h5] at hk
    rw [h7]
    rcases List.mem_cons.1 hk with rfl | hk
    · simp
    · refine List.mem_cons_of_mem _ ?_
      rcases List.mem_append.1 hk with hk | hk
      · exact List.mem_append.2 (.inl hk)
      · rcases List.mem_append.1 hk with hk | hk
        · exact List.mem_append.2 (.inr (List.mem_append.2 (.inl (h.kept k hk))))
        · exact List.mem_append.2 (.inr (List.mem_append.2 (.inr hk)))
  · rcases h.all k hk with h | h
    · exact .inl h
    · right
      rw [h7]
      exact List.mem_cons_of_mem _ (List.mem_append.2 (.inr (List.mem_append.2 (.inl h))))
theorem whole_put2 {X X':Nat→Prop} {n:Nat} {t:Tr (n+1)} {key:Key} {y:Tr n} {up:Key × Tr n} (hk:∀ k∈(t.sub key).pgs,k∈y.pgs ∨ k∈up.2.pgs) (ha:∀ k,X' k→X k ∨ k∈y.pgs ∨ k∈up.2.pgs):Whole X X' t (t.put2 key y up):=by
  obtain ⟨l,r,-,-,-,-,h5,-,-,-,h7⟩:=t.pgs_at key
  have hm:∀ k,k∈y.pgs ∨ k∈up.2.pgs→k∈(t.put2 key y up).pgs:=fun k h=>by
    rw [h7]
    refine List.mem_cons_of_mem _ (List.mem_append.2 (.inr ?_))
    rcases h with h | h
    · exact List.mem_append.2 (.inl h)
    · exact List.mem_append.2 (.inr (List.mem_append.2 (.inl h)))
  refine ⟨fun k h=>?_,fun k h=>(ha k h).imp id (hm k)⟩
  rw [h5] at h
  rcases List.mem_cons.1 h with rfl | h
  · rw [h7];simp
  · rcases List.mem_append.1 h with h | h
    · rw [h7];exact List.mem_cons_of_mem _ (List.mem_append.2 (.inl h))
    · rcases List.mem_append.1 h with h | h
      · exact hm k (hk k h)
      · rw [h7];exact List.mem_cons_of_mem _ (List.mem_append.2 (.inr (List.mem_append.2 (.inr (List.mem_append.2 (.inr h))))))
theorem Tr.split_pgs {n:Nat} (t:Tr n) {k p:Nat} (h:k < t.nd.cells.length):(∀ j∈t.pgs,j∈(t.left k).pgs ∨ j∈(t.right k p h).pgs):=by
  intro j hj
  rw [t.pgs_hd,← t.split_tail (p:=p) h,List.map_append] at hj
  rw [(t.left k).pgs_hd,(t.right k p h).pgs_hd,t.left_pg]
  rcases List.mem_cons.1 hj with rfl | hj
  · simp
  · rcases List.mem_append.1 hj with hj | hj
    · exact .inl (List.mem_cons_of_mem _ hj)
    · exact .inr (List.mem_cons_of_mem _ hj)
theorem store_sub {cap P:Nat} {key val:Key} (h1:1≤key.length∧key.length≤12) (h2:val.length≤12):∀ {n:Nat} (t:Tr n) (a c:PSt) (X:Nat→Prop) (z:Met) (fl:List Nat) (lo:Key) (hi:Option Key) (above:List Stp) (e:Nat),
    Env P a.F X z fl→Live P a.F X t lo hi→InB lo hi key→StoreR cap P a (Tr.ins key val (t.lf key)).nd (t.ups key above) e c→Fin P key val a c X z t lo hi e ∨ Emerge cap P key val a c X z t lo hi above e
  | 0,t,a,c,X,z,fl,lo,hi,above,e,hE,hL,hk,hs=>by
    refine .inr ⟨a,Tr.ins key val t,t,X,z,fl,hs,hE,rfl,rfl,ins_ripe hL hk h1 h2,hL,rfl,rfl,⟨fun _ h=>h,fun _ _ _=>rfl,fun _ h=>.inl h⟩,Moves.refl _ _ _,fun h=>⟨?_,h⟩,fun h=>⟨?_,h⟩,rfl,⟨fun _ h=>h,fun _ h=>.inl h⟩,Nat.le_refl _,fun κ f w _=>Nat.le_refl _⟩
    · exact insK_ne key val t.2
    · show (insK key val t.2).map celOf ≠ []
      exact fun e=>insK_ne key val t.2 (List.map_eq_nil_iff.1 e)
  | n+1,t,a,c,X,z,fl,lo,hi,above,e,hE,hL,hk,hs=>by
    obtain ⟨lo',hi',pre,post,o1,o2,o3,o4,o5,o6,o7⟩:=t.at hL.ord hk
    obtain ⟨hLs,hsp⟩:=hL.sub o1
    have hfl:t.flat=pre++((t.sub key).flat++post):=o5
    rcases store_sub h1 h2 (t.sub key) a c X z fl lo' hi' (⟨t.nd,t.nd.at_ key,false⟩ :: above) e hE hLs o2 hs with ⟨T,X',z',fl',q1,q2,q3,q4,q5,q6,q7,qc,q8,q9⟩ | ⟨b,t1,tf,X',z',fl',q1,q2,q3,q4,q5,q6,q7,q8,q9,q10,q11,qc,q12,q13,q14,q15⟩
    · obtain ⟨p1,p2⟩:=o6 T q4.ord
      obtain ⟨r1,r2⟩:=hL.put1 q4 q5 q6 p1
      refine .inl ⟨t.put1 key T,X',z',fl',q1,q2,q3,r1,rfl,r2,fun h=>put1_NE h (q7 (sub_NE h key)),fun h=>by rw [t.nd_put1 key T q5];exact h,q8,fun he=>?_⟩
      obtain ⟨w1,w2,w3,w4⟩:=q9 he
      refine ⟨by rw [p2,w1,hfl,insK_app o3 o4],whole_put1 w2,w3,fun κ f w hc=>?_⟩
      have:=w4 κ f w hc
      have:=put1_pot (t:=t) (key:=key) (y:=T) f w q5
      omega
    · rcases settle q2 q5 q6 (q8.trans q7.symm) q1 with ⟨T,X2,z2,fl2,s1,s2,s3,s4,s5,s6,s7,s8,s9,sc,s10,s11⟩ | ⟨p,b',z2,fl2,hk2,s1,s2,s3,s4,s5,s6,s7,s8,s9,s10,s11,s12,s13,s14,s15,s16,s17⟩
      · obtain ⟨p1,p2⟩:=o6 T s4.ord
        have hmv:Moves X X2 a.F c.F (t.sub key) T:=q9.trans s6 (fun k hk hkn=>s7 k hk (by rw [q7];exact hkn)) (fun k hk=>(s8 k hk).elim (q9.new k) (q10.new k))
        obtain ⟨r1,r2⟩:=hL.put1 s4 (s5.trans q7) hmv p1
        refine .inl ⟨t.put1 key T,X2,z2,fl2,s1,s2.trans q3,s3.trans q4,r1,rfl,r2,fun h=>put1_NE h (s9 (q11 (sub_NE h key)).1 (q11 (sub_NE h key)).2),fun h=>by rw [t.nd_put1 key T (s5.trans q7)];exact h,s10,fun he=>?_⟩
        obtain ⟨rfl,rfl,w1,w2⟩:=s11 he
        refine ⟨by rw [p2,q12,hfl,insK_app o3 o4],whole_put1 q13,by omega,fun κ f w hc=>?_⟩
        have h3:=q15 κ f w hc
        have h4:=put1_pot (t:=t) (key:=key) (y:=T) f w q7
        have h5:κ * c.u≤κ * b.u+κ * 398:=by rw [← Nat.mul_add];exact Nat.mul_le_mul_left _ w2
        split at h3 <;> omega
      · obtain ⟨p1,p2⟩:=o7 _ _ _ s7 s8 s5.ord s6.ord
        have hLx:Live P b'.F (fun k=>X' k ∨ k=p) (t1.left t1.nd.half) lo' (some (t1.nd.upK _ hk2)):=⟨s5.holds,s5.nodup,fun k hk=>.inl (s5.inX k hk),s5.ord⟩
        have hup:∀ k,X k→(X' k ∨ k=p):=fun k hk=>.inl (q9.up k hk)
        have hrest:∀ k,X k→k ∉ (t.sub key).pgs→b'.F k=a.F k:=fun k hk hkn=>(s14 k (q9.up k hk) (fun e=>hkn (by rw [e,q7];exact (t.sub key).pg_mem))).trans (q9.rest k hk hkn)
        have hXp:¬ X p:=fun h=>s1.2.2 (q9.up p h)
        have hnew:∀ k,k∈(t1.left t1.nd.half).pgs ∨ k∈(t1.right t1.nd.half p hk2).pgs→k∈(t.sub key).pgs ∨ ¬ X k:=fun k hk=>by
          rcases hk with hk | hk
          · exact q9.new k (s11 k hk)
          · rcases s10 k hk with rfl | h
            · exact .inr hXp
            · exact q9.new k h.1
        have hP:=hE.small
        have hkk:=(q5.ok.cells _ (List.getElem_mem hk2)).key
        obtain ⟨r1,r2,r3⟩:=hL.put2 (G:=b'.F) (X':=fun k=>X' k ∨ k=p) (k0:=t1.nd.upK _ hk2) hLx s6 ((t1.left_pg _).trans q7) (fun k hk hk'=>by
            rcases s10 k hk with rfl | h
            · exact s1.2.2 (q5.inX k (s11 k hk'))
            · exact h.2 hk') hup hrest hnew hkk (by rw [Tr.right_pg];omega) p1
        have hnd:=t.nd_put2 key (t1.left t1.nd.half) (t1.nd.upK _ hk2,t1.right t1.nd.half p hk2) ((t1.left_pg _).trans q7)
        rw [show (t1.nd.upK _ hk2,t1.right t1.nd.half p hk2).2.pg=p from Tr.right_pg ..] at hnd
        have hst:StoreR cap P b' (t.put2 key (t1.left t1.nd.half) (t1.nd.upK _ hk2,t1.right t1.nd.half p hk2)).nd above e c:=by rw [hnd];exact s17
        have hfo:(t1.left t1.nd.half).Ord lo' hi':=s5.ord.mono (k_refl _) (by
          cases hh:hi' with
          | none=>exact .inr (.inl rfl)
          | some b=>exact .inr (.inr ⟨_,b,rfl,rfl,k_of_lt (s8 b hh)⟩))
        obtain ⟨p3,p4⟩:=o6 _ hfo
        obtain ⟨r4,r5⟩:=hL.put1 (X':=fun k=>X' k ∨ k=p) (G:=b'.F) ⟨s5.holds,s5.nodup,fun k hk=>.inl (s5.inX k hk),hfo⟩ ((t1.left_pg _).trans q7) ⟨hup,hrest,fun k hk=>hnew k (.inl hk)⟩ p3
        refine .inr ⟨b',t.put2 key (t1.left t1.nd.half) (t1.nd.upK _ hk2,t1.right t1.nd.half p hk2),t.put1 key (t1.left t1.nd.half),fun k=>X' k ∨ k=p,z2,fl2,hst,s2,s3.trans q3,s4.trans q4,r1,r4,rfl,rfl,r2,r5,fun h=>?_,fun h=>⟨by rw [hnd];exact insC_ne _ _ _,by rw [t.nd_put1 key _ ((t1.left_pg _).trans q7)];exact h⟩,?_,whole_put2 (fun k hk=>?_) (fun k hk=>?_),by omega,fun κ f w hc=>?_⟩
        · obtain ⟨n1,n2⟩:=q11 (sub_NE h key)
          exact ⟨put2_NE h (Tr.NE_left n1 s13) (Tr.NE_right n1 hk2),put1_NE h (Tr.NE_left n1 s13)⟩
        · rw [p2,hfl,insK_app o3 o4,← q12,← s9,List.append_assoc]
        · exact t1.split_pgs (p:=p) hk2 k (q13.kept k hk)
        · rcases hk with hk | rfl
          · rcases q13.all k hk with h | h
            · exact .inl h
            · exact .inr (t1.split_pgs (p:=p) hk2 k h)
          · refine .inr (.inr ?_)
            have h8:=Tr.pg_mem (t1.right t1.nd.half k hk2)
            rw [Tr.right_pg] at h8
            exact h8
        · have h3:=q15 κ f w hc
          have h4:=put2_pot (t:=t) (key:=key) (y:=t1.left t1.nd.half) (up:=(t1.nd.upK _ hk2,t1.right t1.nd.half p hk2)) f w r3
          have h5:κ * b'.u≤κ * b.u+κ * 984:=by rw [← Nat.mul_add];exact Nat.mul_le_mul_left _ s16
          simp only [Nat.add_one_ne_zero,if_false]
          simp only at h4
          cases n with
          | zero =>
            have h6:=Tr.split_pot0 (p:=p) f w t1 hk2
            simp only [if_true] at h3
            omega
          | succ n =>
            obtain ⟨g1,g2,g3⟩:=s12 rfl
            have h6:=Tr.split_pot (p:=p) f w t1 hk2 g1 g2 g3
            have h7:=hc n
            simp only [Nat.add_one_ne_zero,if_false] at h3
            omega
end Go.Proofs.YtheeomjfpnijbaaGreatDoor
end
section
namespace Go.Proofs.YtheeomjfpnijbaaGreatDoor
structure Tree (P:Nat) (F:Nat→List UInt8) (X:Nat→Prop) (z:Met) (fl:List Nat) {n:Nat} (t:Tr n):Prop where
  env:Env P F X z fl
  live:Live P F X t [] none
  root:z.root=t.pg
  levels:z.levels=n+1
  ne:n ≠ 0→t.NE
  cell:n ≠ 0→t.nd.cells ≠ []
theorem InB.any (key:Key):InB [] none key:=⟨k_nil_le _,nofun⟩
theorem Env.met {P:Nat} {F:Nat→List UInt8} {X:Nat→Prop} {z y:Met} {fl:List Nat} (h:Env P F X z fl) (h1:y.unused=z.unused) (h2:y.free=z.free) (h3:X y.root) (h4:1≤y.levels∧y.levels≤20):Env P (updF F 0 (pad y.load)) X y fl:=by
  have e:∀ k,k ≠ 0→updF F 0 (pad y.load) k=F k:=fun k hk=>updF_other hk
  have hr:=h.used _ h3
  exact { small:=h.small,z0:=updF_same,ok:=⟨by rw [h1];exact h.ok.unused,by rw [h1];exact hr,by rw [h1,h2];exact h.ok.free,h4⟩
          chain:=by rw [h2];exact h.chain.congr (fun k hk=>e k (by have:=h.free k hk;omega))
          nodup:=h.nodup,free:=fun k hk=>by rw [h1];exact h.free k hk,used:=fun k hk=>by rw [h1];exact h.used k hk,all:=fun k k1 k2=>h.all k k1 (by rw [← h1];exact k2)
          len:=fun k hk=>by
            by_cases hk0:k=0
            · rw [hk0,updF_same];exact pad_length (by rw [met_len];decide)
            · rw [e k hk0];exact h.len k hk }
structure PutT (P:Nat) (key val:Key) (a c:PSt) (X:Nat→Prop) {n:Nat} (t:Tr n) (e:Nat) {m:Nat} (T:Tr m) (X':Nat→Prop) (z':Met) (fl':List Nat):Prop where
  tree:Tree P c.F X' z' fl' T
  up:∀ k,X k→X' k
  rest:∀ k,X k→k ∉ t.pgs→c.F k=a.F k
  new:∀ k∈T.pgs,k∈t.pgs ∨ ¬ X k
  ok:e=0→T.flat=insK key val t.flat∧(∀ k∈t.pgs,k∈T.pgs)∧(∀ k,X' k→X k ∨ k∈T.pgs)∧a.u≤c.u∧∀ κ f w,Cheap κ f w→κ * c.u+T.pot f w≤κ * a.u+t.pot f w+κ * 1758+2 * w+15 * f 0
  high:e=71→20≤n+1∧∀ f w,Cheap 0 f w→34 * f (n - 1)≤t.pot f w+w+15 * f 0
  err:e=0 ∨ e=4 ∨ e=71
set_option maxRecDepth 20000 in
theorem cost_more {A B C D E F κ:Nat} (h:A+B≤C+D+κ * 1382+E+F):A+B≤C+D+κ * 1758+2 * E+F:=by
  omega
set_option maxRecDepth 20000 in
theorem put_tree {cap P:Nat} {key val:Key} {a c:PSt} {X:Nat→Prop} {z:Met} {fl:List Nat} {n:Nat} {t:Tr n} {e:Nat} (h1:1≤key.length∧key.length≤12) (h2:val.length≤12) (hT:Tree P a.F X z fl t) (hs:StoreR cap P a (Tr.ins key val (t.lf key)).nd (t.ups key []) e c) :
    ∃ (m:Nat) (T:Tr m) (X':Nat→Prop) (z':Met) (fl':List Nat),PutT P key val a c X t e T X' z' fl':=by
  have hlev:=hT.env.ok.levels
  -- within the same levels
  have done:∀ (T:Tr n) (X':Nat→Prop) (z':Met) (fl':List Nat),Env P c.F X' z' fl'→z'.root=z.root→z'.levels=z.levels→Live P c.F X' T [] none→T.pg=t.pg→Moves X X' a.F c.F t T→(n ≠ 0→T.NE)→(n ≠ 0→T.nd.cells ≠ [])→(e=0 ∨ e=4 ∨ e=71) →
      (e=0→T.flat=insK key val t.flat∧Whole X X' t T∧a.u≤c.u∧∀ κ f w,Cheap κ f w→κ * c.u+T.pot f w≤κ * a.u+t.pot f w+κ * 1758+2 * w+15 * f 0)→(e=71→20≤n+1∧∀ f w,Cheap 0 f w→34 * f (n - 1)≤t.pot f w+w+15 * f 0) →
      ∃ (m:Nat) (T:Tr m) (X':Nat→Prop) (z':Met) (fl':List Nat),PutT P key val a c X t e T X' z' fl':=fun T X' z' fl' q1 q2 q3 q4 q5 q6 q7 q8 q9 q10 q11 =>
    by
      have htree:Tree P c.F X' z' fl' T:={ env:=q1,live:=q4,root:=by rw [q2,hT.root];exact q5.symm,levels:=by rw [q3];exact hT.levels,ne:=q7,cell:=q8 }
      refine ⟨n,T,X',z',fl',⟨htree,q6.up,q6.rest,q6.new,fun he=>?_,q11,q9⟩⟩
      obtain ⟨a,b,c,d⟩:=q10 he
      exact ⟨a,b.kept,b.all,c,d⟩
  rcases store_sub h1 h2 t a c X z fl [] none [] e hT.env hT.live (InB.any key) hs with ⟨T,X',z',fl',q1,q2,q3,q4,q5,q6,q7,qc,q8,q9⟩ | ⟨b,t1,tf,X',z',fl',q1,q2,q3,q4,q5,q6,q7,q8,q9,q10,q11,qc,q12,q13,q14,q15⟩
  · refine done T X' z' fl' q1 q2 q3 q4 q5 q6 ?_ ?_ ?_ ?_ ?_
    · exact fun hn=>q7 (hT.ne hn)
    · exact fun hn=>qc (hT.cell hn)
    · exact q8.imp id .inl
    · intro he
      obtain ⟨w1,w2,w3,w4⟩:=q9 he
      refine ⟨w1,w2,w3,fun κ f w hc=>?_⟩
      exact cost_more (w4 κ f w hc)
    · intro he;omega
  · have hne1:n ≠ 0→t1.NE∧tf.NE:=fun hn=>q11 (hT.ne hn)
    have hce1:n ≠ 0→t1.nd.cells ≠ []∧tf.nd.cells ≠ []:=fun hn=>qc (hT.cell hn)
    have hNE:t1.NE:=by
      by_cases hn:n=0
      · subst hn
        exact fun e=>insK_ne key val t.flat (q12.symm.trans e)
      · exact (hne1 hn).1
    rcases settle q2 q5 q6 (q8.trans q7.symm) q1 with ⟨T,X2,z2,fl2,s1,s2,s3,s4,s5,s6,s7,s8,s9,sc,s10,s11⟩ | ⟨p,b',z2,fl2,hk2,s1,s2,s3,s4,s5,s6,s7,s8,s9,s10,s11,s12,s13,s14,s15,s16,s17⟩
    · have hmv:Moves X X2 a.F c.F t T:=q9.trans s6 (fun k hk hkn=>s7 k hk (by rw [q7];exact hkn)) (fun k hk=>(s8 k hk).elim (q9.new k) (q10.new k))
      refine done T X2 z2 fl2 s1 (s2.trans q3) (s3.trans q4) s4 (s5.trans q7) hmv ?_ ?_ ?_ ?_ ?_
      · exact fun hn=>s9 (hne1 hn).1 (hne1 hn).2
      · exact fun hn=>sc (hce1 hn).1 (hce1 hn).2
      · exact s10.imp id .inl
      · intro he
        obtain ⟨rfl,rfl,w1,w2⟩:=s11 he
        refine ⟨q12,q13,by omega,fun κ f w hc=>?_⟩
        have h3:=q15 κ f w hc
        have h5:κ * c.u≤κ * b.u+κ * 398:=by rw [← Nat.mul_add];exact Nat.mul_le_mul_left _ w2
        split at h3 <;> omega
      · intro he;omega
    · have hXp:¬ X p:=fun h=>s1.2.2 (q9.up p h)
      have hfo:(t1.left t1.nd.half).Ord [] none:=s5.ord.mono (k_refl _) (.inr (.inl rfl))
      have hLpg:(t1.left t1.nd.half).pg=t.pg:=(t1.left_pg _).trans q7
      have hcells:t1.nd.cells ≠ []:=fun e=>by rw [e] at hk2;simp at hk2
      -- the left half alone stands: no new root
      have left:∀ (X2:Nat→Prop) (z3:Met) (fl3:List Nat),Env P c.F X2 z3 fl3→z3.root=z2.root→z3.levels=z2.levels→(∀ k,X' k→X2 k)→(∀ k,X' k→c.F k=b'.F k)→(e=4 ∨ e=71)→(e=71→20≤n+1) →
          ∃ (m:Nat) (T:Tr m) (X':Nat→Prop) (z':Met) (fl':List Nat),PutT P key val a c X t e T X' z' fl':=fun X2 z3 fl3 g1 g2 g3 g4 g5 g6 g7=>by
        refine done (t1.left t1.nd.half) X2 z3 fl3 g1 (g2.trans (s3.trans q3)) (g3.trans (s4.trans q4)) ?_ hLpg ?_ ?_ ?_ ?_ ?_ ?_
        · exact ⟨fun d hd=>(s5.holds d hd).keep (g5 _ (s5.inX _ (List.mem_map.2 ⟨d,hd,rfl⟩))),s5.nodup,fun k hk=>g4 k (s5.inX k hk),hfo⟩
        · refine ⟨fun k hk=>g4 k (q9.up k hk),fun k hk hkt=>?_,fun k hk=>q9.new k (s11 k hk)⟩
          rw [g5 k (q9.up k hk),s14 k (q9.up k hk) (fun e=>hkt (by rw [e,q7];exact t.pg_mem)),q9.rest k hk hkt]
        · exact fun _=>Tr.NE_left hNE s13
        · exact fun _=>by rw [t1.left_nd];exact take_ne hcells s13
        · omega
        · intro he;omega
        · intro he
          have h20:=g7 he
          refine ⟨h20,fun f w hc=>?_⟩
          have h3:=q15 0 f w hc
          obtain ⟨m,rfl⟩:∃ m,n=m+1:=⟨n - 1,by omega⟩
          have h4:=(s12 rfl).2.2
          have h5:=Tr.pot_eq f w t1
          have h6:34 * f m≤f m * (nb t1.nd - 75):=by rw [Nat.mul_comm];exact Nat.mul_le_mul_left _ (by omega)
          simp only [Nat.add_one_ne_zero,if_false,Nat.zero_mul] at h3
          show 34 * f m≤_
          omega
      have hX'0:∀ k,X' k→k ≠ 0:=fun k hk=>by have:=q2.used k hk;omega
      have hzu:z2.unused≤P:=s2.ok.unused.2
      cases s17 with
      | take p2 _ _ ht he =>
        rcases ht.env s2 with ⟨g1,g2⟩ | ⟨g1,-⟩
        · subst g2
          exact left _ z2 fl2 s2 rfl rfl (fun k hk=>.inl hk) (fun k hk=>rfl) (.inl g1) (fun h=>by omega)
        · exact absurd g1 he
      | page p2 _ b2 _ ht hw he =>
        rcases ht.env s2 with ⟨g,-⟩ | ⟨-,g1,g2,g3,g4,z3,fl3,g5,g6,g7⟩
        · cases g
        · rcases hw.env g5 (.inr rfl) (pad_length (by simp [Nd.load,le2,celB];have:=(q5.ok.cells _ (List.getElem_mem hk2)).key;unfold Nd.upK;omega)) with ⟨g,-⟩ | ⟨k1,k2,-⟩
          · exact absurd g he
          · subst k2
            exact left _ z3 fl3 g5 g6 g7 (fun k hk=>.inl (.inl hk)) (fun k hk=>g2 k (hX'0 k hk)) (.inl k1) (fun h=>by omega)
      | high p2 y b2 _ ht hw hz hy hl =>
        rcases ht.env s2 with ⟨g,-⟩ | ⟨-,g1,g2,g3,g4,z3,fl3,g5,g6,g7⟩
        · cases g
        · rcases hw.env g5 (.inr rfl) (pad_length (by simp [Nd.load,le2,celB];have:=(q5.ok.cells _ (List.getElem_mem hk2)).key;unfold Nd.upK;omega)) with ⟨-,k1,k2,k3,k4⟩ | ⟨k1,-⟩
          · obtain rfl:z3=y:=met_inj hT.env.small k4.ok hy (k4.z0.symm.trans hz)
            have hl3:z3.levels=n+1:=by rw [g7,s4,q4];exact hT.levels
            refine left _ z3 fl3 k4 g6 g7 (fun k hk=>.inl (.inl hk)) (fun k hk=>?_) (.inr rfl) (fun _=>by omega)
            rw [k1,updF_other (fun e:k=p2=>g1.2.2 (.inl (e ▸ hk))),g2 k (hX'0 k hk)]
          · cases k1
      | meta_ p2 _ y b2 b3 _ ht hw hz hy hl hw' =>
        rcases ht.env s2 with ⟨g,-⟩ | ⟨-,g1,g2,g3,g4,z3,fl3,g5,g6,g7⟩
        · cases g
        · rcases hw.env g5 (.inr rfl) (pad_length (by simp [Nd.load,le2,celB];have:=(q5.ok.cells _ (List.getElem_mem hk2)).key;unfold Nd.upK;omega)) with ⟨-,k1,k2,k3,k4⟩ | ⟨k1,-⟩
          rotate_left
          · cases k1
          · obtain rfl:z3=y:=met_inj hT.env.small k4.ok hy (k4.z0.symm.trans hz)
            have hl3:z3.levels=n+1:=by rw [g7,s4,q4];exact hT.levels
            have hkeep:∀ k,X' k ∨ k=p→b3.F k=b'.F k:=fun k hk=>by
              rw [k1,updF_other (fun e:k=p2=>g1.2.2 (e ▸ hk)),g2 k (hk.elim (hX'0 k) (fun e=>by omega))]
            rcases hw'.met k4 with ⟨rfl,j1,j2,j3⟩ | ⟨j1,j2,-⟩
            rotate_left
            · subst j2
              exact left _ z3 fl3 k4 g6 g7 (fun k hk=>.inl (.inl hk)) (fun k hk=>hkeep k (.inl hk)) (.inl j1) (fun h=>by omega)
            · obtain ⟨X2,hX2⟩:∃ X2:Nat→Prop,X2=fun k=>(X' k ∨ k=p) ∨ k=p2:=⟨_,rfl⟩
              rw [← hX2] at k4
              have hx2:∀ k,X2 k ↔ (X' k ∨ k=p) ∨ k=p2:=fun k=>by rw [hX2]
              have hp2:X2 p2:=(hx2 _).2 (.inr rfl)
              obtain ⟨T,hTd⟩:∃ T:Tr (n+1),T=(p2,t1.left t1.nd.half,[(t1.nd.upK _ hk2,t1.right t1.nd.half p hk2)]):=⟨_,rfl⟩
              have hTn:T.nd=⟨p2,false,t1.pg,[⟨t1.nd.upK _ hk2,[],p⟩]⟩:=by
                rw [hTd]
                show (⟨p2,false,(t1.left t1.nd.half).pg,[⟨t1.nd.upK _ hk2,[],(t1.right t1.nd.half p hk2).pg⟩]⟩:Nd)=_
                rw [t1.left_pg,Tr.right_pg]
              have hTk:T.kids=[t1.left t1.nd.half,t1.right t1.nd.half p hk2]:=by rw [hTd];rfl
              have hTp:T.pgs=p2 :: ((t1.left t1.nd.half).pgs++(t1.right t1.nd.half p hk2).pgs):=by rw [T.pgs_eq,hTk,hTd];simp [Tr.pg]
              have hTt:T.nds.tail=(t1.left t1.nd.half).nds++(t1.right t1.nd.half p hk2).nds:=by rw [T.nds_eq,hTk];simp
              have hkk:=(q5.ok.cells _ (List.getElem_mem hk2)).key
              have hP:=hT.env.small
              have hnl:(Nd.load ⟨p2,false,t1.pg,[⟨t1.nd.upK _ hk2,[],p⟩]⟩).length≤112:=by simp [Nd.load,le2,celB];unfold Nd.upK;omega
              have hnbr:nb T.nd≤75:=by rw [hTn];simp [nb,celB,le2];unfold Nd.upK;omega
              have hcF:∀ k,X' k ∨ k=p→c.F k=b'.F k:=fun k hk=>by rw [j1,updF_other (hk.elim (hX'0 k) (fun e=>by omega)),hkeep k hk]
              have hXt:∀ k∈t1.pgs,X' k:=q5.inX
              have hRp:∀ k∈(t1.right t1.nd.half p hk2).pgs,X' k ∨ k=p:=fun k hk=>(s10 k hk).elim .inr (fun h=>.inl (hXt k h.1))
              have hLp:∀ k∈(t1.left t1.nd.half).pgs,X' k:=fun k hk=>hXt k (s11 k hk)
              have hEc:Env P c.F X2 { z3 with root:=p2,levels:=z3.levels+1 } fl3:=by
                rw [j1]
                exact k4.met rfl rfl hp2 ⟨by show 1≤z3.levels+1;omega,by show z3.levels+1≤20;omega⟩
              have hlive:Live P c.F X2 T [] none:=by
                refine ⟨fun d hd=>?_,?_,fun k hk=>?_,?_⟩
                · rw [T.nds_hd] at hd
                  rcases List.mem_cons.1 hd with rfl | hd
                  · rw [hTn]
                    refine ⟨⟨g1.1,g1.2.1⟩,⟨fun x hx=>?_,by simp,by have:=(hT.env.lt (hT.live.inX _ t.pg_mem)).2;show t1.pg < 65536;rw [q7];omega,fun h=>by cases h⟩,hnl,?_⟩
                    · rw [List.mem_singleton.1 hx]
                      exact ⟨hkk,by simp,by show p < 65536;omega,(fun h=>by cases h),fun _=>rfl⟩
                    · show c.F p2=_
                      rw [j1,updF_other (by omega),k1,updF_same]
                  · rw [hTt] at hd
                    rcases List.mem_append.1 hd with hd | hd
                    · exact (s5.holds d hd).keep (hcF _ (.inl (hLp _ (List.mem_map.2 ⟨d,hd,rfl⟩))))
                    · exact (s6.holds d hd).keep (hcF _ (hRp _ (List.mem_map.2 ⟨d,hd,rfl⟩)))
                · rw [hTp]
                  refine List.nodup_cons.2 ⟨fun hm=>?_,List.nodup_append.2 ⟨s5.nodup,s6.nodup,fun x hx y hy e=>?_⟩⟩
                  · rcases List.mem_append.1 hm with h | h
                    · exact g1.2.2 (.inl (hLp _ h))
                    · exact g1.2.2 (hRp _ h)
                  · subst e
                    rcases s10 x hy with rfl | h
                    · exact s1.2.2 (hLp _ hx)
                    · exact h.2 hx
                · rw [hTp] at hk
                  rcases List.mem_cons.1 hk with rfl | hk
                  · exact hp2
                  · rcases List.mem_append.1 hk with h | h
                    · exact (hx2 _).2 (.inl (.inl (hLp _ h)))
                    · exact (hx2 _).2 (.inl (hRp _ h))
                · rw [hTd]
                  exact ⟨s7,nofun,s5.ord,s6.ord⟩
              refine ⟨n+1,T,X2,_,fl3,⟨hEc,hlive,by rw [hTd];rfl,by show z3.levels+1=n+1+1;omega,fun _=>?_,fun _=>by rw [hTn];simp⟩,fun k hk=>(hx2 k).2 (.inl (.inl (q9.up k hk))),fun k hk hkt=>?_,fun k hk=>?_,fun _=>⟨?_,fun k hk=>?_,fun k hk=>?_,by omega,fun κ f w hc=>?_⟩,fun h=>by omega,.inl rfl⟩
              · refine (Tr.NE_iff T).2 fun y hy=>?_
                rw [hTk] at hy
                simp only [List.mem_cons,List.not_mem_nil,or_false] at hy
                rcases hy with rfl | rfl
                · exact Tr.NE_left hNE s13
                · exact Tr.NE_right hNE hk2
              · rw [hcF k (.inl (q9.up k hk)),s14 k (q9.up k hk) (fun e=>hkt (by rw [e,q7];exact t.pg_mem)),q9.rest k hk hkt]
              · rw [hTp] at hk
                rcases List.mem_cons.1 hk with rfl | hk
                · exact .inr (fun h=>g1.2.2 (.inl (q9.up _ h)))
                · rcases List.mem_append.1 hk with h | h
                  · exact q9.new k (s11 k h)
                  · rcases s10 k h with rfl | h
                    · exact .inr hXp
                    · exact q9.new k h.1
              · rw [T.flat_eq,hTk,← q12,← s9]
                simp
              · rw [hTp]
                rcases t1.split_pgs (p:=p) hk2 k (q13.kept k hk) with h | h
                · exact List.mem_cons_of_mem _ (List.mem_append.2 (.inl h))
                · exact List.mem_cons_of_mem _ (List.mem_append.2 (.inr h))
              · rw [hTp]
                rcases (hx2 k).1 hk with (hk | rfl) | rfl
                · rcases q13.all k hk with h | h
                  · exact .inl h
                  · right
                    rcases t1.split_pgs (p:=p) hk2 k h with h | h
                    · exact List.mem_cons_of_mem _ (List.mem_append.2 (.inl h))
                    · exact List.mem_cons_of_mem _ (List.mem_append.2 (.inr h))
                · right
                  have h8:=Tr.pg_mem (t1.right t1.nd.half k hk2)
                  rw [Tr.right_pg] at h8
                  exact List.mem_cons_of_mem _ (List.mem_append.2 (.inr h8))
                · exact .inr (by simp)
              · have h3:=q15 κ f w hc
                have h4:T.pot f w=w+((t1.left t1.nd.half).pot f w+(t1.right t1.nd.half p hk2).pot f w):=by
                  rw [T.pot_eq,hTk]
                  have:nb T.nd - 75=0:=by omega
                  rw [this]
                  simp
                have hu:c.u≤b.u+1758:=by omega
                have h5:κ * c.u≤κ * b.u+κ * 1758:=by rw [← Nat.mul_add];exact Nat.mul_le_mul_left _ hu
                have hsplit:κ * 1758=κ * 984+κ * 774:=by rw [← Nat.mul_add]
                cases n with
                | zero =>
                  have h6:=Tr.split_pot0 (p:=p) f w t1 hk2
                  simp only [if_true] at h3
                  omega
                | succ n =>
                  obtain ⟨i1,i2,i3⟩:=s12 rfl
                  have h6:=Tr.split_pot (p:=p) f w t1 hk2 i1 i2 i3
                  have h7:=hc n
                  simp only [Nat.add_one_ne_zero,if_false] at h3
                  omega
end Go.Proofs.YtheeomjfpnijbaaGreatDoor
end
section
namespace Go.Proofs.YtheeomjfpnijbaaGreatDoor
theorem Tr.lf_flat (key:Key):∀ {n:Nat} (t:Tr n) (lo:Key) (hi:Option Key),t.Ord lo hi→InB lo hi key→∃ pre post,t.flat=pre++((t.lf key).2++post)∧(∀ x∈pre,x.1 < key)∧(∀ x∈post,key < x.1)∧Rise (t.lf key).2
  | 0,t,lo,hi,ho,hk=>⟨[],[],by show t.2=[]++(t.2++[]);simp,nofun,nofun,ho.1⟩
  | n+1,t,lo,hi,ho,hk=>by
    obtain ⟨lo',hi',pre,post,o1,o2,o3,o4,o5,-,-⟩:=t.at ho hk
    obtain ⟨pre',post',h1,h2,h3,h4⟩:=Tr.lf_flat key (t.sub key) lo' hi' o1 o2
    refine ⟨pre++pre',post'++post,?_,fun x hx=>(List.mem_append.1 hx).elim (o3 x) (h2 x),fun x hx=>(List.mem_append.1 hx).elim (h3 x) (o4 x),h4⟩
    rw [o5,h1]
    simp only [List.append_assoc]
    rfl
def fromK (from_:Key) (l:List (Key × Key)):List (Key × Key):=l.filter fun x=>!decide (x.1 < from_)
theorem fromK_app (from_:Key) (a b:List (Key × Key)):fromK from_ (a++b)=fromK from_ a++fromK from_ b:=List.filter_append ..
theorem fromK_none {from_:Key} {l:List (Key × Key)} (h:∀ x∈l,x.1 < from_):fromK from_ l=[]:=by
  unfold fromK
  rw [List.filter_eq_nil_iff]
  intro x hx
  simpa using h x hx
theorem fromK_all {from_:Key} {l:List (Key × Key)} (h:∀ x∈l,¬ x.1 < from_):fromK from_ l=l:=by
  unfold fromK
  rw [List.filter_eq_self]
  intro x hx
  simpa using h x hx
theorem OrdL.low {α:Type} {R:α→Key→Option Key→Prop} {f:α→List (Key × Key)} (key:Key) (hR:∀ c lo hi,R c lo hi→Rise (f c)∧∀ x∈f c,InB lo hi x.1) :
    ∀ (cs:List (Key × α)) (c:α) (lo:Key) (hi:Option Key),OrdL R c cs lo hi→∀ y∈(kids c cs).take (nle key (cs.map (·.1))),∀ x∈f y,x.1 < key:=by
  intro cs
  induction cs with
  | nil=>intro c lo hi _ y hy;simp [nle] at hy
  | cons u cs ih =>
    intro c lo hi h y hy x hx
    obtain ⟨a,b,d,e⟩:=h
    by_cases hlt:key < u.1
    · have:nle key ((u :: cs).map (·.1))=0:=if_pos hlt
      rw [this] at hy
      simp at hy
    · have:nle key ((u :: cs).map (·.1))=nle key (cs.map (·.1))+1:=if_neg hlt
      rw [this] at hy
      have hk:kids c (u :: cs)=c :: kids u.2 cs:=rfl
      rw [hk,List.take_succ_cons] at hy
      rcases List.mem_cons.1 hy with rfl | hy
      · exact k_lt_le ((hR _ _ _ d).2 x hx |>.2 _ rfl) (k_le hlt)
      · exact ih u.2 u.1 hi e y hy x hx
theorem Tr.from_kids {n:Nat} {t:Tr (n+1)} {lo:Key} {hi:Option Key} (key:Key) (ho:t.Ord lo hi):fromK key t.flat=((t.kids.drop (t.nd.at_ key)).map fun y=>fromK key y.flat).flatten:=by
  have h:=OrdL.low (R:=Tr.Ord (n:=n)) (f:=Tr.flat (n:=n)) key (fun c lo hi hc=>Tr.Ord.flat hc) t.2.2 t.2.1 lo hi ho
  have e:t.kids=t.kids.take (t.nd.at_ key)++t.kids.drop (t.nd.at_ key):=(List.take_append_drop _ _).symm
  have h1:fromK key ((t.kids.take (t.nd.at_ key)).flatMap Tr.flat)=[]:=fromK_none fun x hx=>by
    obtain ⟨y,hy,hxy⟩:=List.mem_flatMap.1 hx
    rw [t.nd_at] at hy
    exact h y hy x hxy
  rw [t.flat_eq]
  conv=>lhs;rw [e]
  rw [List.flatMap_append,fromK_app,h1,List.nil_append]
  have:∀ l:List (Tr n),fromK key (l.flatMap Tr.flat)=(l.map fun y=>fromK key y.flat).flatten:=by
    intro l
    induction l with
    | nil=>rfl
    | cons y l ih=>rw [List.flatMap_cons,fromK_app,ih];rfl
  exact this _
theorem fromK_drop {from_:Key}:∀ {l:List (Key × Key)},Rise l→fromK from_ l=l.drop (nle from_ (l.map (·.1)) - if from_∈l.map (·.1) then 1 else 0):=by
  intro l
  induction l with
  | nil=>intro _;rfl
  | cons y l ih =>
    intro h
    obtain ⟨h1,h2⟩:=Rise.cons.1 h
    by_cases hlt:from_ < y.1
    · have hall:∀ x∈y :: l,¬ x.1 < from_:=fun x hx=>by
        rcases List.mem_cons.1 hx with rfl | hx
        · exact k_nlt (k_of_lt hlt)
        · exact k_nlt (k_of_lt (k_trans hlt (h1 x hx)))
      rw [fromK_all hall]
      have:nle from_ ((y :: l).map (·.1))=0:=if_pos hlt
      rw [this,Nat.zero_sub,List.drop_zero]
    · have hn:nle from_ ((y :: l).map (·.1))=nle from_ (l.map (·.1))+1:=if_neg hlt
      by_cases he:y.1=from_
      · have hall:∀ x∈y :: l,¬ x.1 < from_:=fun x hx=>by
          rcases List.mem_cons.1 hx with rfl | hx
          · rw [he];exact k_irrefl _
          · have:=h1 x hx;rw [he] at this;exact k_nlt (k_of_lt this)
        have h0:nle from_ (l.map (·.1))=0:=by
          cases l with
          | nil=>rfl
          | cons u l=>have:=h1 u (by simp);rw [he] at this;exact if_pos this
        rw [fromK_all hall,hn,h0,if_pos (by simp [he])]
        rfl
      · have hm:(from_∈(y :: l).map (·.1)) ↔ from_∈l.map (·.1):=by
          rw [List.map_cons,List.mem_cons]
          exact ⟨fun h=>h.resolve_left (fun e=>he e.symm),.inr⟩
        have hy:y.1 < from_:=by
          rcases k_tri y.1 from_ with h | h | h
          · exact h
          · exact absurd h he
          · exact absurd h hlt
        have e1:fromK from_ (y :: l)=fromK from_ l:=by
          unfold fromK
          rw [List.filter_cons]
          simp [hy]
        rw [e1,ih h2,hn]
        simp only [hm]
        by_cases hmm:from_∈l.map (·.1)
        · have hpos:0 < nle from_ (l.map (·.1)):=by
            cases l with
            | nil=>simp at hmm
            | cons u l =>
              obtain ⟨h3,h4⟩:=Rise.cons.1 h2
              have:¬ from_ < u.1:=by
                rcases List.mem_cons.1 hmm with e | hmm
                · rw [e];exact k_irrefl _
                · obtain ⟨v,hv,e⟩:=List.mem_map.1 hmm
                  have:=h3 v hv
                  rw [e] at this
                  exact k_nlt (k_of_lt this)
              have:nle from_ ((u :: l).map (·.1))=nle from_ (l.map (·.1))+1:=if_neg this
              omega
          rw [if_pos hmm]
          have:nle from_ (l.map (·.1))+1 - 1=(nle from_ (l.map (·.1)) - 1)+1:=by omega
          rw [this,List.drop_succ_cons]
        · rw [if_neg hmm]
          rfl
end Go.Proofs.YtheeomjfpnijbaaGreatDoor
end
section
namespace Go.Proofs.YtheeomjfpnijbaaGreatDoor
structure DelT (P:Nat) (a b:PSt) (X:Nat→Prop) {n:Nat} (t:Tr n) (l:List (Key × Key)) (cc:Nat) {m:Nat} (T:Tr m) (X':Nat→Prop) (z':Met) (fl':List Nat):Prop where
  tree:Tree P b.F X' z' fl' T
  flat:T.flat=l
  x:∀ k,X' k ↔ X k∧(k∈t.pgs→k∈T.pgs)
  sub:∀ k∈T.pgs,k∈t.pgs
  same:∀ k,k ≠ 0→k ∉ t.pgs→b.F k=a.F k
  mono:a.u≤b.u
  cost:∀ κ f w,κ * 554≤w→κ * b.u+T.pot f w≤κ * a.u+t.pot f w+κ * cc
end Go.Proofs.YtheeomjfpnijbaaGreatDoor
end
section
namespace Go.Proofs.YtheeomjfpnijbaaGreatDoor
set_option maxRecDepth 20000
theorem nodup_small:∀ (P:Nat) (l:List Nat),l.Nodup→(∀ k∈l,k < P)→l.length≤P:=by
  intro P
  induction P with
  | zero=>intro l _ h;cases l with
    | nil=>exact Nat.le_refl _
    | cons x l=>have:=h x (by simp);omega
  | succ P ih =>
    intro l hn h
    have h1:=ih (l.filter (fun x=>x != P)) (hn.filter _) (fun k hk=>by
      obtain ⟨a,b⟩:=List.mem_filter.1 hk
      have:=h k a
      have:k ≠ P:=by simpa using b
      omega)
    have h2:l.length≤(l.filter (fun x=>x != P)).length+1:=by
      clear ih h h1
      induction l with
      | nil=>simp
      | cons x l ih =>
        obtain ⟨a,b⟩:=List.nodup_cons.1 hn
        by_cases hx:x=P
        · subst hx
          rw [List.filter_cons]
          simp only [bne_self_eq_false,Bool.false_eq_true,if_false,List.length_cons]
          rw [List.filter_eq_self.2 (fun y hy=>by simp;exact fun e=>a (e ▸ hy))]
          exact Nat.le_refl _
        · have:=ih b
          rw [List.filter_cons,if_pos (by simpa using hx)]
          simp only [List.length_cons]
          omega
    omega
theorem Tr.flat_len:∀ {n:Nat} (t:Tr n),(∀ d∈t.nds,d.cells.length≤110)→t.flat.length≤110 * t.nds.length
  | 0,t,h=>by
    have:=h t.nd t.nd_mem
    have e:t.nd.cells.length=t.2.length:=by show (t.2.map _).length=_;rw [List.length_map]
    show t.2.length≤110 * 1
    omega
  | n+1,t,h=>by
    have h1:=Tr.flat_len t.2.1 (fun d hd=>h d (by show d∈Tr.nd (n:=n+1) t :: (t.2.1.nds++t.2.2.flatMap fun x=>x.2.nds);simp [hd]))
    have h2:∀ l:List (Key × Tr n),(∀ x∈l,x∈t.2.2)→(l.flatMap fun x=>x.2.flat).length≤110 * (l.flatMap fun x=>x.2.nds).length:=by
      intro l
      induction l with
      | nil=>intro _;simp
      | cons x l ih =>
        intro hx
        have h3:=Tr.flat_len x.2 (fun d hd=>h d (by
          show d∈Tr.nd (n:=n+1) t :: (t.2.1.nds++t.2.2.flatMap fun x=>x.2.nds)
          exact List.mem_cons_of_mem _ (List.mem_append.2 (.inr (List.mem_flatMap.2 ⟨x,hx x (by simp),hd⟩)))))
        have h4:=ih (fun y hy=>hx y (by simp [hy]))
        simp only [List.flatMap_cons,List.length_append]
        omega
    have h5:=h2 t.2.2 (fun x hx=>hx)
    show (t.2.1.flat++t.2.2.flatMap fun x=>x.2.flat).length≤110 * (Tr.nd (n:=n+1) t :: (t.2.1.nds++t.2.2.flatMap fun x=>x.2.nds)).length
    simp only [List.length_append,List.length_cons]
    omega
theorem cellsL_few {leaf:Bool}:∀ {l:List Cel},l.length≤(l.flatMap (celB leaf)).length:=by
  intro l
  induction l with
  | nil=>simp
  | cons c l ih=>simp only [List.flatMap_cons,List.length_append,List.length_cons,celB];omega
theorem Holds.few {P:Nat} {F:Nat→List UInt8} {d:Nd} (h:Holds P F d):d.cells.length≤110:=by
  have h1:=@cellsL_few d.leaf d.cells
  have h2:2+(d.cells.flatMap (celB d.leaf)).length≤d.load.length:=by unfold Nd.load;split <;> simp [le2] <;> omega
  have:=h.load
  omega
theorem Tree.few {P:Nat} {F:Nat→List UInt8} {X:Nat→Prop} {z:Met} {fl:List Nat} {n:Nat} {t:Tr n} (h:Tree P F X z fl t):t.nds.length≤P∧t.flat.length≤110 * P:=by
  have h1:t.nds.length≤P:=by
    have:=nodup_small P t.pgs h.live.nodup (fun k hk=>(h.env.lt (h.live.inX k hk)).2)
    unfold Tr.pgs at this
    rwa [List.length_map] at this
  refine ⟨h1,Nat.le_trans (t.flat_len fun d hd=>(h.live.holds d hd).few) (Nat.mul_le_mul_left _ h1)⟩
theorem Tree.rise {P:Nat} {F:Nat→List UInt8} {X:Nat→Prop} {z:Met} {fl:List Nat} {n:Nat} {t:Tr n} (h:Tree P F X z fl t):Rise t.flat:=(Tr.Ord.flat h.live.ord).1
def Tr.one:Tr 0:=((1:Nat),([]:List (Key × Key)))
theorem tree_one {P:Nat} {F:Nat→List UInt8} (hP:2≤P) (hP':P≤4096) (h0:F 0=pad (Met.load ⟨1,2,0,1⟩)) (h1:F 1=pad [1,0]) (hl:∀ k,k < P→(F k).length=112):Tree P F (fun k=>k=1) ⟨1,2,0,1⟩ [] Tr.one:=by
  have hn:Tr.one.nd=⟨1,true,0,[]⟩:=rfl
  have hP1:1 < P:=hP
  refine ⟨⟨hP',h0,⟨⟨by simp,hP⟩,⟨by simp,by simp⟩,by simp,by simp,by simp⟩,rfl,List.nodup_nil,nofun,fun k hk=>by subst hk;exact ⟨by simp,by simp⟩,fun k a b=>.inl (by simp at b;omega),hl⟩,⟨fun d hd=>?_,by simp [Tr.pgs,Tr.nds],fun k hk=>?_,?_⟩,rfl,rfl,fun h=>absurd rfl h,fun h=>absurd rfl h⟩
  · obtain rfl:d=Tr.one.nd:=by simpa [Tr.nds] using hd
    rw [hn]
    exact ⟨⟨Nat.le_refl _,hP1⟩,⟨nofun,by simp,by simp,fun _=>rfl⟩,by simp [Nd.load],by simpa [Nd.load] using h1⟩
  · simpa [Tr.pgs,Tr.nds,hn] using hk
  · exact ⟨by simp [Tr.one,Rise],nofun⟩
theorem fromK_nil (l:List (Key × Key)):fromK [] l=l:=fromK_all fun x _=>k_nlt (k_nil_le _)
end Go.Proofs.YtheeomjfpnijbaaGreatDoor
end
