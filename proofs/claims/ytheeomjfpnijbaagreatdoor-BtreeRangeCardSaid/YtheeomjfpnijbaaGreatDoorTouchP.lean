/- Lemmas: Touch. -/
import Derived.Test.YtheeomjfpnijbaaGreatDoorZMg
set_option linter.unusedVariables false
namespace Go.Proofs.YtheeomjfpnijbaaGreatDoor
open Go.RowKit Go.Shelf
set_option maxRecDepth 20000 in
set_option maxHeartbeats 400000 in
theorem touched1_any (r:Rec) (bn:Nat) (n:Int) (w:World) (hn:w.cell? ⟨bn,0,none⟩=some (.int .i64 n)) :
    Calls Tryz.prog 207 #[recV r,.pointer (some ⟨bn,0,none⟩)] w fun e w'=>e=.returned (.bool ((r.page:Int) == n))∧Below w.heap.size w w':=by
  obtain ⟨kind,tx,page,off,ahead,behind,undone,lsn⟩:=r
  have hlt:=cell_lt hn
  unfold recV
  go_enter Tryz.func207,Tryz.ntmps207
  go_wp2
  go_ret
  exact ⟨rfl,(Below.refl _ w).alloc (Nat.le_refl _) _⟩
def touchU (us:List Rec) (n:Int):Bool:=us.any fun u=>(u.page:Int) == n
def IndexQ (us:List Rec) (n:Int) (w:World) (e:Ending) (w':World):Prop:=∃ i:Int,e=.returned (.int .i64 i)∧decide (0≤i)=touchU us n∧Below w.heap.size w w'
theorem rec_cells {w:World} {base L c:Nat} {q:Option Addr} {us:List Rec} (hL:us.length=L) (ho:w.ownsRow base 218 8 (.slice q L c) L (us.flatMap recCells)) {k:Nat} (hk:k < L) :
    ∃ g r,q=some ⟨g,0,none⟩∧us[k]?=some r∧Typed w g 218∧∀ j v,(recCells r)[j]?=some v→w.cell? ⟨g,k * 8+j,none⟩=some v:=by
  obtain ⟨g,rfl,-,ht,hc⟩:=own_atN ho (by omega)
  obtain ⟨r,hr⟩:∃ r,us[k]?=some r:=⟨_,List.getElem?_eq_getElem (by omega)⟩
  exact ⟨g,r,rfl,hr,ht,fun j v hv=>hc _ _ (flat_at recCells 8 recCells_length us k j r v hr hv)⟩
set_option maxRecDepth 20000 in
set_option maxHeartbeats 1000000 in
theorem indexRec_any (bn L c base:Nat) (n:Int) (q:Option Addr) (us:List Rec) (w:World) (hL:us.length=L) (hl:L≤1000000) (ho:w.ownsRow base 218 8 (.slice q L c) L (us.flatMap recCells)) (hn:w.cell? ⟨bn,0,none⟩=some (.int .i64 n)) :
    Calls Tryz.prog 230 #[.slice q L c,.func (.func 207) #[] #[.pointer (some ⟨bn,0,none⟩)]] w (IndexQ us n w):=by
  have HL:=Lib.hid hL
  have HO:=Lib.hid ho
  have HN:=Lib.hid hn
  have Hl:=Lib.hid hl
  clear hL ho hn
  go_enter Tryz.func230,Tryz.ntmps230
  go_wp2_with fail
  go_loopw [8] (fun i wr=>∃ k:Nat,k≤L∧i=.int .i64 k∧Hid (touchU (us.take k) n=false)∧Hid (Below w.heap.size w wr)) (fun i _=>L - (intOf i).toNat)
  case atStart=>exact ⟨0,Nat.zero_le _,rfl,Lib.hid rfl,Lib.hid (Below.refl _ _)⟩
  case round =>
    obtain ⟨k,hk,rfl,HT,HB⟩:=hrel
    by_cases hlt:k < L
    · obtain ⟨g,r,rfl,hr,-,hc⟩:=rec_cells HL.out HO.out hlt
      have hc':∀ j v,(recCells r)[j]?=some v→wr.cell? ⟨g,k * 8+j,none⟩=some v:=fun j v hv=>keepC HB.out (hc j v hv)
      have c0:wr.cell? ⟨g,k * 8,none⟩=some (.int .i64 r.kind):=hc' 0 _ rfl
      have c1:wr.cell? ⟨g,k * 8+1,none⟩=some (.int .i64 r.tx):=hc' 1 _ rfl
      have c2:wr.cell? ⟨g,k * 8+2,none⟩=some (.int .i64 r.page):=hc' 2 _ rfl
      have c3:wr.cell? ⟨g,k * 8+3,none⟩=some (.int .i64 r.off):=hc' 3 _ rfl
      have c4:wr.cell? ⟨g,k * 8+4,none⟩=some (.string r.ahead):=hc' 4 _ rfl
      have c5:wr.cell? ⟨g,k * 8+5,none⟩=some (.string r.behind):=hc' 5 _ rfl
      have c6:wr.cell? ⟨g,k * 8+6,none⟩=some (.int .i64 r.undone):=hc' 6 _ rfl
      have c7:wr.cell? ⟨g,k * 8+7,none⟩=some (.int .i64 r.lsn):=hc' 7 _ rfl
      have HR:=Lib.hid hr
      clear hc hc' hr
      go_wp2_with fail
      refine (touched1_any r bn n _ (keepC HB.out HN.out)).mono ?_
      rintro e w1 ⟨rfl,hb⟩
      have HB1:=Lib.hid (HB.out.trans (hb.mono HB.out.size))
      obtain ⟨t,ht⟩:∃ t,t=((r.page:Int) == n):=⟨_,rfl⟩
      rw [← ht]
      have HTT:=Lib.hid ht
      have HS:Hid (touchU (us.take (k+1)) n=t):=Lib.hid (by
        have:=HT.out
        unfold touchU at this ⊢
        rw [List.take_add_one,HR.out,List.any_append,this,HTT.out]
        simp)
      clear hb ht c0 c1 c2 c3 c4 c5 c6 c7
      cases t with
      | true =>
        go_wp2_with fail
        go_ret
        refine ⟨_,rfl,?_,HB1.out⟩
        rw [decide_eq_true (by omega)]
        have:=HS.out
        unfold touchU at this ⊢
        obtain ⟨u,hu,hp⟩:=List.any_eq_true.1 this
        exact (List.any_eq_true.2 ⟨u,List.mem_of_mem_take hu,hp⟩).symm
      | false =>
        go_wp2_with fail
        go_roundw
        case rel=>exact ⟨k+1,hlt,by go_num,HS,HB1⟩
        case measure=>simp [intOf];omega
    · obtain rfl:k=L:=by omega
      go_wp2_with fail
      go_ret
      refine ⟨_,rfl,?_,HB.out⟩
      have:=HT.out
      rw [show us.take k=us from by rw [← HL.out,List.take_length]] at this
      rw [this]
      rfl
set_option maxRecDepth 20000 in
set_option maxHeartbeats 400000 in
theorem containsRec_any (bn L c base:Nat) (n:Int) (q:Option Addr) (us:List Rec) (w:World) (hL:us.length=L) (hl:L≤1000000) (ho:w.ownsRow base 218 8 (.slice q L c) L (us.flatMap recCells)) (hn:w.cell? ⟨bn,0,none⟩=some (.int .i64 n)) :
    Calls Tryz.prog 206 #[.slice q L c,.func (.func 207) #[] #[.pointer (some ⟨bn,0,none⟩)]] w fun e w'=>e=.returned (.bool (touchU us n))∧Below w.heap.size w w':=by
  have HQ:=Lib.hid (indexRec_any bn L c base n q us w hL hl ho hn)
  clear hL hl ho hn
  go_enter Tryz.func206,Tryz.ntmps206
  go_wp2_with fail
  refine HQ.out.mono ?_
  rintro e w1 ⟨i,rfl,hi,hb⟩
  have HI:=Lib.hid hi
  have HB:=Lib.hid hb
  clear hi hb
  go_wp2
  go_ret
  exact ⟨congrArg (fun b:Bool=>Ending.returned (.bool b)) HI.out,HB.out⟩
set_option maxRecDepth 20000 in
set_option maxHeartbeats 400000 in
theorem touched_any (t:Tx) (B:Nat) (n:Int) (w:World) (h:TxAt w B t) (hl:t.us.length≤1000000) :
    Calls Tryz.prog 143 #[.pointer (some ⟨t.blk,0,none⟩),.int .i64 n] w fun e w'=>e=.returned (.bool (touchU t.us n))∧Below w.heap.size w w':=by
  obtain ⟨blk,row,us⟩:=t
  obtain ⟨h1,h2⟩:=h
  simp only at h1 h2 hl
  obtain ⟨L,hL⟩:∃ L,L=us.length:=⟨_,rfl⟩
  rw [← hL] at h2 hl
  obtain ⟨q,c,rfl⟩:=own_zero h2
  have k0:w.cell? ⟨blk,0,none⟩=some (.slice q L c):=by simp [World.cell?,h1]
  have hlt:=cell_lt k0
  have HA:=Lib.hid ((Below.refl w.heap.size w).alloc (Nat.le_refl _) (.cells #[.int .i64 n] 3))
  have HO:=Lib.hid (own_later h2 HA.out)
  have HL:=Lib.hid hL
  have Hl:=Lib.hid hl
  clear h1 h2 hL hl
  go_enter Tryz.func143,Tryz.ntmps143
  go_wp2_with fail
  refine (containsRec_any w.heap.size L c B n q us _ HL.out.symm Hl.out HO.out (cellNew rfl)).mono ?_
  rintro e w1 ⟨rfl,hb⟩
  have HB:=Lib.hid (chainC HA.out hb)
  clear hb
  go_wp2
  go_ret
  exact ⟨rfl,HB.out⟩
def sumD (f:Tx→Nat) (A:List (Int × Tx)) (todo:Int→Bool):Nat:=(A.map fun x=>if todo x.1 then 0 else f x.2).sum
theorem sumD_start {f:Tx→Nat} {A:List (Int × Tx)} {todo:Int→Bool} (h:∀ x∈A.map (·.1),todo x=true):sumD f A todo=0:=by
  unfold sumD
  induction A with
  | nil=>rfl
  | cons x A ih =>
    rw [List.map_cons,List.sum_cons,ih (fun y hy=>h y (by simp at hy ⊢;exact .inr hy)),if_pos (h x.1 (by simp))]
theorem sumD_end {f:Tx→Nat} {A:List (Int × Tx)} {todo:Int→Bool} (h:∀ x,todo x=false):sumD f A todo=(A.map fun x=>f x.2).sum:=by
  unfold sumD
  simp [h]
theorem sumD_other {f:Tx→Nat} {A:List (Int × Tx)} {todo:Int→Bool} {x:Int} (h:x ∉ A.map (·.1)):sumD f A (fun z=>todo z && !decide (z=x))=sumD f A todo:=by
  unfold sumD
  congr 1
  refine List.map_congr_left fun y hy=>?_
  have:y.1 ≠ x:=fun e=>h (List.mem_map.2 ⟨y,hy,e⟩)
  simp [this]
theorem sumD_step {f:Tx→Nat}:∀ {A:List (Int × Tx)} {todo:Int→Bool} {x:Int} {t:Tx},(A.map (·.1)).Nodup→look A x=some t→todo x=true→sumD f A (fun z=>todo z && !decide (z=x))=sumD f A todo+f t:=by
  intro A
  induction A with
  | nil=>intro todo x t _ h;simp [look] at h
  | cons y A ih =>
    intro todo x t hn hl ht
    rw [List.map_cons,List.nodup_cons] at hn
    rw [look_cons] at hl
    by_cases e:y.1=x
    · rw [if_pos e] at hl
      cases hl
      have hne:x ∉ A.map (·.1):=by rw [← e];exact hn.1
      have h1:=sumD_other (f:=f) (todo:=todo) hne
      unfold sumD at h1 ⊢
      rw [List.map_cons,List.sum_cons,h1,List.map_cons,List.sum_cons,e,if_pos ht]
      simp
      omega
    · rw [if_neg e] at hl
      have h1:=ih hn.2 hl ht
      unfold sumD at h1 ⊢
      rw [List.map_cons,List.sum_cons,h1,List.map_cons,List.sum_cons]
      have:(fun z=>todo z && !decide (z=x)) y.1=todo y.1:=by simp [e]
      simp only [this]
      omega
theorem sumD_le {f:Tx→Nat} {A:List (Int × Tx)} {todo:Int→Bool} {m:Nat} (h:∀ x∈A,f x.2≤m):sumD f A todo≤A.length * m:=by
  unfold sumD
  induction A with
  | nil=>simp
  | cons x A ih =>
    rw [List.map_cons,List.sum_cons,List.length_cons,Nat.succ_mul]
    have h1:=ih (fun y hy=>h y (by simp [hy]))
    have h2:=h x (by simp)
    split <;> omega
def needC (A:List (Int × Tx)):Nat:=(A.map fun x=>160 * x.2.us.length+16).sum
theorem MR.nodup {k:Int} {p:Par} {w:World} {s:ASt} (h:MR k p w s):(s.A.map (·.1)).Nodup:=by
  have:=h.map.nodup
  simpa [mapA,List.map_map,Function.comp_def] using this
theorem look_mapA (A:List (Int × Tx)) (k:Int):look (mapA A) k=(look A k).map fun t=>.pointer (some ⟨t.blk,0,none⟩):=look_mapVZ (fun t:Tx=>(Value.pointer (some ⟨t.blk,0,none⟩))) A k
set_option maxRecDepth 20000 in
set_option maxHeartbeats 1000000 in
theorem need_any (k:Int) (p:Par) (s:ASt) (w:World) (h:MR k p w s) (ht:s.t≤1000000) :
    Calls Tryz.prog 137 #[.pointer (some ⟨p.bg,0,none⟩)] w fun e w'=>e=.returned (.int .i64 (needC s.A:Nat))∧Below w.heap.size w w':=by
  have H:=Lib.hid h
  have HTT:=Lib.hid ht
  obtain ⟨-,-,-,-,-,-,k7,hlt⟩:=h.load
  clear h ht
  go_enter Tryz.func137,Tryz.ntmps137
  go_wp2_with (at_range;refine wpList_rangeZ rfl _ 61 rfl 234 Tryz.underlying61 Tryz.underlying3 rfl H.out.map ?_;intro w1 todo1 hit1 htd1 hb1 hs1)
  have HI1:=Lib.hid hit1
  have HD1:=Lib.hid htd1
  have HB1:=Lib.hid hb1
  clear hit1 htd1 hb1 hs1
  go_frame
  go_loopw [3] (fun v wr=>∃ (n:Nat) (todo:Int→Bool) (cnt:Nat),v=.int .i64 n∧Hid (n=sumD (fun t=>160 * t.us.length+16) s.A todo)∧Hid (ItZ Tryz.prog 3 wr p.ba w.heap.size (mapA s.A) todo cnt)∧Hid (Below w.heap.size w wr)) (fun _ wr=>wr.rangeLeft p.ba w.heap.size)
  case atStart=>exact ⟨0,todo1,_,rfl,Lib.hid (sumD_start (fun x hx=>HD1.out x (by simpa [mapA,List.map_map,Function.comp_def] using hx))).symm,HI1,HB1⟩
  case round =>
    obtain ⟨n,todo,cnt,rfl,HN,HI,HB⟩:=hrel
    have hn1:n≤16 * 160000016:=by
      rw [HN.out]
      refine Nat.le_trans (sumD_le (m:=160000016) fun x hx=>?_) (Nat.mul_le_mul_right _ H.out.few)
      have:=H.out.ulen x hx
      have:=HTT.out
      omega
    go_wp2_with (at_next;refine wpList_nextZ rfl _ rfl Tryz.underlying3 rfl HI.out ?_ ?_)
    · intro hall
      have HALL:=Lib.hid hall
      clear hall
      go_wp2
      go_ret
      exact ⟨by rw [HN.out,sumD_end HALL.out];rfl,HB.out⟩
    · intro x v w2 cnt2 hlook htodo hit2 hcnt hu2 hs2 hen
      rw [look_mapA] at hlook
      obtain ⟨t,hlt,rfl⟩:=Option.map_eq_some_iff.1 hlook
      obtain ⟨blk,row,us⟩:=t
      have hm:=look_mem hlt
      obtain ⟨h1,h2⟩:=H.out.txs _ hm
      have hul:=H.out.ulen _ hm
      obtain ⟨L,hL⟩:∃ L,L=us.length:=⟨_,rfl⟩
      rw [← hL] at h2 hul
      obtain ⟨q,c,rfl⟩:=own_zero h2
      have hBB:Below w.heap.size w w2:=⟨hu2.os.trans HB.out.os,hu2.tape.trans HB.out.tape,hu2.output.trans HB.out.output,by rw [hs2];exact HB.out.size,fun j hj=>(hu2.block j (Nat.lt_of_lt_of_le hj HB.out.size) (by omega)).trans (HB.out.block j hj)⟩
      have k0:w2.cell? ⟨blk,0,none⟩=some (.slice q L c):=keepC hBB (by simp [World.cell?,h1])
      have hLi:(L:Int)≤1000000:=by have:=HTT.out;omega
      have HS:=Lib.hid (sumD_step (f:=fun t=>160 * t.us.length+16) H.out.nodup hlt htodo)
      have HL:=Lib.hid hL
      have HB2:=Lib.hid hBB
      have HI2:=Lib.hid hit2
      have HC2:=Lib.hid hcnt
      clear hlook hlt hm h1 h2 hul hL hBB hit2 hcnt hu2 hs2 htodo
      go_wp2_with fail
      go_roundw
      case rel=>exact ⟨n+(160 * L+16),_,cnt2,by go_num,Lib.hid (by rw [HS.out,HN.out,HL.out]),HI2,HB2⟩
      case measure=>rw [HI2.out.left_eq,HI.out.left_eq];exact HC2.out
end Go.Proofs.YtheeomjfpnijbaaGreatDoor
namespace Go.Proofs.YtheeomjfpnijbaaGreatDoor
open Go.RowKit Go.Shelf
theorem zopn (w:World):(zeroValue 234).run Tryz.prog w=.ok (.pointer none) w:=by kernel_rfl
def lockedA (A:List (Int × Tx)) (tx n:Int):Bool:=A.any fun x=>decide (x.1 ≠ tx) && touchU x.2.us n
def readE (A:List (Int × Tx)) (pages:Nat) (tx n:Int):Nat:=if look A tx=none then 60 else if n < 0 ∨ (pages:Int)≤n then 63 else if lockedA A tx n then 61 else 0
def ReadQ (k:Int) (p:Par) (s:ASt) (tx n:Int) (w:World) (e:Ending) (w':World):Prop :=
  (∃ c:Nat,c=readE s.A p.pages tx n∧c ≠ 0∧e=.returned (.tuple #[.slice none 0 0,.int .i64 c])∧MR k p w' s∧Step p s.N w s.N w') ∨
  (readE s.A p.pages tx n=0∧∃ (q:Option Addr) (d:Nat) (s':ASt),e=.returned (.tuple #[.slice q 112 d,.int .i64 0])∧w'.ownsRow w.heap.size 5 1 (.slice q 112 d) 112 (B8s (s.C n).2)∧MR k p w' s'∧Like s s' 1∧Step p s.N w s'.N w')
theorem readE_ok {A:List (Int × Tx)} {pages:Nat} {tx n:Int} (h:readE A pages tx n=0):(∃ t,look A tx=some t)∧0≤n∧n < pages∧lockedA A tx n=false:=by
  unfold readE at h
  split at h
  · omega
  · split at h
    · omega
    · split at h
      · omega
      · rename_i h1 h2 h3
        refine ⟨by cases hl:look A tx <;> simp [hl] at h1 ⊢,by omega,by omega,by simpa using h3⟩
section
variable {k:Int} {p:Par} {w w':World} {s:ASt}
theorem ReadQ.bad (h:MR k p w s) {tx n:Int} {c:Nat} (hc:c=readE s.A p.pages tx n) (h0:c ≠ 0) (hb:Below w.heap.size w w'):ReadQ k p s tx n w (.returned (.tuple #[.slice none 0 0,.int .i64 c])) w' :=
  .inl ⟨c,hc,h0,rfl,h.below hb,Step.of_below hb⟩
end
set_option maxRecDepth 20000 in
set_option maxHeartbeats 2000000 in
theorem mread_any (k:Int) (p:Par) (s:ASt) (tx n:Int) (w:World) (h:MR k p w s) (ht:s.t≤900000) :
    Calls Tryz.prog 99 #[.pointer (some ⟨p.bg,0,none⟩),.int .i64 tx,.int .i64 n] w (ReadQ k p s tx n w):=by
  have H:=Lib.hid h
  have HTT:=Lib.hid ht
  obtain ⟨-,k2,k3,k4,-,-,k7,hlt⟩:=h.load
  clear h ht
  cases hl:look s.A tx with
  | none =>
    have HL:Hid (look (mapA s.A) tx=none):=Lib.hid (by rw [look_mapA,hl];rfl)
    have HE:Hid (60=readE s.A p.pages tx n):=Lib.hid (by unfold readE;rw [if_pos hl])
    clear hl
    go_enter Tryz.func99,Tryz.ntmps99
    go_wp2_with (at_lookup;refine wpList_look (KK:=intKeys) rfl _ _ 61 rfl 3 234 Tryz.underlying61 Tryz.underlying3 _ zopn tx rfl rfl H.out.map.is ?_;rw [HL.out,Option.getD_none])
    go_ret2
    exact ReadQ.bad H.out HE.out (by decide) (Below.refl _ _)
  | some tt =>
    have HL:Hid (look (mapA s.A) tx=some (.pointer (some ⟨tt.blk,0,none⟩))):=Lib.hid (by rw [look_mapA,hl];rfl)
    have HLL:=Lib.hid hl
    clear hl
    by_cases hn0:n < 0
    · have HE:Hid (63=readE s.A p.pages tx n):=Lib.hid (by unfold readE;rw [if_neg (by rw [HLL.out];simp),if_pos (.inl hn0)])
      go_enter Tryz.func99,Tryz.ntmps99
      go_wp2_with (at_lookup;refine wpList_look (KK:=intKeys) rfl _ _ 61 rfl 3 234 Tryz.underlying61 Tryz.underlying3 _ zopn tx rfl rfl H.out.map.is ?_;rw [HL.out,Option.getD_some])
      go_ret2
      exact ReadQ.bad H.out HE.out (by decide) (Below.refl _ _)
    · by_cases hn1:(p.pages:Int)≤n
      · have HE:Hid (63=readE s.A p.pages tx n):=Lib.hid (by unfold readE;rw [if_neg (by rw [HLL.out];simp),if_pos (.inr hn1)])
        go_enter Tryz.func99,Tryz.ntmps99
        go_wp2_with (at_lookup;refine wpList_look (KK:=intKeys) rfl _ _ 61 rfl 3 234 Tryz.underlying61 Tryz.underlying3 _ zopn tx rfl rfl H.out.map.is ?_;rw [HL.out,Option.getD_some])
        go_ret2
        exact ReadQ.bad H.out HE.out (by decide) (Below.refl _ _)
      · have HE:Hid (readE s.A p.pages tx n=if lockedA s.A tx n then 61 else 0):=Lib.hid (by unfold readE;rw [if_neg (by rw [HLL.out];simp),if_neg (by omega)])
        have hd1:decide (n < 0)=false:=decide_eq_false hn0
        have hd2:decide ((p.pages:Int)≤n)=false:=decide_eq_false hn1
        have HN:=Lib.hid (show 0≤n∧n < p.pages by omega)
        clear hn0 hn1
        go_enter Tryz.func99,Tryz.ntmps99
        go_wp2_with (first
          | (at_lookup;refine wpList_look (KK:=intKeys) rfl _ _ 61 rfl 3 234 Tryz.underlying61 Tryz.underlying3 _ zopn tx rfl rfl H.out.map.is ?_;rw [HL.out,Option.getD_some])
          | (at_range;refine wpList_rangeZ rfl _ 61 rfl 234 Tryz.underlying61 Tryz.underlying3 rfl H.out.map ?_;intro w1 todo1 hit1 htd1 hb1 hs1;have HI1:=Lib.hid hit1;have HD1:=Lib.hid htd1;have HB1:=Lib.hid hb1;clear hit1 htd1 hb1 hs1))
        go_frame
        go_loopw [8,9] (fun _ _ wr=>∃ (todo:Int→Bool) (cnt:Nat),Hid (∀ x∈s.A,todo x.1=false→(decide (x.1 ≠ tx) && touchU x.2.us n)=false)∧Hid (ItZ Tryz.prog 3 wr p.ba w.heap.size (mapA s.A) todo cnt)∧Hid (Below w.heap.size w wr)) (fun _ _ wr=>wr.rangeLeft p.ba w.heap.size)
        case atStart=>exact ⟨todo1,_,Lib.hid (fun x hx hf=>by rw [HD1.out x.1 (by simp only [mapA,List.map_map];exact List.mem_map.2 ⟨x,hx,rfl⟩)] at hf;cases hf),HI1,HB1⟩
        case round =>
          obtain ⟨todo,cnt,HD,HI,HB⟩:=hrel
          go_wp2_with (at_next;refine wpList_nextZ rfl _ rfl Tryz.underlying3 rfl HI.out ?_ ?_)
          · intro hall
            have HR:=Lib.hid (H.out.below HB.out)
            have HK:Hid (readE s.A p.pages tx n=0):=Lib.hid (by
              rw [HE.out,if_neg]
              intro hc
              obtain ⟨x,hx,hp⟩:=List.any_eq_true.1 hc
              rw [HD.out x hx (hall x.1)] at hp
              cases hp)
            obtain ⟨-,r2,-⟩:=HR.out.load
            clear hall
            go_wp2_with fail
            refine (get_any _ n HR.out.run HN.out.1 HN.out.2 (by have:=HR.out.cnt;have:=HTT.out;omega) (by have:=HR.out.cnt;have:=HTT.out;omega)).mono ?_
            rintro e w3 (⟨rfl,q1,q2,-⟩ | ⟨q,d,clock',c',M',D',L',rfl,ho,hp,hg⟩)
            · exact absurd (no_pins HR.out.run.pool.nodup HR.out.pins q1) q2
            · obtain ⟨s3,hm3,hl3,hs3⟩:=HR.out.got hp hg
              have HO:=Lib.hid ho
              have HM3:=Lib.hid hm3
              have HL3:=Lib.hid hl3
              have HS3:=Lib.hid hs3
              clear ho hp hg r2 hm3 hl3 hs3
              dsimp only
              go_wp2
              go_ret2
              exact .inr ⟨HK.out,q,d,s3,rfl,own_mono HO.out HB.out.size,HM3.out,HL3.out,(Step.of_below HB.out).trans HS3.out⟩
          · intro x v w2 cnt2 hlook htodo hit2 hcnt hu2 hs2 hen
            rw [look_mapA] at hlook
            obtain ⟨t,hlt,rfl⟩:=Option.map_eq_some_iff.1 hlook
            have hm:=look_mem hlt
            have hBB:Below w.heap.size w w2:=⟨hu2.os.trans HB.out.os,hu2.tape.trans HB.out.tape,hu2.output.trans HB.out.output,by rw [hs2];exact HB.out.size,fun j hj=>(hu2.block j (Nat.lt_of_lt_of_le hj HB.out.size) (by omega)).trans (HB.out.block j hj)⟩
            have HM:=Lib.hid hm
            have HB2:=Lib.hid hBB
            have HI2:=Lib.hid hit2
            have HC2:=Lib.hid hcnt
            have HTX:=Lib.hid ((H.out.below hBB).txs _ hm)
            have HUL:=Lib.hid (H.out.ulen _ hm)
            have HNEXT:Hid (∀ y∈s.A,(todo y.1 && !decide (y.1=x))=false→y=(x,t) ∨ (decide (y.1 ≠ tx) && touchU y.2.us n)=false):=Lib.hid (fun y hy hf=>by
              by_cases e:y.1=x
              · left
                have h1:=look_of_mem H.out.nodup (show (y.1,y.2)∈s.A from hy)
                rw [e,hlt] at h1
                cases h1
                rw [← e]
              · exact .inr (HD.out y hy (by simpa [e] using hf)))
            clear hlook hlt hm hBB hit2 hcnt hu2 hs2 htodo
            by_cases hx:x=tx
            · have hb1:(x != tx)=false:=by simp [hx]
              have HX:=Lib.hid hx
              clear hx
              go_wp2_with fail
              go_roundw
              case rel=>exact ⟨_,cnt2,Lib.hid (fun y hy hf=>by
                rcases HNEXT.out y hy hf with rfl | h1
                · simp [HX.out]
                · exact h1),HI2,HB2⟩
              case measure=>rw [HI2.out.left_eq,HI.out.left_eq];exact HC2.out
            · have hb1:(x != tx)=true:=by simp [hx]
              have HX:=Lib.hid hx
              clear hx
              go_wp2_with fail
              refine (touched_any t s.N.B n _ HTX.out (by have:=HUL.out;have:=HTT.out;omega)).mono ?_
              rintro e w3 ⟨rfl,hb3⟩
              have HB3:=Lib.hid (chainC HB2.out hb3)
              have HI3:=Lib.hid (HI2.out.below hb3)
              clear hb3
              obtain ⟨b,hb⟩:∃ b,b=touchU t.us n:=⟨_,rfl⟩
              rw [← hb]
              have HBT:=Lib.hid hb
              clear hb
              cases b with
              | true =>
                have HK:Hid (61=readE s.A p.pages tx n):=Lib.hid (by
                  rw [HE.out,if_pos]
                  exact List.any_eq_true.2 ⟨_,HM.out,by simp [HX.out,← HBT.out]⟩)
                go_wp2_with fail
                go_ret2
                exact ReadQ.bad H.out HK.out (by decide) HB3.out
              | false =>
                go_wp2_with fail
                go_roundw
                case rel=>exact ⟨_,cnt2,Lib.hid (fun y hy hf=>by
                  rcases HNEXT.out y hy hf with rfl | h1
                  · simp [← HBT.out]
                  · exact h1),HI3,HB3⟩
                case measure=>rw [HI3.out.left_eq,HI.out.left_eq];exact HC2.out
end Go.Proofs.YtheeomjfpnijbaaGreatDoor
