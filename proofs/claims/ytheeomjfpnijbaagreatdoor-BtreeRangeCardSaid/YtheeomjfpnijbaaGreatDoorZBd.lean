/- Lemmas: Bt11, Bt12, Bt13, Bt14. -/
import Derived.Test.YtheeomjfpnijbaaGreatDoorZBc
set_option linter.unusedVariables false
section
namespace Go.Proofs.YtheeomjfpnijbaaGreatDoor
open Go.RowKit Go.Shelf
section
attribute [local go_sem] Oper.semAt_some
set_option maxHeartbeats 2000000 in
set_option maxRecDepth 20000 in
theorem field2_any (b o n c:Nat) (xs ys:List UInt8) (w:World) (hn:(UInt8.ofNat xs.length :: (xs++ys)).length=n) (hx:xs.length≤12) (hc:n≤c) (hm:c≤maxLen) (hr:Rd w (some ⟨b,o,none⟩) (UInt8.ofNat xs.length :: (xs++ys))) :
    Calls Tryz.prog 192 #[.slice (some ⟨b,o,none⟩) n c] w fun e w'=>(∃ q d,e=.returned (.tuple #[.string ⟨xs.toArray⟩,.slice q ys.length d,.bool true])∧ys.length≤d∧d≤maxLen∧Rd w q ys∧(ys=[] ∨ ∃ o2,q=some ⟨b,o2,none⟩))∧Below w.heap.size w w':=by
  obtain ⟨b',o',e',hcl⟩:=hr.at (by simp)
  cases e'
  have c0:=hcl 0 (by simp)
  simp only [List.getElem_cons_zero,B8,Nat.add_zero] at c0
  have h0:0 < n:=by simp at hn;omega
  have h1:((n:Int) == 0)=false:=by rw [beq_eq_false_iff_ne];omega
  have hcn:(1:Int)≤(c:Int):=by omega
  have hnn:(1:Int)≤(n:Int):=by omega
  have hl:((UInt8.ofNat xs.length).toNat:Int)=(xs.length:Int):=by simp;omega
  rw [hl] at c0
  obtain ⟨L,hL⟩:∃ L,L=xs.length:=⟨_,rfl⟩
  have HR:=Lib.hid hr
  have HC:=Lib.hid hc
  have HN:=Lib.hid hn
  have HX:=Lib.hid hx
  have HL:=Lib.hid hL
  have HM:=Lib.hid hm
  have HLW:Hid (IntKind.i64.wrap (L:Int)=(L:Int)):=Lib.hid (by rw [IntKind.wrap_i64];omega)
  rw [← hL] at c0
  clear hcl hr hc hl hn hx hL hm
  go_enter Tryz.func192,Tryz.ntmps192
  go_wp2
  have fin:∀ (W:World) (q r:Option Addr) (c' d':Nat),Hid (Below w.heap.size w W)→Hid ((q=some ⟨b,o+1,none⟩ ∨ L=0)∧(n - 1=L ∨ r=some ⟨b,o+1+L,none⟩))→Rd W q xs∧Rd w r ys∧n - 1 - L=ys.length:=fun W q r c' d' HB HQ=>by
    have hn:=HN.out
    have hl:=HL.out
    simp only [List.length_cons,List.length_append] at hn
    refine ⟨?_,?_,by omega⟩
    · rcases HQ.out.1 with e | e
      · rw [e];exact (by simpa using HR.out.sub 1 xs.length:Rd w (some ⟨b,o+1,none⟩) xs).below HB.out
      · have:xs=[]:=List.eq_nil_of_length_eq_zero (by omega)
        rw [this];exact Rd.nil _ _
    · rcases HQ.out.2 with e | e
      · have:ys=[]:=List.eq_nil_of_length_eq_zero (by omega)
        rw [this];exact Rd.nil _ _
      · rw [e,hl]
        have:=(by simpa using HR.out.sub (xs.length+1) ys.length:Rd w (some ⟨b,o+(xs.length+1),none⟩) ys)
        rwa [show o+(xs.length+1)=o+1+xs.length from by omega] at this
  have hle:decide ((L:Int)≤12)=true:=decide_eq_true (by have:=HX.out;have:=HL.out;omega)
  by_cases hc1:c=1
  · subst hc1
    obtain rfl:n=1:=by have:=HC.out;omega
    obtain rfl:L=0:=by have:=HN.out;simp at this;have h2:=HL.out;rw [h2,this.1];rfl
    have HW0:Hid (IntKind.i64.wrap 0=((0:Nat):Int)):=Lib.hid (by decide)
    go_region_law (first
      | (go_simp;go_at_call 193;rw [HW0.out];refine (cut_any b o 0 0 0 _ (Nat.le_refl _) (Nat.le_refl _)).mono ?_;rintro e w1 ⟨⟨q,r,c',d',rfl,hq,hr,hc',hd',hdc⟩,hb⟩;have HB:=Lib.hid (below_of_drewN (j:=1) (by exact hb));have HQ:Hid ((q=some ⟨b,o+1,none⟩ ∨ 0=0)∧(1 - 1=0 ∨ r=some ⟨b,o+1+0,none⟩)):=(Lib.hid ⟨.inr rfl,.inl rfl⟩);have HD:=Lib.hid (And.intro hc' (And.intro hd' hdc));clear hb hq hr hc' hd' hdc))
    obtain ⟨f1,f2,f3⟩:=fin _ q r c' d' HB HQ
    have hcv:=f1.convert HL.out.symm c' _ _ _ Tryz.underlying76 Tryz.underlying5 Tryz.underlying9
    have F2:=Lib.hid f2
    have F3:=Lib.hid f3
    clear f1 f2 f3 fin
    go_wp2
    go_ret3
    refine ⟨⟨r,d',?_,?_,?_,F2.out,?_⟩,HB.out⟩
    · rw [← F3.out];rfl
    · have:=HD.out;have:=F3.out;omega
    · have:=HD.out;have:=HM.out;omega
    · rcases HQ.out.2 with e | e
      · exact .inl (List.eq_nil_of_length_eq_zero (by have:=F3.out;omega))
      · exact .inr ⟨_,e⟩
  · have HL1:Hid (L≤n - 1∧n - 1≤c - 1):=Lib.hid (by have:=HC.out;have:=HL.out;have:=HN.out;simp at this;omega)
    go_region_law (first
      | (go_simp;go_at_call 193;rw [HLW.out];refine (cut_any b (o+1) L (n - 1) (c - 1) _ HL1.out.1 HL1.out.2).mono ?_;rintro e w1 ⟨⟨q,r,c',d',rfl,hq,hr,hc',hd',hdc⟩,hb⟩;have HB:=Lib.hid (below_of_drewN (j:=1) (by exact hb));have HQ:Hid ((q=some ⟨b,o+1,none⟩ ∨ L=0)∧(n - 1=L ∨ r=some ⟨b,o+1+L,none⟩)):=(Lib.hid ⟨.inl hq,hr⟩);have HD:=Lib.hid (And.intro hc' (And.intro hd' hdc));clear hb hq hr hc' hd' hdc))
    obtain ⟨f1,f2,f3⟩:=fin _ q r c' d' HB HQ
    have hcv:=f1.convert HL.out.symm c' _ _ _ Tryz.underlying76 Tryz.underlying5 Tryz.underlying9
    have F2:=Lib.hid f2
    have F3:=Lib.hid f3
    clear f1 f2 f3 fin
    go_wp2
    go_ret3
    refine ⟨⟨r,d',?_,?_,?_,F2.out,?_⟩,HB.out⟩
    · rw [← F3.out];rfl
    · have:=HD.out;have:=F3.out;omega
    · have:=HD.out;have:=HM.out;omega
    · rcases HQ.out.2 with e | e
      · exact .inl (List.eq_nil_of_length_eq_zero (by have:=F3.out;omega))
      · exact .inr ⟨_,e⟩
end
theorem infoCell:(Tryz.prog.info? 129).map (fun i=>(i.zero,i.size,i.bytes))=some (some (.agg #[.string ⟨#[]⟩,.string ⟨#[]⟩,.int .i64 0]),3,40):=by kernel_rfl
theorem cell_news (W:World) (c:Cel) (j:Nat) (u:Value) (h:(celV c)[j]?=some u) :
    (W.alloc (.cells (celV c).toArray 129)).cell? ((⟨W.heap.size,0,none⟩:Addr).add j)=some u:=by
  have e:((⟨W.heap.size,0,none⟩:Addr).add j)=⟨W.heap.size,j,none⟩:=by simp [Addr.add];omega
  rw [e]
  exact cellNew (by simpa using h)
theorem celV_one (c:Cel):∀ v∈celV c,v.oneCell'=true:=by intro v hv;simp [celV] at hv;rcases hv with rfl | rfl | rfl <;> rfl
theorem flatV_one (l:List Cel):∀ v∈l.flatMap celV,v.oneCell'=true:=by
  intro v hv
  obtain ⟨c,-,hc⟩:=List.mem_flatMap.1 hv
  exact celV_one c v hc
theorem load_leaf {d:Nd} (h:d.leaf=true):pad d.load=1 :: UInt8.ofNat d.cells.length :: (d.cells.flatMap (celB true)++List.replicate (112 - d.load.length) 0):=by
  unfold pad
  congr 1
  unfold Nd.load
  rw [h]
  simp
theorem cells_few {l:List Cel} {lf:Bool} (h:∀ c∈l,CelOk lf c):2 * l.length≤(l.flatMap (celB lf)).length:=by
  induction l with
  | nil=>simp
  | cons c l ih =>
    have h1:=ih (fun x hx=>h x (by simp [hx]))
    have h2:=(h c (by simp)).key
    rw [List.flatMap_cons,List.length_append,List.length_cons]
    have:2≤(celB lf c).length:=by unfold celB;cases lf <;> simp [le2];omega
    omega
theorem Rd.back {a b:World} {g o:Nat} {xs:List UInt8} (h:Rd b (some ⟨g,o,none⟩) xs) (hk:b.heap[g]?=a.heap[g]?):Rd a (some ⟨g,o,none⟩) xs:=fun hne=>by
  obtain ⟨b',o',e,hc⟩:=h hne
  cases e
  exact ⟨g,o,rfl,fun j v hj=>(World.cell?_of_block hk.symm).trans (hc j v hj)⟩
theorem Rd.backs {a b:World} {g N:Nat} {q:Option Addr} {xs:List UInt8} (h:Rd b q xs) (hq:xs=[] ∨ ∃ o,q=some ⟨g,o,none⟩) (hb:Below N a b) (hg:g < N):Rd a q xs:=by
  rcases hq with rfl | ⟨o,rfl⟩
  · exact Rd.nil _ _
  · exact h.back (hb.block g hg)
set_option maxRecDepth 20000 in
set_option maxHeartbeats 8000000 in
theorem parse_leaf {d:Nd} (g o c:Nat) (w:World) (hd:NdOk d) (hlf:d.leaf=true) (hl:d.load.length≤112) (hc:112≤c∧c≤maxLen) (hr:Rd w (some ⟨g,o,none⟩) (pad d.load)) :
    Calls Tryz.prog 128 #[.int .i64 d.page,.slice (some ⟨g,o,none⟩) 112 c] w fun e w'=>∃ q cap,e=.returned (.tuple #[ndV d q cap,.bool true]) ∧
      w'.ownsRow w.heap.size 129 3 (.slice q d.cells.length cap) d.cells.length (d.cells.flatMap celV)∧Below w.heap.size w w':=by
  have HD:=Lib.hid hd
  have HLF:=Lib.hid hlf
  have HL:=Lib.hid hl
  have HC:=Lib.hid hc
  obtain ⟨L,hLL⟩:∃ L,L=d.cells.length:=⟨_,rfl⟩
  have hL50:L≤55:=by
    have h1:=cells_few hd.cells
    rw [hlf] at h1
    have h2:d.load.length=2+(d.cells.flatMap (celB true)).length:=by unfold Nd.load;rw [hlf];simp;omega
    omega
  obtain ⟨Z,hZ⟩:∃ Z,Z=List.replicate (112 - d.load.length) (0:UInt8):=⟨_,rfl⟩
  rw [load_leaf hlf,← hZ,← hLL] at hr
  have hlen:(d.cells.flatMap (celB true)).length+Z.length=110:=by
    have h2:d.load.length=2+(d.cells.flatMap (celB true)).length:=by unfold Nd.load;rw [hlf];simp;omega
    rw [hZ,List.length_replicate];omega
  obtain ⟨b',o',e',hcl⟩:=hr.at (by simp)
  cases e'
  have c0:=hcl 0 (by simp)
  have c1:=hcl 1 (by simp)
  simp only [List.getElem_cons_zero,List.getElem_cons_succ,B8,Nat.add_zero] at c0 c1
  have e1:(UInt8.ofNat L).toNat=L:=by simp;omega
  rw [e1] at c1
  rw [show ((1:UInt8).toNat:Int)=1 from rfl] at c0
  clear e1
  have HR:Hid (Rd w (some ⟨g,o+2,none⟩) (d.cells.flatMap (celB true)++Z)):=Lib.hid (hr.drop 2)
  have HLEN:=Lib.hid hlen
  have HZ:=Lib.hid hZ
  have HLL:=Lib.hid hLL
  have HL5:=Lib.hid hL50
  have hcap:((112:Nat):Int)≤(c:Int):=by omega
  have hlt:=cell_lt c0
  unfold ndV
  rw [← hLL]
  clear hd hlf hl hc hr hcl hlen hZ hLL hL50
  go_enter Tryz.func128,Tryz.ntmps128
  go_upto_region 10 with fail
  obtain ⟨N,hN⟩:∃ N,N=w.heap.size:=⟨_,rfl⟩
  obtain ⟨W1,hW1⟩:∃ W1,W1=(w.alloc (.cells #[.int .i64 0,.bool false,.int .i64 0,.slice none 0 0] 125)).alloc (.cells #[.int .i64 d.page,.bool true,.int .i64 0,.slice none 0 0] 125):=⟨_,rfl⟩
  have n0:W1.heap[N]?=some (.cells #[.int .i64 0,.bool false,.int .i64 0,.slice none 0 0] 125 (0,0)):=by rw [hW1,hN];exact alloc_at (heap_alloc_new w _)
  have n1:W1.heap[N+1]?=some (.cells #[.int .i64 d.page,.bool true,.int .i64 0,.slice none 0 0] 125 (0,0)):=by
    rw [hW1,hN]
    have:=heap_alloc_new (w.alloc (.cells #[.int .i64 0,.bool false,.int .i64 0,.slice none 0 0] 125)) (.cells #[.int .i64 d.page,.bool true,.int .i64 0,.slice none 0 0] 125)
    rwa [World.size_alloc] at this
  have HB1:Hid (Below N w W1):=Lib.hid (by rw [hW1,hN];exact ((Below.refl _ w).alloc (Nat.le_refl _) _).alloc (by simp) _)
  have HS1:Hid (W1.heap.size=N+2):=Lib.hid (by rw [hW1,hN];simp)
  rw [← hW1,← hN]
  have HNW:=Lib.hid hN
  have N0:=Lib.hid n0
  have N1:=Lib.hid n1
  have d1:=keepC (HB1.out.mono (show w.heap.size≤N by have:=HNW.out;omega) |> fun h=>(by have:=HNW.out;subst this;exact h)) c1
  have HGL:Hid (g < N):=Lib.hid (by rw [HNW.out];exact hlt)
  have hlt1:=cell_lt d1
  clear c0 c1 hlt n0 n1 hW1 hN
  go_wp2
  go_loopw [7,8,36] (fun r v k wr=>∃ (i n c':Nat) (q:Option Addr) (ls:Key),i≤L∧k=.int .u8 i∧v=.string (bstr ls)∧r=.slice q n c' ∧
      Hid (n=((d.cells.drop i).flatMap (celB true)++Z).length∧n≤c'∧c'≤maxLen∧Rd w q ((d.cells.drop i).flatMap (celB true)++Z)∧((d.cells.drop i).flatMap (celB true)++Z=[] ∨ ∃ o2,q=some ⟨g,o2,none⟩))∧Hid (∀ x∈d.cells.drop i,ls < x.key) ∧
      Hid (∃ q2 c2,wr.heap[N+1]?=some (.cells #[.int .i64 d.page,.bool true,.int .i64 0,.slice q2 i c2] 125 (0,0))∧wr.ownsRow (N+2) 129 3 (.slice q2 i c2) i ((d.cells.take i).flatMap celV)) ∧
      Hid (wr.heap[N]?=some (.cells #[.int .i64 0,.bool false,.int .i64 0,.slice none 0 0] 125 (0,0)))∧Hid (Below N w wr)) (fun _ _ k _=>L - (intOf k).toNat)
  case atStart =>
    refine ⟨0,110,c - 2,_,[],Nat.zero_le _,rfl,rfl,rfl,Lib.hid ⟨?_,by have:=HC.out;omega,by have:=HC.out;omega,HR.out,.inr ⟨_,rfl⟩⟩,Lib.hid (fun x hx=>?_),Lib.hid ⟨none,0,N1.out,⟨rfl,.inl ⟨rfl,rfl⟩⟩⟩,N0,HB1⟩
    · rw [List.length_append];exact HLEN.out.symm
    · have:=(HD.out.cells x (by simpa using hx)).key
      exact k_nil (by intro e;rw [e] at this;simp at this)
  case round =>
    obtain ⟨i,n,c',q,ls,hiL,rfl,rfl,rfl,HRR,HLS,HX,HNN,HB⟩:=hrel
    by_cases hlt:i < L
    · have hid:i < d.cells.length:=by have:=HLL.out;omega
      obtain ⟨cl,hcl⟩:∃ x,x=d.cells[i]:=⟨_,rfl⟩
      have hdrop:d.cells.drop i=cl :: d.cells.drop (i+1):=by rw [hcl];exact List.drop_eq_getElem_cons hid
      obtain ⟨rest,hrest⟩:∃ r,r=(d.cells.drop (i+1)).flatMap (celB true)++Z:=⟨_,rfl⟩
      have HRE:=Lib.hid hrest
      have HOK:Hid (CelOk true cl):=Lib.hid (by rw [← HLF.out,hcl];exact HD.out.cells _ (List.getElem_mem hid))
      have hfl:(d.cells.drop i).flatMap (celB true)++Z=UInt8.ofNat cl.key.length :: (cl.key++(UInt8.ofNat cl.val.length :: (cl.val++rest))):=by
        rw [hdrop,hrest,List.flatMap_cons]
        simp [celB]
      have HDR:=Lib.hid hdrop
      have HCI:Hid (d.cells[i]?=some cl):=Lib.hid (by rw [hcl];exact List.getElem?_eq_getElem hid)
      obtain ⟨hn1,hn2,hn3,hn4,hn5⟩:=HRR.out
      rw [hfl] at hn1 hn4 hn5
      obtain ⟨o2,rfl⟩:=hn5.resolve_left (by simp)
      have HRR':=Lib.hid (And.intro hn1.symm (And.intro hn2 (And.intro hn3 hn4)))
      have HLK:Hid (Op.bytesLess (bstr cl.key).toList (bstr ls).toList=false∧((bstr cl.key).toList == (bstr ls).toList)=false):=Lib.hid (by
        have h1:ls < cl.key:=HLS.out cl (by rw [hdrop];simp)
        refine ⟨by rw [less_bstr];exact decide_eq_false (k_nlt (k_of_lt h1)),?_⟩
        rw [bstr_list,bstr_list]
        simp only [beq_eq_false_iff_ne]
        intro e
        rw [e] at h1
        exact k_irrefl _ h1)
      have hd:decide ((i:Int) < (L:Int))=true:=decide_eq_true (by omega)
      clear hcl hdrop hrest hfl hn1 hn2 hn3 hn4 hn5 HRR
      go_upto_region 14 with fail
      obtain ⟨G,hG⟩:∃ G,G=wr.heap.size:=⟨_,rfl⟩
      obtain ⟨W2,hW2⟩:∃ W2,W2=wr.alloc (.cells #[.string ⟨#[]⟩,.string ⟨#[]⟩,.int .i64 0] 129):=⟨_,rfl⟩
      have g2:W2.heap[G]?=some (.cells #[.string ⟨#[]⟩,.string ⟨#[]⟩,.int .i64 0] 129 (0,0)):=by rw [hW2,hG];exact heap_alloc_new wr _
      have HB2:Hid (Below wr.heap.size wr W2):=Lib.hid (by rw [hW2];exact (Below.refl _ wr).alloc (Nat.le_refl _) _)
      rw [← hW2,← hG]
      have HG:=Lib.hid hG
      have G2:=Lib.hid g2
      clear hW2 hG g2
      go_wp2_with fail
      have HBW2:Hid (Below N w W2):=Lib.hid (HB.out.trans (HB2.out.mono (by have:=HB.out.size;have:=HNW.out;omega)))
      refine (field2_any g o2 n c' cl.key _ W2 HRR'.out.1 HOK.out.key.2 HRR'.out.2.1 HRR'.out.2.2.1 (HRR'.out.2.2.2.below (by rw [← HNW.out];exact HBW2.out))).mono ?_
      rintro e w3 ⟨⟨q3,d3,rfl,hd3,hm3,hr3,hq3⟩,hb3⟩
      have hr3':=hr3.backs hq3 HBW2.out HGL.out
      obtain ⟨o3,rfl⟩:=hq3.resolve_left (by simp)
      rw [show (⟨cl.key.toArray⟩:ByteArray)=bstr cl.key from rfl]
      have HB3:=Lib.hid hb3
      have HR3:=Lib.hid (And.intro hd3 (And.intro hm3 hr3'))
      have G3:=Lib.hid (met_old G2.out hb3)
      have k0:w3.cell? ⟨G,0,none⟩=some (.string ⟨#[]⟩):=by simp [World.cell?,G3.out]
      have f0:w3.frozen? ⟨G,0,none⟩=false:=frozenC G3.out
      have hG3:=cell_lt k0
      clear hb3 hd3 hm3 hr3 hr3'
      obtain ⟨m3,hm3⟩:∃ m,m=(UInt8.ofNat cl.val.length :: (cl.val++rest)).length:=⟨_,rfl⟩
      rw [← hm3]
      have HM3:=Lib.hid hm3
      clear hm3
      go_upto_region 15 with fail
      obtain ⟨W4,hW4⟩:∃ W,W=w3.setCell ⟨G,0,none⟩ (.string (bstr cl.key)):=⟨_,rfl⟩
      rw [← hW4]
      have g4:W4.heap[G]?=some (.cells #[.string (bstr cl.key),.string ⟨#[]⟩,.int .i64 0] 129 (0,0)):=by rw [hW4];exact (heap_setCell_same w3 G 0 _ _ _ G3.out).trans rfl
      have HR4:Hid (m3≤d3∧d3≤maxLen):=Lib.hid ⟨by rw [HM3.out];exact HR3.out.1,HR3.out.2.1⟩
      have HB4:Hid (Below wr.heap.size wr W4):=Lib.hid (by rw [hW4];exact (chainC HB2.out HB3.out).setCell (p:=⟨G,0,none⟩) (by rw [HG.out];exact Nat.le_refl _) _)
      have G4:=Lib.hid g4
      have k0:W4.cell? ⟨G,0,none⟩=some (.string (bstr cl.key)):=by simp [World.cell?,g4]
      have hG4:=cell_lt k0
      have n41:W4.heap[N+1]?=wr.heap[N+1]?:=HB4.out.block _ (by obtain ⟨q2,c2,h1,-⟩:=HX.out;exact (Array.getElem?_eq_some_iff.1 h1).1)
      have k1:W4.cell? ⟨N+1,1,none⟩=some (.bool true):=by obtain ⟨q2,c2,h1,-⟩:=HX.out;simp [World.cell?,n41,h1]
      have hN4:=cell_lt k1
      obtain ⟨l1,l2⟩:=HLK.out
      clear hW4 g4 n41
      go_wp2_with fail
      have HBW4:Hid (Below N w W4):=Lib.hid (HB.out.trans (HB4.out.mono (by have:=HB.out.size;have:=HNW.out;omega)))
      refine (field2_any g o3 m3 d3 cl.val rest W4 HM3.out.symm HOK.out.val HR4.out.1 HR4.out.2 (HR3.out.2.2.below (by rw [← HNW.out];exact HBW4.out))).mono ?_
      rintro e w5 ⟨⟨q5,d5,rfl,hd5,hm5,hr5,hq5⟩,hb5⟩
      have hr5':=hr5.backs hq5 HBW4.out HGL.out
      rw [show (⟨cl.val.toArray⟩:ByteArray)=bstr cl.val from rfl]
      have HB5:=Lib.hid (chainC HB4.out hb5)
      have HR5:=Lib.hid (And.intro hd5 (And.intro hm5 (And.intro hr5' hq5)))
      have G5:=Lib.hid (met_old G4.out hb5)
      have k1:w5.cell? ⟨G,1,none⟩=some (.string ⟨#[]⟩):=by simp [World.cell?,G5.out]
      have f1:w5.frozen? ⟨G,1,none⟩=false:=frozenC G5.out
      have hG5:=cell_lt k1
      clear hb5 hd5 hm5 hr5 hr5' hq5 k0 l1 l2 hG4 hN4
      obtain ⟨m5,hm5⟩:∃ m,m=rest.length:=⟨_,rfl⟩
      rw [← hm5]
      have HM5:=Lib.hid hm5
      clear hm5
      go_upto_region 23 with fail
      obtain ⟨W6,hW6⟩:∃ W,W=w5.setCell ⟨G,1,none⟩ (.string (bstr cl.val)):=⟨_,rfl⟩
      rw [← hW6]
      have g6:W6.heap[G]?=some (.cells #[.string (bstr cl.key),.string (bstr cl.val),.int .i64 0] 129 (0,0)):=by rw [hW6];exact (heap_setCell_same w5 G 1 _ _ _ G5.out).trans rfl
      have HB6:Hid (Below wr.heap.size wr W6):=Lib.hid (by rw [hW6];exact HB5.out.setCell (p:=⟨G,1,none⟩) (by rw [HG.out];exact Nat.le_refl _) _)
      have G6:=Lib.hid g6
      have k0:W6.cell? ⟨G,0,none⟩=some (.string (bstr cl.key)):=by simp [World.cell?,g6]
      have k1:W6.cell? ⟨G,1,none⟩=some (.string (bstr cl.val)):=by simp [World.cell?,g6]
      have k2:W6.cell? ⟨G,2,none⟩=some (.int .i64 0):=by simp [World.cell?,g6]
      have hG6:=cell_lt k0
      clear hW6 g6 f1 hG5
      obtain ⟨q2,c2,hx2,ho2⟩:=HX.out
      have x6:W6.heap[N+1]?=some (.cells #[.int .i64 d.page,.bool true,.int .i64 0,.slice q2 i c2] 125 (0,0)):=met_old hx2 HB6.out
      have HO6:=Lib.hid (own_later ho2 HB6.out)
      have X6:=Lib.hid x6
      have r3:W6.cell? ⟨N+1,3,none⟩=some (.slice q2 i c2):=by simp [World.cell?,x6]
      have hN6:=cell_lt r3
      obtain ⟨i0,hi0,hz0,hz1,hz2⟩:=info_parts infoCell
      have HCV:Hid (celV cl=[.string (bstr cl.key),.string (bstr cl.val),.int .i64 0]):=Lib.hid (by unfold celV;rw [HOK.out.isLeaf rfl];rfl)
      have HNW6:Hid (∀ (j:Nat) (u:Value),[Value.string (bstr cl.key),.string (bstr cl.val),.int .i64 0][j]?=some u→(W6.alloc (.cells #[.string (bstr cl.key),.string (bstr cl.val),.int .i64 0] 129)).cell? ((⟨W6.heap.size,0,none⟩:Addr).add j)=some u):=Lib.hid (by
        have:=cell_news W6 cl
        rw [HCV.out] at this
        exact this)
      have HOA:=Lib.hid (HO6.out.alloc (.cells #[.string (bstr cl.key),.string (bstr cl.val),.int .i64 0] 129))
      have HNle:Hid (N+2≤W6.heap.size):=Lib.hid (by have h1:=HB6.out.size;have h2:=HB.out.size;have:=HS1.out;have h3:=(Array.getElem?_eq_some_iff.1 HNN.out).1;have h4:=(Array.getElem?_eq_some_iff.1 hx2).1;omega)
      clear hx2 ho2 x6
      go_wp2_with (at_builtin;go_loud (refine wpList_append_lies _ rfl (.tmp 79) (.tmp 81) 123 rfl (N+2) 129 i0 (.agg #[.string ⟨#[]⟩,.string ⟨#[]⟩,.int .i64 0]) 3 40 Tryz.underlying123 hi0 hz0 hz1 hz2 rfl (by decide) (.slice q2 i c2) i _ rfl HOA.out ⟨W6.heap.size,0,none⟩ 1 1 [.string (bstr cl.key),.string (bstr cl.val),.int .i64 0] (by rfl) rfl HNW6.out (by simp [Value.oneCell']) (by omega) (by simp only [maxLen];have:=HL5.out;omega) (by have:=HL5.out;omega) (by have:=HNle.out;simp;omega) (W6.heap.size+1) (by simp) ?_))
      intro gg cap w7 hown7 hgrow7 hat7 hlt7
      have x7:w7.heap[N+1]?=some (.cells #[.int .i64 d.page,.bool true,.int .i64 0,.slice q2 i c2] 125 (0,0)):=grown_at (alloc_at X6.out) HOA.out hgrow7 (by decide)
      have n7:w7.heap[N]?=some (.cells #[.int .i64 0,.bool false,.int .i64 0,.slice none 0 0] 125 (0,0)):=grown_at (alloc_at (met_old HNN.out HB6.out)) HOA.out hgrow7 (by decide)
      have HB7:Hid (Below N w w7):=Lib.hid ((((HB.out.trans (HB6.out.mono (by have:=HB.out.size;have:=HNW.out;omega))).alloc (by have:=HNle.out;omega) _)).grown hgrow7 (by have:=HNle.out;simp;omega) (fun k hk=>by have:=own_ge HOA.out hk.symm;omega))
      have r7:w7.cell? ⟨N+1,3,none⟩=some (.slice q2 i c2):=by simp [World.cell?,x7]
      have f7:w7.frozen? ⟨N+1,3,none⟩=false:=frozenC x7
      have hN7:=cell_lt r7
      have HX7:=Lib.hid x7
      have HN7:=Lib.hid n7
      have HO7:=Lib.hid hown7
      have HU8:Hid (IntKind.u8.wrap ((i:Int)+1)=((i+1:Nat):Int)):=Lib.hid (by rw [IntWalk.u8_in _ (by have:=HL5.out;omega)];omega)
      have HU8':Hid (((i:Int)+1) % 256=((i+1:Nat):Int)):=Lib.hid (by have:=HL5.out;omega)
      clear x7 n7 hown7 hgrow7 hat7 hlt7 k0 k1 k2 hG6 r3 hN6
      go_wp2
      (first | rw [HU8.out] | rw [HU8'.out] | skip)
      go_roundw
      case rel =>
        refine ⟨i+1,m5,d5,q5,cl.key,hlt,rfl,rfl,rfl,Lib.hid ⟨by rw [HM5.out,HRE.out],by rw [HM5.out];exact HR5.out.1,HR5.out.2.1,by rw [← HRE.out];exact HR5.out.2.2⟩,Lib.hid ?_,Lib.hid ⟨some ⟨gg,0,none⟩,cap,(heap_setCell_same w7 (N+1) 3 _ _ _ HX7.out).trans rfl,?_⟩,Lib.hid ?_,Lib.hid (HB7.out.setCell (p:=⟨N+1,3,none⟩) (by show N≤N+1;omega) _)⟩
        · have h1:=HD.out.sorted
          rw [List.pairwise_map] at h1
          have h2:=h1.sublist (List.drop_sublist i d.cells)
          rw [HDR.out,List.pairwise_cons] at h2
          exact h2.1
        · have h1:=own_upd HO7.out (Upd.setC w7 (N+1) 3 (.slice (some ⟨gg,0,none⟩) (i+1) cap)) (fun k hk ht=>by subst hk;exact absurd (ht.one ⟨_,HX7.out⟩) (by decide))
          rw [List.take_add_one,HCI.out,List.flatMap_append]
          simp only [Option.toList_some,List.flatMap_cons,List.flatMap_nil,List.append_nil,HCV.out]
          exact h1
        · exact (heap_setCell_other w7 ⟨N+1,3,none⟩ _ _ (by show N ≠ N+1;omega)).trans HN7.out
      case measure=>simp only [intOf,Int.toNat_natCast];omega
    · obtain rfl:i=L:=by omega
      have hdz:d.cells.drop i=[]:=List.drop_eq_nil_of_le (by have:=HLL.out;omega)
      have htk:d.cells.take i=d.cells:=List.take_of_length_le (by have:=HLL.out;omega)
      obtain ⟨hn1,hn2,hn3,hn4,-⟩:=HRR.out
      rw [hdz] at hn1 hn4
      simp only [List.flatMap_nil,List.nil_append] at hn1 hn4
      obtain ⟨q2,c2,hx2,ho2⟩:=HX.out
      rw [htk] at ho2
      have HO2:=Lib.hid ho2
      have HX2:=Lib.hid hx2
      have HZR:Hid (Rd w q (List.replicate n 0)∧n≤112):=Lib.hid ⟨by rw [HZ.out,List.length_replicate] at hn1;rw [hn1,← HZ.out];exact hn4,by rw [hn1,HZ.out,List.length_replicate];omega⟩
      have hZW:∀ W,Below N w W→Rd W q (List.replicate n 0):=fun W hb=>HZR.out.1.below (by rw [← HNW.out];exact hb)
      have HZW:=Lib.hid hZW
      obtain ⟨⟨x0,x1,x2,x3⟩,-,hXl⟩:=four_cells hx2
      obtain ⟨⟨z0,z1,z2,z3⟩,⟨y0,y1,y2,y3⟩,hNl⟩:=four_cells HNN.out
      have hd:decide ((i:Int) < (i:Int))=false:=by simp
      have hNN:¬ N+1=N:=by omega
      clear hdz htk hn1 hn2 hn3 hn4 hx2 ho2 hZW hlt HRR HLS HX
      go_wp2_with fail
      have HZD:Hid (Rd wr.drew q (List.replicate n 0)):=Lib.hid (HZW.out _ HB.out.drew)
      have HXD:Hid (wr.drew.heap[N+1]?=some (.cells #[.int .i64 d.page,.bool true,.int .i64 0,.slice q2 i c2] 125 (0,0))):=Lib.hid HX2.out
      have HND:Hid (wr.drew.heap[N]?=some (.cells #[.int .i64 0,.bool false,.int .i64 0,.slice none 0 0] 125 (0,0))):=Lib.hid HNN.out
      go_region_law (first
        | (go_simp;go_at_call 73;refine (containsY_any q n c' _ HZD.out HZR.out.2).mono ?_;rintro e w3 ⟨rfl,hb3⟩;have HB3:=Lib.hid hb3;have HX3:=Lib.hid (met_old HXD.out hb3);have HN3:=Lib.hid (met_old HND.out hb3);obtain ⟨⟨x03,x13,x23,x33⟩,-,hXl3⟩:=four_cells HX3.out;obtain ⟨⟨z03,z13,z23,z33⟩,⟨y03,y13,y23,y33⟩,hNl3⟩:=four_cells HN3.out;clear hb3))
      all_goals go_wp2
      all_goals
        have hx9:=four_set (a':=.int .i64 d.page) (b':=.bool true) (c':=.int .i64 0) (d':=.slice q2 i c2) HN3.out
        have hu9:=four_upd w3 N (.int .i64 d.page) (.bool true) (.int .i64 0) (.slice q2 i c2)
        have hb9:Below N w ((((w3.setCell ⟨N,0,none⟩ (.int .i64 d.page)).setCell ⟨N,1,none⟩ (.bool true)).setCell ⟨N,2,none⟩ (.int .i64 0)).setCell ⟨N,3,none⟩ (.slice q2 i c2)):=four_below (HB.out.drew.trans (HB3.out.mono (by have h1:=HB.out.size;have h2:=HNW.out;show N≤wr.heap.size;omega))) (Nat.le_refl _)
        revert hx9 hu9 hb9
        generalize ((((w3.setCell ⟨N,0,none⟩ (.int .i64 d.page)).setCell ⟨N,1,none⟩ (.bool true)).setCell ⟨N,2,none⟩ (.int .i64 0)).setCell ⟨N,3,none⟩ (.slice q2 i c2))=W9
        intro hx9 hu9 hb9
        obtain ⟨⟨q0,q1,q22,q3⟩,-⟩:=four_cells hx9
        have hf0:d.first=0:=HD.out.isLeaf HLF.out
        refine bodyPost_ret (v:=.tuple #[.agg #[.int .i64 d.page,.bool true,.int .i64 0,.slice q2 i c2],.bool true]) (by simp [results,Tryz.results128,go_sem,q0,q1,q22,q3]) rfl ⟨q2,c2,?_,?_,?_⟩
        · rw [hf0,HLF.out];rfl
        · have h1:w3.ownsRow (N+2) 129 3 (.slice q2 i c2) i (d.cells.flatMap celV):=own_later (w:=wr.drew) (by exact HO2.out) HB3.out
          rw [← HNW.out]
          exact own_mono (own_upd h1 hu9 (fun k hk ht=>by subst hk;exact absurd (ht.one ⟨_,HN3.out⟩) (by decide))) (by omega)
        · rw [← HNW.out];exact hb9
end Go.Proofs.YtheeomjfpnijbaaGreatDoor
end
section
namespace Go.Proofs.YtheeomjfpnijbaaGreatDoor
open Go.RowKit Go.Shelf
theorem load_inner {d:Nd} (h:d.leaf=false):pad d.load=2 :: UInt8.ofNat d.cells.length :: UInt8.ofNat d.first :: UInt8.ofNat (d.first / 256) :: (d.cells.flatMap (celB false)++List.replicate (112 - d.load.length) 0):=by
  unfold pad
  congr 1
  unfold Nd.load
  rw [h]
  simp [le2]
set_option maxRecDepth 20000 in
set_option maxHeartbeats 8000000 in
theorem parse_inner {d:Nd} (g o c:Nat) (w:World) (hd:NdOk d) (hlf:d.leaf=false) (hl:d.load.length≤112) (hc:112≤c∧c≤maxLen) (hr:Rd w (some ⟨g,o,none⟩) (pad d.load)) :
    Calls Tryz.prog 128 #[.int .i64 d.page,.slice (some ⟨g,o,none⟩) 112 c] w fun e w'=>∃ q cap,e=.returned (.tuple #[ndV d q cap,.bool true]) ∧
      w'.ownsRow w.heap.size 129 3 (.slice q d.cells.length cap) d.cells.length (d.cells.flatMap celV)∧Below w.heap.size w w':=by
  have HD:=Lib.hid hd
  have HLF:=Lib.hid hlf
  have HL:=Lib.hid hl
  have HC:=Lib.hid hc
  obtain ⟨L,hLL⟩:∃ L,L=d.cells.length:=⟨_,rfl⟩
  have hL50:L≤55:=by
    have h1:=cells_few hd.cells
    rw [hlf] at h1
    have h2:d.load.length=4+(d.cells.flatMap (celB false)).length:=by unfold Nd.load;rw [hlf];simp [le2];omega
    omega
  obtain ⟨Z,hZ⟩:∃ Z,Z=List.replicate (112 - d.load.length) (0:UInt8):=⟨_,rfl⟩
  rw [load_inner hlf,← hZ,← hLL] at hr
  have hlen:(d.cells.flatMap (celB false)).length+Z.length=108:=by
    have h2:d.load.length=4+(d.cells.flatMap (celB false)).length:=by unfold Nd.load;rw [hlf];simp [le2];omega
    rw [hZ,List.length_replicate];omega
  obtain ⟨b',o',e',hcl⟩:=hr.at (by simp)
  cases e'
  have c0:=hcl 0 (by simp)
  have c1:=hcl 1 (by simp)
  simp only [List.getElem_cons_zero,List.getElem_cons_succ,B8,Nat.add_zero] at c0 c1
  have e1:(UInt8.ofNat L).toNat=L:=by simp;omega
  rw [e1] at c1
  rw [show ((2:UInt8).toNat:Int)=2 from rfl] at c0
  clear e1
  have HRF:Hid (Rd w (some ⟨g,o+2,none⟩) (UInt8.ofNat d.first :: UInt8.ofNat (d.first / 256) :: (d.cells.flatMap (celB false)++Z))):=Lib.hid (hr.drop 2)
  have HR:Hid (Rd w (some ⟨g,o+2+2,none⟩) (d.cells.flatMap (celB false)++Z)):=Lib.hid (HRF.out.drop 2)
  have HF16:Hid (d.first < 65536):=Lib.hid hd.first
  have HLEN:=Lib.hid hlen
  have HZ:=Lib.hid hZ
  have HLL:=Lib.hid hLL
  have HL5:=Lib.hid hL50
  have hcap:((112:Nat):Int)≤(c:Int):=by omega
  have hlt:=cell_lt c0
  unfold ndV
  rw [← hLL]
  clear hd hlf hl hc hr hcl hlen hZ hLL hL50
  go_enter Tryz.func128,Tryz.ntmps128
  go_upto_region 7 with fail
  obtain ⟨N,hN⟩:∃ N,N=w.heap.size:=⟨_,rfl⟩
  obtain ⟨W1,hW1⟩:∃ W1,W1=(w.alloc (.cells #[.int .i64 0,.bool false,.int .i64 0,.slice none 0 0] 125)).alloc (.cells #[.int .i64 d.page,.bool false,.int .i64 0,.slice none 0 0] 125):=⟨_,rfl⟩
  have n0:W1.heap[N]?=some (.cells #[.int .i64 0,.bool false,.int .i64 0,.slice none 0 0] 125 (0,0)):=by rw [hW1,hN];exact alloc_at (heap_alloc_new w _)
  have n1:W1.heap[N+1]?=some (.cells #[.int .i64 d.page,.bool false,.int .i64 0,.slice none 0 0] 125 (0,0)):=by
    rw [hW1,hN]
    have:=heap_alloc_new (w.alloc (.cells #[.int .i64 0,.bool false,.int .i64 0,.slice none 0 0] 125)) (.cells #[.int .i64 d.page,.bool false,.int .i64 0,.slice none 0 0] 125)
    rwa [World.size_alloc] at this
  have HB0:Hid (Below N w W1):=Lib.hid (by rw [hW1,hN];exact ((Below.refl _ w).alloc (Nat.le_refl _) _).alloc (by simp) _)
  rw [← hW1,← hN]
  have HNW:=Lib.hid hN
  have HGL:Hid (g < N):=Lib.hid (by rw [hN];exact hlt)
  have N00:=Lib.hid n0
  have N01:=Lib.hid n1
  have HRW1:Hid (Rd W1 (some ⟨g,o+2,none⟩) (UInt8.ofNat d.first :: UInt8.ofNat (d.first / 256) :: (d.cells.flatMap (celB false)++Z))):=Lib.hid (HRF.out.below (by rw [← hN];exact HB0.out))
  have C1:=Lib.hid c1
  clear c0 c1 hlt n0 n1 hW1 hN
  go_wp2_with fail
  refine (get16_any (some ⟨g,o+2,none⟩) 110 (c - 2) (UInt8.ofNat d.first) (UInt8.ofNat (d.first / 256)) (d.cells.flatMap (celB false)++Z) W1 (by rw [List.length_append,HLEN.out]) HRW1.out).mono ?_
  rintro e w2 ⟨rfl,hb2⟩
  rw [num2_le2 HF16.out]
  have HX2':=Lib.hid (met_old N01.out hb2)
  have HN2':=Lib.hid (met_old N00.out hb2)
  have HB2':=Lib.hid (HB0.out.trans (hb2.mono (by have:=(Array.getElem?_eq_some_iff.1 N00.out).1;omega)))
  obtain ⟨⟨-,-,b2,-⟩,⟨-,-,g2,-⟩,hXl2⟩:=four_cells HX2'.out
  have hcap2:((110:Nat):Int)≤((c - 2:Nat):Int):=by have:=HC.out;omega
  clear hb2
  go_upto_region 10 with fail
  obtain ⟨W3,hW3⟩:∃ W,W=w2.setCell ⟨N+1,2,none⟩ (.int .i64 (d.first:Int)):=⟨_,rfl⟩
  rw [← hW3]
  have N0:Hid (W3.heap[N]?=some (.cells #[.int .i64 0,.bool false,.int .i64 0,.slice none 0 0] 125 (0,0))):=Lib.hid (by rw [hW3];exact (heap_setCell_other w2 ⟨N+1,2,none⟩ _ _ (by show N ≠ N+1;omega)).trans HN2'.out)
  have N1:Hid (W3.heap[N+1]?=some (.cells #[.int .i64 d.page,.bool false,.int .i64 d.first,.slice none 0 0] 125 (0,0))):=Lib.hid (by rw [hW3];exact (heap_setCell_same w2 (N+1) 2 _ _ _ HX2'.out).trans rfl)
  have HB1:Hid (Below N w W3):=Lib.hid (by rw [hW3];exact HB2'.out.setCell (p:=⟨N+1,2,none⟩) (by show N≤N+1;omega) _)
  have HS1:Hid (True):=Lib.hid trivial
  clear hW3 b2 g2 hXl2 hcap2
  have d1:W3.cell? ⟨g,o+1,none⟩=some (.int .u8 (L:Int)):=(World.cell?_of_block (HB1.out.block g HGL.out)).trans C1.out
  have hlt1:=cell_lt d1
  go_wp2
  go_loopw [7,8,36] (fun r v k wr=>∃ (i n c':Nat) (q:Option Addr) (ls:Key),i≤L∧k=.int .u8 i∧v=.string (bstr ls)∧r=.slice q n c' ∧
      Hid (n=((d.cells.drop i).flatMap (celB false)++Z).length∧n≤c'∧c'≤maxLen∧Rd w q ((d.cells.drop i).flatMap (celB false)++Z)∧((d.cells.drop i).flatMap (celB false)++Z=[] ∨ ∃ o2,q=some ⟨g,o2,none⟩))∧Hid (∀ x∈d.cells.drop i,ls < x.key) ∧
      Hid (∃ q2 c2,wr.heap[N+1]?=some (.cells #[.int .i64 d.page,.bool false,.int .i64 d.first,.slice q2 i c2] 125 (0,0))∧wr.ownsRow (N+2) 129 3 (.slice q2 i c2) i ((d.cells.take i).flatMap celV)) ∧
      Hid (wr.heap[N]?=some (.cells #[.int .i64 0,.bool false,.int .i64 0,.slice none 0 0] 125 (0,0)))∧Hid (Below N w wr)) (fun _ _ k _=>L - (intOf k).toNat)
  case atStart =>
    refine ⟨0,108,c - 2 - 2,_,[],Nat.zero_le _,rfl,rfl,rfl,Lib.hid ⟨?_,by have:=HC.out;omega,by have:=HC.out;omega,HR.out,.inr ⟨_,rfl⟩⟩,Lib.hid (fun x hx=>?_),Lib.hid ⟨none,0,N1.out,⟨rfl,.inl ⟨rfl,rfl⟩⟩⟩,N0,HB1⟩
    · rw [List.length_append];exact HLEN.out.symm
    · have:=(HD.out.cells x (by simpa using hx)).key
      exact k_nil (by intro e;rw [e] at this;simp at this)
  case round =>
    obtain ⟨i,n,c',q,ls,hiL,rfl,rfl,rfl,HRR,HLS,HX,HNN,HB⟩:=hrel
    by_cases hlt:i < L
    · have hid:i < d.cells.length:=by have:=HLL.out;omega
      obtain ⟨cl,hcl⟩:∃ x,x=d.cells[i]:=⟨_,rfl⟩
      have hdrop:d.cells.drop i=cl :: d.cells.drop (i+1):=by rw [hcl];exact List.drop_eq_getElem_cons hid
      obtain ⟨rest,hrest⟩:∃ r,r=(d.cells.drop (i+1)).flatMap (celB false)++Z:=⟨_,rfl⟩
      have HRE:=Lib.hid hrest
      have HOK:Hid (CelOk false cl):=Lib.hid (by rw [← HLF.out,hcl];exact HD.out.cells _ (List.getElem_mem hid))
      have hfl:(d.cells.drop i).flatMap (celB false)++Z=UInt8.ofNat cl.key.length :: (cl.key++(UInt8.ofNat cl.child :: UInt8.ofNat (cl.child / 256) :: rest)):=by
        rw [hdrop,hrest,List.flatMap_cons]
        simp [celB,le2]
      have HDR:=Lib.hid hdrop
      have HCI:Hid (d.cells[i]?=some cl):=Lib.hid (by rw [hcl];exact List.getElem?_eq_getElem hid)
      obtain ⟨hn1,hn2,hn3,hn4,hn5⟩:=HRR.out
      rw [hfl] at hn1 hn4 hn5
      obtain ⟨o2,rfl⟩:=hn5.resolve_left (by simp)
      have HRR':=Lib.hid (And.intro hn1.symm (And.intro hn2 (And.intro hn3 hn4)))
      have HLK:Hid (Op.bytesLess (bstr cl.key).toList (bstr ls).toList=false∧((bstr cl.key).toList == (bstr ls).toList)=false):=Lib.hid (by
        have h1:ls < cl.key:=HLS.out cl (by rw [hdrop];simp)
        refine ⟨by rw [less_bstr];exact decide_eq_false (k_nlt (k_of_lt h1)),?_⟩
        rw [bstr_list,bstr_list]
        simp only [beq_eq_false_iff_ne]
        intro e
        rw [e] at h1
        exact k_irrefl _ h1)
      have hd:decide ((i:Int) < (L:Int))=true:=decide_eq_true (by omega)
      clear hcl hdrop hrest hfl hn1 hn2 hn3 hn4 hn5 HRR
      go_upto_region 14 with fail
      obtain ⟨G,hG⟩:∃ G,G=wr.heap.size:=⟨_,rfl⟩
      obtain ⟨W2,hW2⟩:∃ W2,W2=wr.alloc (.cells #[.string ⟨#[]⟩,.string ⟨#[]⟩,.int .i64 0] 129):=⟨_,rfl⟩
      have g2:W2.heap[G]?=some (.cells #[.string ⟨#[]⟩,.string ⟨#[]⟩,.int .i64 0] 129 (0,0)):=by rw [hW2,hG];exact heap_alloc_new wr _
      have HB2:Hid (Below wr.heap.size wr W2):=Lib.hid (by rw [hW2];exact (Below.refl _ wr).alloc (Nat.le_refl _) _)
      rw [← hW2,← hG]
      have HG:=Lib.hid hG
      have G2:=Lib.hid g2
      clear hW2 hG g2
      go_wp2_with fail
      have HBW2:Hid (Below N w W2):=Lib.hid (HB.out.trans (HB2.out.mono (by have:=HB.out.size;have:=HNW.out;omega)))
      refine (field2_any g o2 n c' cl.key _ W2 HRR'.out.1 HOK.out.key.2 HRR'.out.2.1 HRR'.out.2.2.1 (HRR'.out.2.2.2.below (by rw [← HNW.out];exact HBW2.out))).mono ?_
      rintro e w3 ⟨⟨q3,d3,rfl,hd3,hm3,hr3,hq3⟩,hb3⟩
      have hr3':=hr3.backs hq3 HBW2.out HGL.out
      obtain ⟨o3,rfl⟩:=hq3.resolve_left (by simp)
      rw [show (⟨cl.key.toArray⟩:ByteArray)=bstr cl.key from rfl]
      have HB3:=Lib.hid hb3
      have HR3:=Lib.hid (And.intro hd3 (And.intro hm3 hr3'))
      have G3:=Lib.hid (met_old G2.out hb3)
      have k0:w3.cell? ⟨G,0,none⟩=some (.string ⟨#[]⟩):=by simp [World.cell?,G3.out]
      have f0:w3.frozen? ⟨G,0,none⟩=false:=frozenC G3.out
      have hG3:=cell_lt k0
      clear hb3 hd3 hm3 hr3 hr3'
      obtain ⟨m3,hm3⟩:∃ m,m=(UInt8.ofNat cl.child :: UInt8.ofNat (cl.child / 256) :: rest).length:=⟨_,rfl⟩
      rw [← hm3]
      have HM3:=Lib.hid hm3
      clear hm3
      go_upto_region 15 with fail
      obtain ⟨W4,hW4⟩:∃ W,W=w3.setCell ⟨G,0,none⟩ (.string (bstr cl.key)):=⟨_,rfl⟩
      rw [← hW4]
      have g4:W4.heap[G]?=some (.cells #[.string (bstr cl.key),.string ⟨#[]⟩,.int .i64 0] 129 (0,0)):=by rw [hW4];exact (heap_setCell_same w3 G 0 _ _ _ G3.out).trans rfl
      have HR4:Hid (m3≤d3∧d3≤maxLen):=Lib.hid ⟨by rw [HM3.out];exact HR3.out.1,HR3.out.2.1⟩
      have HB4:Hid (Below wr.heap.size wr W4):=Lib.hid (by rw [hW4];exact (chainC HB2.out HB3.out).setCell (p:=⟨G,0,none⟩) (by rw [HG.out];exact Nat.le_refl _) _)
      have G4:=Lib.hid g4
      have k0:W4.cell? ⟨G,0,none⟩=some (.string (bstr cl.key)):=by simp [World.cell?,g4]
      have hG4:=cell_lt k0
      have n41:W4.heap[N+1]?=wr.heap[N+1]?:=HB4.out.block _ (by obtain ⟨q2,c2,h1,-⟩:=HX.out;exact (Array.getElem?_eq_some_iff.1 h1).1)
      have k1:W4.cell? ⟨N+1,1,none⟩=some (.bool false):=by obtain ⟨q2,c2,h1,-⟩:=HX.out;simp [World.cell?,n41,h1]
      have hN4:=cell_lt k1
      obtain ⟨l1,l2⟩:=HLK.out
      clear hW4 g4 n41
      go_wp2_with fail
      have HBW4:Hid (Below N w W4):=Lib.hid (HB.out.trans (HB4.out.mono (by have:=HB.out.size;have:=HNW.out;omega)))
      have HM32:Hid (m3=rest.length+2):=Lib.hid (by rw [HM3.out];simp)
      refine (cut_any g o3 2 m3 d3 W4 (by have:=HM32.out;omega) HR4.out.1).mono ?_
      rintro e w5 ⟨⟨q5',q5,c5',d5,rfl,rfl,hq5,hc5,hd5,hm5⟩,hb5⟩
      have HB5:=Lib.hid (chainC HB4.out hb5)
      have HR5:Hid (rest.length≤d5∧d5≤maxLen∧Rd w q5 rest∧(rest=[] ∨ ∃ o5,q5=some ⟨g,o5,none⟩)):=Lib.hid (by
        have h1:=HM32.out
        refine ⟨by omega,Nat.le_trans hm5 HR4.out.2,?_,?_⟩
        · rcases hq5 with h | rfl
          · have:rest=[]:=List.eq_nil_of_length_eq_zero (by omega)
            rw [this];exact Rd.nil _ _
          · exact HR3.out.2.2.drop 2
        · rcases hq5 with h | rfl
          · exact .inl (List.eq_nil_of_length_eq_zero (by omega))
          · exact .inr ⟨_,rfl⟩)
      have G5:=Lib.hid (met_old G4.out hb5)
      have HBW5:Hid (Below N w w5):=Lib.hid (HB.out.trans (HB5.out.mono (by have:=HB.out.size;have:=HNW.out;omega)))
      have HR55:Hid (Rd w5 (some ⟨g,o3,none⟩) (UInt8.ofNat cl.child :: UInt8.ofNat (cl.child / 256) :: [])):=Lib.hid ((by simpa using HR3.out.2.2.sub 0 2:Rd w (some ⟨g,o3,none⟩) (UInt8.ofNat cl.child :: UInt8.ofNat (cl.child / 256) :: [])).below (by rw [← HNW.out];exact HBW5.out))
      obtain ⟨m5,hm5'⟩:∃ m,m=m3 - 2:=⟨_,rfl⟩
      rw [← hm5']
      have HM5:Hid (m5=rest.length):=Lib.hid (by rw [hm5',HM32.out];omega)
      clear hb5 hd5 hm5 hq5 hc5 hm5' k0 l1 l2 hG4 hN4
      go_wp2_with fail
      refine (get16_any (some ⟨g,o3,none⟩) 2 c5' (UInt8.ofNat cl.child) (UInt8.ofNat (cl.child / 256)) [] w5 rfl HR55.out).mono ?_
      rintro e w55 ⟨rfl,hb55⟩
      rw [num2_le2 HOK.out.child]
      have HB55:=Lib.hid (chainC HB5.out hb55)
      have G55:=Lib.hid (met_old G5.out hb55)
      have k1:w55.cell? ⟨G,2,none⟩=some (.int .i64 0):=by simp [World.cell?,G55.out]
      have f1:w55.frozen? ⟨G,2,none⟩=false:=frozenC G55.out
      have hG5:=cell_lt k1
      clear hb55
      go_upto_region 23 with fail
      obtain ⟨W6,hW6⟩:∃ W,W=w55.setCell ⟨G,2,none⟩ (.int .i64 (cl.child:Int)):=⟨_,rfl⟩
      rw [← hW6]
      have g6:W6.heap[G]?=some (.cells #[.string (bstr cl.key),.string ⟨#[]⟩,.int .i64 cl.child] 129 (0,0)):=by rw [hW6];exact (heap_setCell_same w55 G 2 _ _ _ G55.out).trans rfl
      have HB6:Hid (Below wr.heap.size wr W6):=Lib.hid (by rw [hW6];exact HB55.out.setCell (p:=⟨G,2,none⟩) (by rw [HG.out];exact Nat.le_refl _) _)
      have G6:=Lib.hid g6
      have k0:W6.cell? ⟨G,0,none⟩=some (.string (bstr cl.key)):=by simp [World.cell?,g6]
      have k1:W6.cell? ⟨G,1,none⟩=some (.string ⟨#[]⟩):=by simp [World.cell?,g6]
      have k2:W6.cell? ⟨G,2,none⟩=some (.int .i64 cl.child):=by simp [World.cell?,g6]
      have hG6:=cell_lt k0
      clear hW6 g6 f1 hG5
      obtain ⟨q2,c2,hx2,ho2⟩:=HX.out
      have x6:W6.heap[N+1]?=some (.cells #[.int .i64 d.page,.bool false,.int .i64 d.first,.slice q2 i c2] 125 (0,0)):=met_old hx2 HB6.out
      have HO6:=Lib.hid (own_later ho2 HB6.out)
      have X6:=Lib.hid x6
      have r3:W6.cell? ⟨N+1,3,none⟩=some (.slice q2 i c2):=by simp [World.cell?,x6]
      have hN6:=cell_lt r3
      obtain ⟨i0,hi0,hz0,hz1,hz2⟩:=info_parts infoCell
      have HCV:Hid (celV cl=[.string (bstr cl.key),.string ⟨#[]⟩,.int .i64 cl.child]):=Lib.hid (by unfold celV;rw [HOK.out.inner rfl];rfl)
      have HNW6:Hid (∀ (j:Nat) (u:Value),[Value.string (bstr cl.key),.string ⟨#[]⟩,.int .i64 cl.child][j]?=some u→(W6.alloc (.cells #[.string (bstr cl.key),.string ⟨#[]⟩,.int .i64 cl.child] 129)).cell? ((⟨W6.heap.size,0,none⟩:Addr).add j)=some u):=Lib.hid (by
        have:=cell_news W6 cl
        rw [HCV.out] at this
        exact this)
      have HOA:=Lib.hid (HO6.out.alloc (.cells #[.string (bstr cl.key),.string ⟨#[]⟩,.int .i64 cl.child] 129))
      have HNle:Hid (N+2≤W6.heap.size):=Lib.hid (by have h1:=HB6.out.size;have h2:=HB.out.size;have h3:=(Array.getElem?_eq_some_iff.1 HNN.out).1;have h4:=(Array.getElem?_eq_some_iff.1 hx2).1;omega)
      clear hx2 ho2 x6
      go_wp2_with (at_builtin;go_loud (refine wpList_append_lies _ rfl (.tmp 79) (.tmp 81) 123 rfl (N+2) 129 i0 (.agg #[.string ⟨#[]⟩,.string ⟨#[]⟩,.int .i64 0]) 3 40 Tryz.underlying123 hi0 hz0 hz1 hz2 rfl (by decide) (.slice q2 i c2) i _ rfl HOA.out ⟨W6.heap.size,0,none⟩ 1 1 [.string (bstr cl.key),.string ⟨#[]⟩,.int .i64 cl.child] (by rfl) rfl HNW6.out (by simp [Value.oneCell']) (by omega) (by simp only [maxLen];have:=HL5.out;omega) (by have:=HL5.out;omega) (by have:=HNle.out;simp;omega) (W6.heap.size+1) (by simp) ?_))
      intro gg cap w7 hown7 hgrow7 hat7 hlt7
      have x7:w7.heap[N+1]?=some (.cells #[.int .i64 d.page,.bool false,.int .i64 d.first,.slice q2 i c2] 125 (0,0)):=grown_at (alloc_at X6.out) HOA.out hgrow7 (by decide)
      have n7:w7.heap[N]?=some (.cells #[.int .i64 0,.bool false,.int .i64 0,.slice none 0 0] 125 (0,0)):=grown_at (alloc_at (met_old HNN.out HB6.out)) HOA.out hgrow7 (by decide)
      have HB7:Hid (Below N w w7):=Lib.hid ((((HB.out.trans (HB6.out.mono (by have:=HB.out.size;have:=HNW.out;omega))).alloc (by have:=HNle.out;omega) _)).grown hgrow7 (by have:=HNle.out;simp;omega) (fun k hk=>by have:=own_ge HOA.out hk.symm;omega))
      have r7:w7.cell? ⟨N+1,3,none⟩=some (.slice q2 i c2):=by simp [World.cell?,x7]
      have f7:w7.frozen? ⟨N+1,3,none⟩=false:=frozenC x7
      have hN7:=cell_lt r7
      have HX7:=Lib.hid x7
      have HN7:=Lib.hid n7
      have HO7:=Lib.hid hown7
      have HU8:Hid (IntKind.u8.wrap ((i:Int)+1)=((i+1:Nat):Int)):=Lib.hid (by rw [IntWalk.u8_in _ (by have:=HL5.out;omega)];omega)
      have HU8':Hid (((i:Int)+1) % 256=((i+1:Nat):Int)):=Lib.hid (by have:=HL5.out;omega)
      clear x7 n7 hown7 hgrow7 hat7 hlt7 k0 k1 k2 hG6 r3 hN6
      go_wp2
      (first | rw [HU8.out] | rw [HU8'.out] | skip)
      go_roundw
      case rel =>
        refine ⟨i+1,m5,d5,q5,cl.key,hlt,rfl,rfl,rfl,Lib.hid ⟨by rw [HM5.out,HRE.out],by rw [HM5.out];exact HR5.out.1,HR5.out.2.1,by rw [← HRE.out];exact HR5.out.2.2⟩,Lib.hid ?_,Lib.hid ⟨some ⟨gg,0,none⟩,cap,(heap_setCell_same w7 (N+1) 3 _ _ _ HX7.out).trans rfl,?_⟩,Lib.hid ?_,Lib.hid (HB7.out.setCell (p:=⟨N+1,3,none⟩) (by show N≤N+1;omega) _)⟩
        · have h1:=HD.out.sorted
          rw [List.pairwise_map] at h1
          have h2:=h1.sublist (List.drop_sublist i d.cells)
          rw [HDR.out,List.pairwise_cons] at h2
          exact h2.1
        · have h1:=own_upd HO7.out (Upd.setC w7 (N+1) 3 (.slice (some ⟨gg,0,none⟩) (i+1) cap)) (fun k hk ht=>by subst hk;exact absurd (ht.one ⟨_,HX7.out⟩) (by decide))
          rw [List.take_add_one,HCI.out,List.flatMap_append]
          simp only [Option.toList_some,List.flatMap_cons,List.flatMap_nil,List.append_nil,HCV.out]
          exact h1
        · exact (heap_setCell_other w7 ⟨N+1,3,none⟩ _ _ (by show N ≠ N+1;omega)).trans HN7.out
      case measure=>simp only [intOf,Int.toNat_natCast];omega
    · obtain rfl:i=L:=by omega
      have hdz:d.cells.drop i=[]:=List.drop_eq_nil_of_le (by have:=HLL.out;omega)
      have htk:d.cells.take i=d.cells:=List.take_of_length_le (by have:=HLL.out;omega)
      obtain ⟨hn1,hn2,hn3,hn4,-⟩:=HRR.out
      rw [hdz] at hn1 hn4
      simp only [List.flatMap_nil,List.nil_append] at hn1 hn4
      obtain ⟨q2,c2,hx2,ho2⟩:=HX.out
      rw [htk] at ho2
      have HO2:=Lib.hid ho2
      have HX2:=Lib.hid hx2
      have HZR:Hid (Rd w q (List.replicate n 0)∧n≤112):=Lib.hid ⟨by rw [HZ.out,List.length_replicate] at hn1;rw [hn1,← HZ.out];exact hn4,by rw [hn1,HZ.out,List.length_replicate];omega⟩
      have hZW:∀ W,Below N w W→Rd W q (List.replicate n 0):=fun W hb=>HZR.out.1.below (by rw [← HNW.out];exact hb)
      have HZW:=Lib.hid hZW
      obtain ⟨⟨x0,x1,x2,x3⟩,-,hXl⟩:=four_cells hx2
      obtain ⟨⟨z0,z1,z2,z3⟩,⟨y0,y1,y2,y3⟩,hNl⟩:=four_cells HNN.out
      have hd:decide ((i:Int) < (i:Int))=false:=by simp
      have hNN:¬ N+1=N:=by omega
      clear hdz htk hn1 hn2 hn3 hn4 hx2 ho2 hZW hlt HRR HLS HX
      go_wp2_with fail
      have HZD:Hid (Rd wr.drew q (List.replicate n 0)):=Lib.hid (HZW.out _ HB.out.drew)
      have HXD:Hid (wr.drew.heap[N+1]?=some (.cells #[.int .i64 d.page,.bool false,.int .i64 d.first,.slice q2 i c2] 125 (0,0))):=Lib.hid HX2.out
      have HND:Hid (wr.drew.heap[N]?=some (.cells #[.int .i64 0,.bool false,.int .i64 0,.slice none 0 0] 125 (0,0))):=Lib.hid HNN.out
      go_region_law (first
        | (go_simp;go_at_call 73;refine (containsY_any q n c' _ HZD.out HZR.out.2).mono ?_;rintro e w3 ⟨rfl,hb3⟩;have HB3:=Lib.hid hb3;have HX3:=Lib.hid (met_old HXD.out hb3);have HN3:=Lib.hid (met_old HND.out hb3);obtain ⟨⟨x03,x13,x23,x33⟩,-,hXl3⟩:=four_cells HX3.out;obtain ⟨⟨z03,z13,z23,z33⟩,⟨y03,y13,y23,y33⟩,hNl3⟩:=four_cells HN3.out;clear hb3))
      all_goals go_wp2
      all_goals
        have hx9:=four_set (a':=.int .i64 d.page) (b':=.bool false) (c':=.int .i64 d.first) (d':=.slice q2 i c2) HN3.out
        have hu9:=four_upd w3 N (.int .i64 d.page) (.bool false) (.int .i64 d.first) (.slice q2 i c2)
        have hb9:Below N w ((((w3.setCell ⟨N,0,none⟩ (.int .i64 d.page)).setCell ⟨N,1,none⟩ (.bool false)).setCell ⟨N,2,none⟩ (.int .i64 d.first)).setCell ⟨N,3,none⟩ (.slice q2 i c2)):=four_below (HB.out.drew.trans (HB3.out.mono (by have h1:=HB.out.size;have h2:=HNW.out;show N≤wr.heap.size;omega))) (Nat.le_refl _)
        revert hx9 hu9 hb9
        generalize ((((w3.setCell ⟨N,0,none⟩ (.int .i64 d.page)).setCell ⟨N,1,none⟩ (.bool false)).setCell ⟨N,2,none⟩ (.int .i64 d.first)).setCell ⟨N,3,none⟩ (.slice q2 i c2))=W9
        intro hx9 hu9 hb9
        obtain ⟨⟨q0,q1,q22,q3⟩,-⟩:=four_cells hx9
        refine bodyPost_ret (v:=.tuple #[.agg #[.int .i64 d.page,.bool false,.int .i64 d.first,.slice q2 i c2],.bool true]) (by simp [results,Tryz.results128,go_sem,q0,q1,q22,q3]) rfl ⟨q2,c2,?_,?_,?_⟩
        · rw [HLF.out]
        · have h1:w3.ownsRow (N+2) 129 3 (.slice q2 i c2) i (d.cells.flatMap celV):=own_later (w:=wr.drew) (by exact HO2.out) HB3.out
          rw [← HNW.out]
          exact own_mono (own_upd h1 hu9 (fun k hk ht=>by subst hk;exact absurd (ht.one ⟨_,HN3.out⟩) (by decide))) (by omega)
        · rw [← HNW.out];exact hb9
end Go.Proofs.YtheeomjfpnijbaaGreatDoor
end
section
namespace Go.Proofs.YtheeomjfpnijbaaGreatDoor
open Go.RowKit Go.Shelf
theorem parse_any {d:Nd} (g o c:Nat) (w:World) (hd:NdOk d) (hl:d.load.length≤112) (hc:112≤c∧c≤maxLen) (hr:Rd w (some ⟨g,o,none⟩) (pad d.load)) :
    Calls Tryz.prog 128 #[.int .i64 d.page,.slice (some ⟨g,o,none⟩) 112 c] w fun e w'=>∃ q cap,e=.returned (.tuple #[ndV d q cap,.bool true]) ∧
      w'.ownsRow w.heap.size 129 3 (.slice q d.cells.length cap) d.cells.length (d.cells.flatMap celV)∧Below w.heap.size w w':=by
  cases h:d.leaf with
  | true=>exact parse_leaf g o c w hd h hl hc hr
  | false=>exact parse_inner g o c w hd h hl hc hr
set_option maxRecDepth 20000 in
set_option maxHeartbeats 8000000 in
theorem tnode_any {p:Par} {tx cap:Nat} {s:ASt} (d:Nd) (w:World) (h:TM p tx cap w s) (ht:s.t≤800000) (hn:1≤d.page∧d.page < p.pages) (hd:NdOk d) (hl:d.load.length≤112) (hp:(pst s).F d.page=pad d.load) :
    Calls Tryz.prog 85 #[treeV p tx,.int .i64 d.page] w fun e w'=>∃ q cp s',e=.returned (.tuple #[ndV d q cp,.int .i64 0]) ∧
      w'.ownsRow w.heap.size 129 3 (.slice q d.cells.length cp) d.cells.length (d.cells.flatMap celV)∧TM p tx cap w' s'∧pst s'=pst s∧s'.t=s.t+1∧s'.N=s.N∧Step p s.N w s'.N w':=by
  have H:=Lib.hid h
  have HT:=Lib.hid ht
  have HN:=Lib.hid hn
  have HD:=Lib.hid hd
  have HL:=Lib.hid hl
  have HP:=Lib.hid hp
  have g1:decide ((d.page:Int) < 1)=false:=decide_eq_false (by omega)
  have g2:decide ((p.pages:Int)≤(d.page:Int))=false:=decide_eq_false (by omega)
  have g1':decide (d.page < 1)=false:=decide_eq_false (by omega)
  have g2':decide (p.pages≤d.page)=false:=decide_eq_false (by omega)
  unfold treeV
  clear h ht hn hd hl hp
  go_enter Tryz.func85,Tryz.ntmps85
  go_upto_region 1 with fail
  obtain ⟨N,hN⟩:∃ N,N=w.heap.size:=⟨_,rfl⟩
  obtain ⟨W1,hW1⟩:∃ W1,W1=(w.alloc (.cells #[.pointer (some ⟨p.bg,0,none⟩),.int .i64 tx] 117)).alloc (.cells #[.int .i64 0,.bool false,.int .i64 0,.slice none 0 0] 125):=⟨_,rfl⟩
  have n0:W1.heap[N]?=some (.cells #[.pointer (some ⟨p.bg,0,none⟩),.int .i64 tx] 117 (0,0)):=by rw [hW1,hN];exact alloc_at (heap_alloc_new w _)
  have n1:W1.heap[N+1]?=some (.cells #[.int .i64 0,.bool false,.int .i64 0,.slice none 0 0] 125 (0,0)):=by
    rw [hW1,hN]
    have:=heap_alloc_new (w.alloc (.cells #[.pointer (some ⟨p.bg,0,none⟩),.int .i64 tx] 117)) (.cells #[.int .i64 0,.bool false,.int .i64 0,.slice none 0 0] 125)
    rwa [World.size_alloc] at this
  have HB1:Hid (Below w.heap.size w W1):=Lib.hid (by rw [hW1];exact ((Below.refl _ w).alloc (Nat.le_refl _) _).alloc (by simp) _)
  rw [← hW1,← hN]
  have HM1:=Lib.hid (H.out.below HB1.out)
  have k0:W1.cell? ⟨N,0,none⟩=some (.pointer (some ⟨p.bg,0,none⟩)):=by simp [World.cell?,n0]
  have k1:W1.cell? ⟨N,1,none⟩=some (.int .i64 tx):=by simp [World.cell?,n0]
  have hNl:=cell_lt k0
  have HNW:=Lib.hid hN
  have N0:=Lib.hid n0
  have N1:=Lib.hid n1
  clear hN hW1 n0 n1
  go_wp2_with fail
  refine (pages_any HM1.out).mono ?_
  rintro e w2 ⟨rfl,rfl⟩
  go_wp2_with fail
  refine (tread2_any d.page HM1.out HN.out.2 (by have:=HT.out;omega)).mono ?_
  rintro e w4 ⟨q4,d4,s4,W4,rfl,ho4,hm4,hp4,ht4,hn4,hs4,hb4⟩
  have hF:(s.C (d.page:Int)).2=pad d.load:=HP.out
  rw [hF] at ho4
  obtain ⟨g,d4',cur,e4,hg4,hh4,hl4,hc4,hm4'⟩:=own8 ho4 (by decide)
  cases e4
  have HR4:=Lib.hid (own_rdv ho4)
  have HC4:Hid (112≤d4∧d4≤maxLen):=Lib.hid ⟨by omega,hm4'⟩
  have HM4:=Lib.hid (hm4.below hb4)
  have HP4:=Lib.hid hp4
  have HT4:=Lib.hid ht4
  have HN4:=Lib.hid hn4
  have HS4:=Lib.hid (((Step.of_below HB1.out).trans hs4).trans (Step.of_below hb4))
  have X4:=Lib.hid (met_old (HM1.out.keep hs4 N1.out (by decide)) hb4)
  clear ho4 hg4 hh4 hl4 hc4 hm4' hm4 hp4 ht4 hn4 hs4 hb4 hF k0 k1 hNl
  dsimp only
  go_wp2_with fail
  refine (parse_any g 0 d4 w4 HD.out HL.out HC4.out HR4.out).mono ?_
  rintro e w5 ⟨q5,c5,rfl,ho5,hb5⟩
  obtain ⟨L,hL⟩:∃ L,L=d.cells.length:=⟨_,rfl⟩
  have hndv:ndV d q5 c5=.agg #[.int .i64 d.page,.bool d.leaf,.int .i64 d.first,.slice q5 L c5]:=by rw [hL];rfl
  rw [hndv]
  rw [← hL] at ho5
  have HO5:=Lib.hid ho5
  have HB5:=Lib.hid hb5
  have HLL:=Lib.hid hL
  have X5:=Lib.hid (met_old X4.out hb5)
  obtain ⟨⟨b0,b1,b2,b3⟩,⟨f0,f1,f2,f3⟩,hXl⟩:=four_cells X5.out
  obtain ⟨lf,hlf⟩:∃ b,b=d.leaf:=⟨_,rfl⟩
  have HLF:=Lib.hid hlf
  rw [← hlf]
  have HN2:Hid (w.heap.size≤N+1):=Lib.hid (by rw [HNW.out];omega)
  clear hndv ho5 hb5 hL hlf
  go_wp2
  have hx8:=four_set (a':=.int .i64 d.page) (b':=.bool lf) (c':=.int .i64 d.first) (d':=.slice q5 L c5) X5.out
  have hu8:=four_upd w5 (N+1) (.int .i64 d.page) (.bool lf) (.int .i64 d.first) (.slice q5 L c5)
  revert hx8 hu8
  generalize ((((w5.setCell ⟨N+1,0,none⟩ (.int .i64 d.page)).setCell ⟨N+1,1,none⟩ (.bool lf)).setCell ⟨N+1,2,none⟩ (.int .i64 d.first)).setCell ⟨N+1,3,none⟩ (.slice q5 L c5))=W8
  intro hx8 hu8
  have hx9:=alloc_at (o:=.cells #[.int .i64 d.page,.bool lf,.int .i64 d.first,.slice q5 L c5] 125) hx8
  have hb9:Below W8.heap.size W8 (W8.alloc (.cells #[.int .i64 d.page,.bool lf,.int .i64 d.first,.slice q5 L c5] 125)):=(Below.refl _ W8).alloc (Nat.le_refl _) _
  revert hx9 hb9
  generalize (W8.alloc (.cells #[.int .i64 d.page,.bool lf,.int .i64 d.first,.slice q5 L c5] 125))=W9
  intro hx9 hb9
  obtain ⟨⟨q0,q1,q22,q3⟩,-⟩:=four_cells hx9
  refine bodyPost_ret (v:=.tuple #[.agg #[.int .i64 d.page,.bool lf,.int .i64 d.first,.slice q5 L c5],.int .i64 0]) (by simp [results,Tryz.results85,go_sem,q0,q1,q22,q3]) rfl ⟨q5,c5,s4,?_,?_,?_,HP4.out,HT4.out,HN4.out,?_⟩
  · rw [HLF.out,HLL.out];rfl
  · rw [← HLL.out]
    exact own_mono (own_later (own_upd HO5.out hu8 (fun k hk ht=>by subst hk;exact absurd (ht.one ⟨_,X5.out⟩) (by decide))) hb9) (by have:=HS4.out.upd.size;omega)
  · exact ((HM4.out.below HB5.out).turn hu8 (B:=w.heap.size) (by rw [HN4.out];exact H.out.base) (fun j hj=>by subst hj;exact ⟨HN2.out,125,by decide,⟨_,X5.out⟩⟩)).below hb9
  · exact ((HS4.out.trans (Step.of_below HB5.out)).more hu8 (fun j hj=>by have:=HN2.out;omega)).trans (Step.of_below hb9)
end Go.Proofs.YtheeomjfpnijbaaGreatDoor
end
section
namespace Go.Proofs.YtheeomjfpnijbaaGreatDoor
open Go.RowKit Go.Shelf
theorem fit_any (key:Key) (w:World) (hk:1≤key.length∧key.length≤12) :
    Calls Tryz.prog 38 #[.string (bstr key)] w fun e w'=>e=.returned (.bool true)∧w'=w:=by
  have hne:key ≠ []:=by rintro rfl;simp at hk
  have h1:¬ (bstr key).toList=[]:=by rw [bstr_list];exact hne
  have h5:(bstr key).toList.isEmpty=false:=by rw [bstr_list];simpa using hne
  clear hne
  have h2:((bstr key).size:Int)=(key.length:Int):=by rw [bstr_size]
  have h3:decide ((key.length:Int)≤12)=true:=decide_eq_true (by omega)
  have h4:decide (key.length≤12)=true:=decide_eq_true hk.2
  clear hk
  go_enter Tryz.func38,Tryz.ntmps38
  go_wp2
  go_ret
  exact ⟨rfl,rfl⟩
end Go.Proofs.YtheeomjfpnijbaaGreatDoor
end
