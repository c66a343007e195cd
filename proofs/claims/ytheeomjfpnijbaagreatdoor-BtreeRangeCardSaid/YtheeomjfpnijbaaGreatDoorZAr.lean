/- Lemmas: AriesRecover, PoolNew, AriesOpen. -/
import Derived.Test.YtheeomjfpnijbaaGreatDoorZMg
import Derived.Test.YtheeomjfpnijbaaGreatDoorZMa
import Derived.Test.YtheeomjfpnijbaaGreatDoorZPa
set_option linter.unusedVariables false
section
namespace Go.Proofs.YtheeomjfpnijbaaGreatDoor
open Go.RowKit Go.Shelf
attribute [local go_sem] Oper.semAt_some
theorem backwardI_any (q:Option Addr) (n c:Nat) (w:World) :
    Calls Tryz.prog 174 #[.slice q n c] w fun e w'=>e=.returned (.func (.func 233) #[] #[.pointer (some ⟨w.heap.size,0,none⟩)])∧w'=w.alloc (.cells #[.slice q n c] 107):=by
  go_enter Tryz.func174,Tryz.ntmps174
  go_wp2
  go_ret
  exact ⟨rfl,rfl⟩
set_option maxRecDepth 100000 in
set_option maxHeartbeats 1000000 in
theorem backI_none (F:Fence) (n:Nat) (hf:F.fn 233) (hro:F.round=none) (Bs n₀ c:Nat) (p:Option Addr) (w:World) (hB:Bs < w.heap.size) (hm:w.cell? ⟨Bs,0,none⟩=some (.slice p 0 c)) :
    SeqStopsK F n Tryz.prog 233 #[.pointer (some ⟨Bs,0,none⟩)] (fun x:Int=>#[Value.int .i64 x,Value.int .i64 x]) (Below n₀) (fun ys=>ys=[]) (fun _=>False) 0 w :=
  fun l J Jx W hW hJ _ hY h0=>by
    have hm':=(hW.cell (p:=⟨Bs,0,none⟩) hB).trans hm
    refine callsIn_of_wp Tryz.func233 rfl hf ?_ hro
    simp only [Tryz.ntmps233,List.size_toArray,List.length_cons,List.length_nil,Nat.reduceAdd,Nat.reduceSub,Array.replicate_succ,Array.replicate_zero,List.push_toArray,List.append_toArray,List.nil_append,List.cons_append]
    gi_wp2
    gi_loopw [3] (fun i wr=>i=.int .i64 (-1)∧J [] wr) (fun _ _=>0)
    case atStart=>exact ⟨rfl,h0⟩
    case round =>
      obtain ⟨rfl,hJs⟩:=hrel
      gi_wp2
      go_end0
      exact ⟨⟨_,rfl⟩,.inl ⟨[],rfl,hJs⟩⟩
set_option maxRecDepth 100000 in
set_option maxHeartbeats 2000000 in
theorem recover_none {B bl bd fro sectors first last forced durable:Nat} {sv:Value} {xs:List UInt8} (bg:Nat) (w:World) (hl:w.cell? ⟨bg,3,none⟩=some (.pointer (some ⟨bl,0,none⟩))) (h:LogAt w B bl bd fro sectors first last forced durable sv xs) (he:forced=last) :
    Calls Tryz.prog 117 #[.pointer (some ⟨bg,0,none⟩),.slice none 0 0] w fun e w'=>e=.returned (.int .i64 0)∧Below w.heap.size w w':=by
  have HL:=Lib.hid hl
  have H:=Lib.hid h
  have HE:=Lib.hid he
  clear h he hl
  have hmm:=@run_makeMap Tryz.prog
  obtain ⟨W1,hW1⟩:∃ W,W=w.alloc (.cells #[.pointer (some ⟨bg,0,none⟩)] 30):=⟨_,rfl⟩
  obtain ⟨W2,hW2⟩:∃ W,W=W1.alloc (.cells #[.int .i64 0] 28):=⟨_,rfl⟩
  obtain ⟨W3,hW3⟩:∃ W,W=W2.alloc (.map #[] 0):=⟨_,rfl⟩
  obtain ⟨W4,hW4⟩:∃ W,W=W3.alloc (.cells #[.map (some (w.heap.size+1+1))] 61):=⟨_,rfl⟩
  obtain ⟨W5,hW5⟩:∃ W,W=W4.alloc (.map #[] 0):=⟨_,rfl⟩
  obtain ⟨W6,hW6⟩:∃ W,W=W5.alloc (.mapIter (some (w.heap.size+1+1)) 0 #[] 0):=⟨_,rfl⟩
  have s1:W1.heap.size=w.heap.size+1:=by rw [hW1];simp
  have s2:W2.heap.size=w.heap.size+1+1:=by rw [hW2];simp [s1]
  have s3:W3.heap.size=w.heap.size+1+1+1:=by rw [hW3];simp [s2]
  have s4:W4.heap.size=w.heap.size+1+1+1+1:=by rw [hW4];simp [s3]
  have s5:W5.heap.size=w.heap.size+1+1+1+1+1:=by rw [hW5];simp [s4]
  have s6:W6.heap.size=w.heap.size+1+1+1+1+1+1:=by rw [hW6];simp [s5]
  have b0:Below w.heap.size w W1:=by rw [hW1];exact (Below.refl _ w).alloc (Nat.le_refl _) _
  have b1:Below W1.heap.size W1 W2:=by rw [hW2];exact (Below.refl _ W1).alloc (Nat.le_refl _) _
  have b2:Below W2.heap.size W2 W3:=by rw [hW3];exact (Below.refl _ W2).alloc (Nat.le_refl _) _
  have b3:Below W3.heap.size W3 W4:=by rw [hW4];exact (Below.refl _ W3).alloc (Nat.le_refl _) _
  have b4:Below W4.heap.size W4 W5:=by rw [hW5];exact (Below.refl _ W4).alloc (Nat.le_refl _) _
  have b5:Below W5.heap.size W5 W6:=by rw [hW6];exact (Below.refl _ W5).alloc (Nat.le_refl _) _
  have B1:Boxed W6 w.heap.size 30 (.pointer (some ⟨bg,0,none⟩)):=boxedB (boxedB (boxedB (boxedB (boxedB (by rw [hW1];exact Boxed.new w _ _) b1) b2) b3) b4) b5
  have B2:Boxed W6 (w.heap.size+1) 28 (.int .i64 0):=boxedB (boxedB (boxedB (boxedB (by rw [hW2,← s1];exact Boxed.new W1 _ _) b2) b3) b4) b5
  have B4:Boxed W6 (w.heap.size+1+1+1) 61 (.map (some (w.heap.size+1+1))):=boxedB (boxedB (by rw [hW4,← s3];exact Boxed.new W3 _ _) b4) b5
  have hm3:W3.heap[w.heap.size+1+1]?=some (.map #[] 0):=by rw [hW3,← s2];exact heap_alloc_new W2 _
  have hm5:W5.heap[w.heap.size+1+1]?=some (.map #[] 0):=(b4.block _ (by omega)).trans ((b3.block _ (by omega)).trans hm3)
  have hrg:=run_range_map (P:=Tryz.prog) W5 61 3 234 (w.heap.size+1+1) #[] 0 Tryz.underlying61 hm5
  have hnx:∀ ty,(Instr.next (.pointer (some ⟨W5.heap.size,0,none⟩)) false ty).run Tryz.prog (W5.alloc (.mapIter (some (w.heap.size+1+1)) 0 #[] 0))=.ok (.tuple #[.bool false]) (W5.alloc (.mapIter (some (w.heap.size+1+1)) 0 #[] 0)):=fun ty=>by
    rcases run_next_map (P:=Tryz.prog) W5 ty (w.heap.size+1+1) 0 0 #[] #[] 0 hm5 (by simp) (Nat.le_refl _) with ⟨-,h⟩ | ⟨e,he,-⟩
    · exact h
    · simp [leftOf] at he
  rw [← hW6,s5] at hrg hnx
  have HB6:=Lib.hid (b0.trans ((b1.mono b0.size).trans ((b2.mono (by omega)).trans ((b3.mono (by omega)).trans ((b4.mono (by omega)).trans (b5.mono (by omega)))))))
  have HB1:=Lib.hid B1
  have HB2:=Lib.hid B2
  have HB4:=Lib.hid B4
  have HS6:=Lib.hid s6
  have hw5:=Lib.hid (show ((((w.alloc (.cells #[.pointer (some ⟨bg,0,none⟩)] 30)).alloc (.cells #[.int .i64 0] 28)).alloc (.map #[] 0)).alloc (.cells #[.map (some (w.heap.size+1+1))] 61)).alloc (.map #[] 0)=W5 by rw [hW5,hW4,hW3,hW2,hW1])
  clear hW1 hW2 hW3 hW4 hW5 hW6 s1 s2 s3 s4 s5 s6 b0 b1 b2 b3 b4 b5 B1 B2 B4 hm3 hm5 W1 W2 W3 W4
  refine (callsIn_wide (n:=9)).1 ?_
  have h1:1≤9:=by omega
  refine callsIn_of_wp_marks Tryz.func117 rfl trivial ?_ rfl
  simp only [Tryz.ntmps117,List.size_toArray,List.length_cons,List.length_nil,Nat.reduceAdd,Nat.reduceSub,Array.replicate_succ,Array.replicate_zero,List.push_toArray,List.append_toArray,List.nil_append,List.cons_append]
  gi_wp2_with fail
  refine wpIn_loop_rounds 1 ?_
  rw [roundsIn_succ]
  gi_wp2_with fail
  refine wpIn_loop_rounds 1 ?_
  rw [roundsIn_succ]
  gi_wp2_with fail
  refine wpIn_loop_rounds 1 ?_
  rw [roundsIn_succ]
  gi_wp2_with fail
  rw [hw5.out,hrg]
  gi_wp2_with fail
  refine wpIn_loop_rounds 1 ?_
  rw [roundsIn_succ]
  gi_wp2_with fail
  refine ⟨trivial,(callsIn_wide.2 (sort_zero none 0 W6)).mono ?_⟩
  rintro e w7 ⟨⟨x,rfl⟩,rfl⟩
  gi_wp2_with fail
  refine ⟨trivial,(callsIn_wide.2 (backwardI_any none 0 0 w7)).mono ?_⟩
  rintro e w8 ⟨rfl,rfl⟩
  gi_wp2_with fail
  obtain ⟨W7,hW7⟩:∃ W7,W7=w7.alloc (.cells #[.slice none 0 0] 107):=⟨_,rfl⟩
  have HB7:Hid (Below w7.heap.size w7 W7):=Lib.hid (by rw [hW7];exact (Below.refl _ w7).alloc (Nat.le_refl _) _)
  have HS7:Hid (W7.heap.size=w7.heap.size+1):=Lib.hid (by rw [hW7];simp)
  have hbk:W7.cell? ⟨w7.heap.size,0,none⟩=some (.slice none 0 0):=by rw [hW7];exact cellNew rfl
  rw [← hW7]
  clear hW7
  refine wpIn_rangeFunc_ownH (F:=Fence.wide) rfl h1 (gf:=233) (lb:=#[.pointer (some ⟨w7.heap.size,0,none⟩)]) rfl trivial (enters_of Tryz.func233 (by kernel_rfl) rfl)
    (backI_none Fence.wide 8 trivial rfl w7.heap.size W7.heap.size 0 none W7 (by have:=HS7.out;omega) hbk) belowK_t (belowK_b (Nat.le_refl _)) (Below.refl _ _) (fun _=>rfl)
    (fun pre W=>Below W7.heap.size W7 W) (fun c pre W=>False) ?hI ?hIx (Below.refl _ _) (fun _ _ _=>True) ?hAx ?assign ?body ?done ?stop
  case hI=>exact ownFrom_below (Nat.le_refl _) (Nat.le_refl _)
  case hIx=>rintro c s A B row h - -;exact h
  case hAx=>rintro x a' s A B row - - -;trivial
  case assign =>
    rintro l pre x W K hp hK
    gi_wp2
    exact hK _ _ (KeepsFrom.refl _ _) (Below.refl _ _) hp trivial
  case body =>
    rintro l pre x a' W - - - - hlt
    exact absurd hlt (Nat.not_lt_zero _)
  case stop =>
    rintro D c pre W - hf
    exact hf.elim
  case done =>
    rintro D ys W hD rfl hB hK
    have hb2:Below w7.heap.size w7 W:=chainC HB7.out hB
    have hbw:Below w.heap.size w W:=HB6.out.trans (hb2.mono HB6.out.size)
    have b1:=boxedB HB1.out hb2
    have b2:=boxedB HB2.out hb2
    have c1:=b1.cell
    have c2:=b2.cell
    have f2:=b2.frozen
    have k3:W.cell? ⟨bg,3,none⟩=_:=keepC hbw HL.out
    have HH:=Lib.hid (H.out.below hbw)
    have HBW:=Lib.hid hbw
    have HB22:=Lib.hid b2
    have HKK:=Lib.hid hK
    clear hb2 hbw b1 b2 hB hK
    gi_wp2_with fail
    refine ⟨trivial,(callsIn_wide.2 (force_same HH.out HE.out)).mono ?_⟩
    rintro e w9 ⟨rfl,hb9⟩
    have b29:=boxedB HB22.out hb9
    have c29:=b29.cell
    have f29:=b29.frozen
    have HB9:=Lib.hid hb9
    have HB29:=Lib.hid b29
    have hK9:=Lib.hid ((hb9.block D (Array.getElem?_eq_some_iff.1 HKK.out).1).trans HKK.out)
    clear hb9 b29
    gi_wp2_with fail
    have hK6:(w9.setCell ⟨w.heap.size+1,0,none⟩ (.int .i64 0)).heap[D]?=some (.deferred (some [])):=(KeepsOthers.setCell _ _ _).same D _ hK9.out rfl
    have g2:Boxed (w9.setCell ⟨w.heap.size+1,0,none⟩ (.int .i64 0)) (w.heap.size+1) 28 (.int .i64 0):=HB29.out.set _
    refine ⟨by simp,.inl ⟨_,_,rfl,run_takeDeferred hK6,?_⟩⟩
    have hc2:=cell_kept g2.cell (grownBy_putObj' _ D (.deferred none)) (fun r e=>by cases e;exact ⟨_,hK6,rfl⟩)
    have hb5:Below w.heap.size w w9:=HBW.out.trans (HB9.out.mono HBW.out.size)
    refine ⟨.int .i64 0,?_,rfl,?_⟩
    · simp [results,Tryz.results117,go_sem,hc2]
    · exact (hb5.setCell (p:=⟨w.heap.size+1,0,none⟩) (by show w.heap.size≤w.heap.size+1;omega) _).trans (belowK_b (w:=w) (Nat.le_refl _) _ D _ _ (by have:=HB6.out.size;have:=HS7.out;omega) hK6 rfl rfl)
end Go.Proofs.YtheeomjfpnijbaaGreatDoor
end
section
namespace Go.Proofs.YtheeomjfpnijbaaGreatDoor
open Go.RowKit Go.Shelf
set_option maxRecDepth 20000 in
set_option maxHeartbeats 1000000 in
theorem poolNew_any {N:Zone} (bd bl n c fro pages buffers:Nat) (D:Nat→List UInt8) (L:LogV) (w:World) (hs:St w N bd bl n c D L) (h1:1≤pages) (h2:fro+pages≤n) (h3:1≤buffers) (h4:buffers≤64) :
    Calls Tryz.prog 114 #[.pointer (some ⟨bd,0,none⟩),.pointer (some ⟨bl,0,none⟩),.int .i64 fro,.int .i64 pages,.int .i64 buffers] w fun e w'=>∃ bp bm,e=.returned (.tuple #[.pointer (some ⟨bp,0,none⟩),.int .i64 0])∧PoolAt w' N bp bd bl bm fro pages buffers 0 []∧Below w.heap.size w w':=by
  obtain ⟨S,P,hd,hn,-,-⟩:=hs.disk
  have hsm:=hd.small
  rw [hn] at hsm
  have HD:=Lib.hid hd
  have HN:=Lib.hid hn
  have HS:=Lib.hid hs
  have hz:((n:Int) == 0)=false:=beq_eq_false_iff_ne.mpr (by omega)
  have hf:((L.first:Int) == 0)=false:=beq_eq_false_iff_ne.mpr (by have:=hs.lok.first.1;omega)
  have hmm:=@run_makeMap Tryz.prog
  obtain ⟨R,hR⟩:∃ R,R=n - fro:=⟨_,rfl⟩
  have hw:IntKind.i64.wrap ((n:Int) - (fro:Int))=(R:Int):=by rw [IntKind.wrap_i64];omega
  have hw':wrap64 ((n:Int) - (fro:Int))=(R:Int):=by rw [wrap64];omega
  have hpR:pages≤R:=by omega
  have hfn:fro≤n:=by omega
  have hp0:¬ pages=0:=by omega
  have hb0:¬ buffers=0:=by omega
  have HRR:=Lib.hid hR
  clear hs hd hn hR h2
  go_enter Tryz.func114,Tryz.ntmps114
  go_wp2_with fail
  refine (sectors_any bd S P _ HD.out).mono ?_
  rintro e w1 ⟨rfl,rfl⟩
  rw [HN.out]
  go_wp2_with fail
  refine (first_any HS.out.log).mono ?_
  rintro e w2 ⟨rfl,rfl⟩
  go_wp2_with fail
  go_returns
  have hb1:Below w2.heap.size w2 (w2.alloc (.map #[] 0)):=(Below.refl _ _).alloc (Nat.le_refl _) _
  refine ⟨w2.heap.size+1,w2.heap.size,rfl,⟨?_,?_,by simp,by simp,⟨by have:=HS.out.base;omega,HS.out.base,by simp⟩,by simp,by simp⟩,hb1.alloc (by simp) _⟩
  · have:=heap_alloc_new (w2.alloc (.map #[] 0)) (.cells #[.map (some w2.heap.size),.int .i64 0,.pointer (some ⟨bd,0,none⟩),.pointer (some ⟨bl,0,none⟩),.int .i64 fro,.int .i64 pages,.int .i64 buffers] 261)
    rw [World.size_alloc] at this
    exact this
  · exact (MapZ.made w2).upd (Upd.of_below' ((Below.refl (w2.alloc (.map #[] 0)).heap.size _).alloc (Nat.le_refl _) _) (fun _=>False)) (fun h=>h)
theorem encV_zero:encV 0 (zeros 112)=zeros 128:=by
  unfold encV
  rw [if_pos ⟨rfl,by decide⟩]
  rfl
def C0:Int→Nat × List UInt8:=fun _=>(0,zeros 112)
end Go.Proofs.YtheeomjfpnijbaaGreatDoor
end
section
namespace Go.Proofs.YtheeomjfpnijbaaGreatDoor
open Go.RowKit Go.Shelf
theorem start_any {F:Nat→Prop} {B bd bl n k:Nat} {w:World} {sv:Value} (hd:DiskAt w (zf B F) bd (zeroS n) []) (hl:LogAt w B bl bd 0 k 1 0 0 0 sv []) (hbl:B≤bl) (hsv:sv=.slice none 0 0) (hB:B≤w.heap.size) (hT:Halves w) (hg:0 < B) (hk:k≤n) :
    St w (zf B F) bd bl n 0 (fun _=>zeros 128) ⟨0,k,1,0,0,0,sv,[]⟩ where
  disk:=⟨zeroS n,[],hd,by simp [zeroS],by simp,fun i hi=>seen_zero hi⟩
  log:=hl
  lown:=fun g hg=>by rw [hsv] at hg;cases hg
  llow:=hbl
  lok:=⟨by simpa using hk,by simp,by simp,by simp,by simp,by simp⟩
  no:=fun k hk=>hk.elim
  halves:=hT
  hlow:=hg
  base:=hB
theorem startInv_any (fro pages:Nat):PInv fro pages (fun _=>zeros 128) [] C0 :=
  ⟨by simp,fun n _ _ _=>encV_zero.symm,fun n _ _=>⟨by simp [C0],by simp [C0,zeros]⟩⟩
def MgrC (bp bl pages ba:Nat):Obj:=.cells #[.int .i32 0,.int .u32 0,.pointer (some ⟨bp,0,none⟩),.pointer (some ⟨bl,0,none⟩),.int .i64 pages,.int .i64 0,.int .i64 0,.map (some ba)] 63 (0,0)
set_option maxRecDepth 20000 in
set_option maxHeartbeats 1000000 in
theorem ariesOpen_zero {F:Nat→Prop} (Z bd logs pages buffers n:Nat) (w:World) (hD:DiskAt w (zf Z F) bd (zeroS n) []) (hZ:Z≤w.heap.size) (hT:Halves w) (hg:0 < Z) (h1:1≤logs) (h2:1≤pages) (h3:logs+pages≤n) (h4:1≤buffers) (h5:buffers≤64) :
    Calls Tryz.prog 71 #[.pointer (some ⟨bd,0,none⟩),.int .i64 logs,.int .i64 pages,.int .i64 buffers] w fun e w'=>∃ bg bp bl bm ba:Nat,e=.returned (.tuple #[.pointer (some ⟨bg,0,none⟩),.int .i64 0]) ∧
      w'.heap[bg]?=some (MgrC bp bl pages ba)∧St w' (zf Z F) bd bl n 0 (fun _=>zeros 128) ⟨0,logs,1,0,0,0,.slice none 0 0,[]⟩∧PoolAt w' (zf Z F) bp bd bl bm logs pages buffers 0 []∧MapZ w' ba []∧Z≤bg∧Z≤ba∧ba ≠ bm∧Below w.heap.size w w':=by
  have HD:=Lib.hid hD
  have HT:=Lib.hid hT
  have HG:=Lib.hid hg
  have HZ:=Lib.hid hZ
  have HK:=Lib.hid h3
  have H12:=Lib.hid (And.intro h1 h2)
  have H45:=Lib.hid (And.intro h4 h5)
  have hmm:=@run_makeMap Tryz.prog
  clear hD hT hg hZ h1 h2 h3 h4 h5
  go_enter Tryz.func71,Tryz.ntmps71
  go_wp2_with fail
  refine (logOpen_zero Z bd 0 logs n _ HD.out H12.out.1 (by have:=HK.out;omega)).mono ?_
  rintro e w1 ⟨bl,rfl,hL,hbl,hb1⟩
  have HST:Hid (St w1 (zf Z F) bd bl n 0 (fun _=>zeros 128) ⟨0,logs,1,0,0,0,.slice none 0 0,[]⟩):=Lib.hid (start_any (HD.out.below hb1) ⟨hL.cells,World.ownsRow_nil _ _ _ _⟩ (Nat.le_trans HZ.out hbl) rfl (by have:=hb1.size;have:=HZ.out;omega) (HT.out.below hb1) HG.out (by have:=HK.out;omega))
  have HB1:=Lib.hid hb1
  have HBL:=Lib.hid hbl
  clear hL hb1 hbl
  go_wp2_with fail
  refine (poolNew_any bd bl n 0 logs pages buffers _ _ w1 HST.out H12.out.2 HK.out H45.out.1 H45.out.2).mono ?_
  rintro e w2 ⟨bp,bm,rfl,hP,hb2⟩
  have HP:=Lib.hid hP
  have HB2:=Lib.hid hb2
  clear hP hb2
  have h23:Below w2.heap.size w2 (w2.alloc (.map #[] 0)):=(Below.refl _ w2).alloc (Nat.le_refl _) _
  obtain ⟨W3,hW3⟩:∃ W,W=(w2.alloc (.map #[] 0)).alloc (MgrC bp bl pages w2.heap.size):=⟨_,rfl⟩
  have s3:W3.heap.size=w2.heap.size+1+1:=by rw [hW3];simp
  have h24:Below w2.heap.size w2 W3:=by rw [hW3];exact h23.alloc (by simp) _
  have m3:MapZ W3 w2.heap.size []:=by rw [hW3];exact (MapZ.made w2).upd (Upd.of_below' ((Below.refl (w2.alloc (.map #[] 0)).heap.size _).alloc (Nat.le_refl _) _) (fun _=>False)) (fun h=>h)
  have g3:W3.heap[w2.heap.size+1]?=some (MgrC bp bl pages w2.heap.size):=by
    have:=heap_alloc_new (w2.alloc (.map #[] 0)) (MgrC bp bl pages w2.heap.size)
    rw [World.size_alloc] at this
    rw [hW3];exact this
  have c6:W3.cell? ⟨w2.heap.size+1,6,none⟩=some (.int .i64 0):=by simp [World.cell?,g3,MgrC]
  have f6:W3.frozen? ⟨w2.heap.size+1,6,none⟩=false:=frozenC g3
  have g4:(W3.setCell ⟨w2.heap.size+1,6,none⟩ (.int .i64 0)).heap[w2.heap.size+1]?=some (MgrC bp bl pages w2.heap.size):=heap_setCell_same W3 (w2.heap.size+1) 6 _ _ _ g3
  have HW:=Lib.hid hW3
  have H24:=Lib.hid h24
  have HM3:=Lib.hid m3
  have HG3:=Lib.hid g3
  have HG4:=Lib.hid g4
  have HS3:=Lib.hid s3
  clear hW3 h23 h24 m3 g3 g4 s3
  go_wp2_with fail
  rw [show (w2.alloc (.map #[] 0)).alloc (.cells #[.int .i32 0,.int .u32 0,.pointer (some ⟨bp,0,none⟩),.pointer (some ⟨bl,0,none⟩),.int .i64 pages,.int .i64 0,.int .i64 0,.map (some w2.heap.size)] 63)=W3 from HW.out.symm]
  refine wp_loop_rounds 1 ?_
  rw [rounds_succ]
  go_wp2_with fail
  obtain ⟨W4,hW4⟩:∃ W,W=W3.setCell ⟨w2.heap.size+1,6,none⟩ (.int .i64 0):=⟨_,rfl⟩
  have g4:W4.heap[w2.heap.size+1]?=some (MgrC bp bl pages w2.heap.size):=by rw [hW4];exact HG4.out
  have k3:W4.cell? ⟨w2.heap.size+1,3,none⟩=some (.pointer (some ⟨bl,0,none⟩)):=by simp [World.cell?,g4,MgrC]
  have b4:Below w2.heap.size w2 W4:=by rw [hW4];exact H24.out.setCell (p:=⟨w2.heap.size+1,6,none⟩) (by show w2.heap.size≤w2.heap.size+1;omega) _
  have m4:MapZ W4 w2.heap.size []:=by rw [hW4];exact HM3.out.upd (Upd.setC W3 (w2.heap.size+1) 6 _) (by show ¬ w2.heap.size=w2.heap.size+1;omega)
  have st4:=(HST.out.below HB2.out).below b4
  have HP4:=Lib.hid (HP.out.below b4)
  have HG5:=Lib.hid g4
  have HM4:=Lib.hid m4
  have HB4:=Lib.hid b4
  have HS4:=Lib.hid st4
  rw [← hW4]
  clear hW4 g4 b4 m4 st4
  refine (recover_none (w2.heap.size+1) W4 k3 HS4.out.log rfl).mono ?_
  rintro e w5 ⟨rfl,hb5⟩
  have HB5:=Lib.hid hb5
  clear hb5
  go_wp2_with fail
  go_returns
  have hbm:=HP.out.map.lt
  have hsz:w.heap.size≤w2.heap.size:=Nat.le_trans HB1.out.size HB2.out.size
  have hz:=HZ.out
  refine ⟨w2.heap.size+1,bp,bl,bm,w2.heap.size,rfl,(HB5.out.block _ (Array.getElem?_eq_some_iff.1 HG5.out).1).trans HG5.out,HS4.out.below HB5.out,HP4.out.below HB5.out,HM4.out.upd (Upd.of_below' HB5.out (fun _=>False)) (fun h=>h),by omega,by omega,by omega,?_⟩
  exact HB1.out.trans ((HB2.out.mono HB1.out.size).trans ((HB4.out.mono hsz).trans (HB5.out.mono (Nat.le_trans hsz HB4.out.size))))
end Go.Proofs.YtheeomjfpnijbaaGreatDoor
end
