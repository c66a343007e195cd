/- Lemmas: RefPz. -/
import Derived.Test.YtheeomjfpnijbaaGreatDoorZRe
set_option linter.unusedVariables false
namespace Go.Proofs.YtheeomjfpnijbaaGreatDoor
open Go.RowKit
set_option maxRecDepth 20000
section
variable {N:Nat→Prop} {q:RPar} {s:RSt}
end
theorem cells_of {w:World} {base n c:Nat} {q:Option Addr} {xs:List UInt8} (h:w.ownsRow base 5 1 (.slice q n c) n (B8s xs)):Cells w q (B8s xs):=rd_of h
theorem lit_below {w w':World} {X:Nat} {o:Obj} (h:w.heap[X]?=some o) (hb:Below w.heap.size w w'):w'.heap[X]?=some o:=(hb.block X (Array.getElem?_eq_some_iff.1 h).1).trans h
theorem lit_cells {w:World} {X lv:Nat} (hl:lv < 256) (h:w.heap[X]?=some (.cells #[.int .u8 (IntKind.u8.wrap (lv:Int))] 5 (0,0))):Cells w (some ⟨X,0,none⟩) (B8s [UInt8.ofNat lv]):=fun _=>⟨X,0,rfl,fun i v hv=>by
  have e:IntKind.u8.wrap (lv:Int)=((UInt8.ofNat lv).toNat:Int):=by
    rw [show (UInt8.ofNat lv).toNat=lv from by simp;omega]
    simp [IntKind.wrap,IntKind.bits,IntKind.signed]
    omega
  rw [e] at h
  rcases i with _ | i
  · simp only [B8s,List.map_cons,List.getElem?_cons_zero,Option.some.injEq] at hv
    subst hv
    exact cell_of_block5 h 0 rfl
  · simp [B8s] at hv⟩
theorem apart_new {w w':World} {base n m:Nat} {v u:Value} {xs ys:List Value} {e e':TypeId} {z z':Nat} (h:w.ownsRow base e z v n xs) (h':w'.ownsRow w.heap.size e' z' u m ys):∀ k,v.ownBlock=some k→u.ownBlock ≠ some k:=fun k h1 h2=>by
  have a:=(h.lt k h1).2
  have b:=(h'.lt k h2).1
  omega
theorem below_grown {W w w':World} {n z:Nat} {v:Value} {xs:List Value} {e:TypeId} (hb:Below W.heap.size W w) (ho:w.ownsRow W.heap.size e z v n xs) (hg:w.grownBy w' v.ownBlock):Below W.heap.size W w':=hb.grown hg hb.size (fun j hj=>(ho.lt j hj).1)
theorem own_grown {w w':World} {base n z:Nat} {v u:Value} {xs:List Value} {e:TypeId} (h:w.ownsRow base e z u n xs) (hd:∀ k,v.ownBlock=some k→u.ownBlock ≠ some k) (hg:w.grownBy w' v.ownBlock):w'.ownsRow base e z u n xs :=
  own_updO h (Upd.of_grown hg) (fun k hk _ ho _=>hd k hk.symm ho.symm)
theorem lit_grown {w w':World} {base n:Nat} {X:Nat} {x:Value} {v:Value} {xs:List Value} (h:w.heap[X]?=some (.cells #[x] 5 (0,0))) (ho:w.ownsRow base 5 1 v (n+2) xs) (hg:w.grownBy w' v.ownBlock):w'.heap[X]?=some (.cells #[x] 5 (0,0)):=by
  refine ((Upd.of_grown hg).block X (Array.getElem?_eq_some_iff.1 h).1 (fun e=>?_)).trans h
  rcases ho.2 with ⟨rfl,h0⟩ | ⟨g,cap,cur,rfl,hb,hh,h1,h2,h3,h4⟩
  · omega
  · have eg:X=g:=by simpa [Value.ownBlock] using e
    subst eg
    rw [h] at hh
    cases hh
    simp at h3
    omega
theorem b8s_app (a b:List UInt8):B8s (a++b)=B8s a++B8s b:=by simp [B8s]
section
variable {N:Nat→Prop} {q:RPar} {s:RSt}
set_option maxHeartbeats 4000000 in
theorem rputzero_any (r0 u0 f0 lv:Nat) (w:World) (h:RMgr N q w s) (hz:r0 < 65536∧u0 < 65536∧f0 < 65536∧lv < 256) (hp:1≤q.pages∧q.pages≤4096) (hR:Room6 q s) (hbs:s.bs.length≤30) :
    Calls Tryz.prog 83 #[.agg #[.pointer (some ⟨q.bn,0,none⟩),.int .i64 q.tx],.agg #[.int .i64 r0,.int .i64 u0,.int .i64 f0,.int .i64 lv]] w fun e w'=>e=.returned (.int .i64 0)∧TwQ N q w s 0 (pad (Met.load ⟨r0,u0,f0,lv⟩)) w':=by
  have H:=Lib.hid h
  have HZ:=Lib.hid hz
  obtain ⟨i0,hi0,hz0,hz1,hz2⟩:=info_parts info8
  have HR:=Lib.hid (And.intro hR (And.intro hp hbs))
  clear h hR hp hbs hz
  go_enter Tryz.func83,Tryz.ntmps83
  go_upto_region 1 with fail
  obtain ⟨T,hT⟩:∃ T,T=w.heap.size:=⟨_,rfl⟩
  obtain ⟨W,hW⟩:∃ W,W=(w.alloc (.cells #[.pointer (some ⟨q.bn,0,none⟩),.int .i64 q.tx] 33)).alloc (.cells #[.int .i64 r0,.int .i64 u0,.int .i64 f0,.int .i64 lv] 168):=⟨_,rfl⟩
  have hb1:Below w.heap.size w (w.alloc (.cells #[.pointer (some ⟨q.bn,0,none⟩),.int .i64 q.tx] 33)):=(Below.refl _ w).alloc (Nat.le_refl _) _
  have hbW:Below w.heap.size w W:=by rw [hW];exact hb1.alloc hb1.size _
  have n0:W.heap[T]?=some (.cells #[.pointer (some ⟨q.bn,0,none⟩),.int .i64 q.tx] 33 (0,0)):=by
    rw [hW,hT]
    exact (Below.heap_alloc _ _ _ (by simp)).trans (heap_alloc_new w _)
  have n1:W.heap[T+1]?=some (.cells #[.int .i64 r0,.int .i64 u0,.int .i64 f0,.int .i64 lv] 168 (0,0)):=by
    rw [hW,hT]
    have:=heap_alloc_new (w.alloc (.cells #[.pointer (some ⟨q.bn,0,none⟩),.int .i64 q.tx] 33)) (.cells #[.int .i64 r0,.int .i64 u0,.int .i64 f0,.int .i64 lv] 168)
    rwa [World.size_alloc] at this
  rw [← hW,← hT]
  have HMS:Hid (∀ w',Below W.heap.size W w'→(w'.cell? ⟨T,0,none⟩=some (.pointer (some ⟨q.bn,0,none⟩))∧w'.cell? ⟨T,1,none⟩=some (.int .i64 q.tx)∧w'.cell? ⟨T+1,0,none⟩=some (.int .i64 r0)∧w'.cell? ⟨T+1,1,none⟩=some (.int .i64 u0)∧w'.cell? ⟨T+1,2,none⟩=some (.int .i64 f0)∧w'.cell? ⟨T+1,3,none⟩=some (.int .i64 lv))):=Lib.hid (fun w' hb=>⟨keepC hb (cell_of_block5 n0 0 rfl),keepC hb (cell_of_block5 n0 1 rfl),keepC hb (cell_of_block5 n1 0 rfl),keepC hb (cell_of_block5 n1 1 rfl),keepC hb (cell_of_block5 n1 2 rfl),keepC hb (cell_of_block5 n1 3 rfl)⟩)
  have HBW:=Lib.hid hbW
  have HSW:Hid (∀ w1 w2,Below W.heap.size W w1→Upd (RS q w1) w1 w2→(w2.cell? ⟨T,0,none⟩=some (.pointer (some ⟨q.bn,0,none⟩))∧w2.cell? ⟨T,1,none⟩=some (.int .i64 q.tx)∧w2.cell? ⟨T+1,0,none⟩=some (.int .i64 r0)∧w2.cell? ⟨T+1,1,none⟩=some (.int .i64 u0)∧w2.cell? ⟨T+1,2,none⟩=some (.int .i64 f0)∧w2.cell? ⟨T+1,3,none⟩=some (.int .i64 lv))):=Lib.hid (fun w1 w2 hb hu=>by
    have a0:=(hb.block T (Array.getElem?_eq_some_iff.1 n0).1).trans n0
    have a1:=(hb.block (T+1) (Array.getElem?_eq_some_iff.1 n1).1).trans n1
    have m0:=(hu.block T (Array.getElem?_eq_some_iff.1 a0).1 (fun hk=>by rcases hk with ⟨-,hk | hk⟩ | ⟨-,hk | hk | hk⟩ <;> exact absurd (hk.one ⟨_,a0⟩) (by decide))).trans a0
    have m1:=(hu.block (T+1) (Array.getElem?_eq_some_iff.1 a1).1 (fun hk=>by rcases hk with ⟨-,hk | hk⟩ | ⟨-,hk | hk | hk⟩ <;> exact absurd (hk.one ⟨_,a1⟩) (by decide))).trans a1
    exact ⟨cell_of_block5 m0 0 rfl,cell_of_block5 m0 1 rfl,cell_of_block5 m1 0 rfl,cell_of_block5 m1 1 rfl,cell_of_block5 m1 2 rfl,cell_of_block5 m1 3 rfl⟩)
  have HWR:Hid (∀ (w1:World) (q1:Option Addr) (c1:Nat),Below W.heap.size W w1→w1.ownsRow W.heap.size 5 1 (.slice q1 7 c1) 7 (B8s (le2 r0++le2 u0++le2 f0++[UInt8.ofNat lv]))→Calls Tryz.prog 84 #[.agg #[.pointer (some ⟨q.bn,0,none⟩),.int .i64 q.tx],.int .i64 0,.slice q1 7 c1] w1 fun e w'=>e=.returned (.int .i64 0)∧TwQ N q w1 s 0 (pad (Met.load ⟨r0,u0,f0,lv⟩)) w'):=Lib.hid (fun w1 q1 c1 hb ho=>rtwrite_any 0 7 c1 q1 (le2 r0++le2 u0++le2 f0++[UInt8.ofNat lv]) w1 ((H.out.below HBW.out).below hb) HR.out.2.1.1 HR.out.2.1.2 HR.out.1 rfl (by omega) (Byt.own ho (fun k hk=>by have:=H.out.no k hk;have:=HBW.out.size;omega)) HR.out.2.2)
  have B0:Hid (Below W.heap.size W W.drew):=Lib.hid (Below.refl _ W).drew
  have S0:=Lib.hid (HMS.out _ B0.out)
  have BA:Hid (Below W.heap.size W (W.alloc (.cells #[.int .u8 (IntKind.u8.wrap (lv:Int))] 5)).drew):=Lib.hid ((Below.refl _ W).alloc (Nat.le_refl _) _).drew
  have SA:=Lib.hid (HMS.out _ BA.out)
  have LA:Hid ((W.alloc (.cells #[.int .u8 (IntKind.u8.wrap (lv:Int))] 5)).drew.heap[W.heap.size]?=some (.cells #[.int .u8 (IntKind.u8.wrap (lv:Int))] 5 (0,0))):=Lib.hid (heap_alloc_new W _)
  clear hT hW hb1 hbW n0 n1
  go_region_held3 (fun w'=>w'.cell? ⟨T,0,none⟩=some (.pointer (some ⟨q.bn,0,none⟩))∧w'.cell? ⟨T,1,none⟩=some (.int .i64 q.tx)∧w'.cell? ⟨T+1,0,none⟩=some (.int .i64 r0)∧w'.cell? ⟨T+1,1,none⟩=some (.int .i64 u0)∧w'.cell? ⟨T+1,2,none⟩=some (.int .i64 f0)∧w'.cell? ⟨T+1,3,none⟩=some (.int .i64 lv))
    (first | with_reducible exact S0.out | with_reducible exact SA.out | with_reducible exact S8.out | with_reducible exact S11.out | with_reducible exact S15.out | with_reducible exact S12.out | with_reducible exact S16.out | with_reducible exact S21.out | with_reducible exact HMS.out _ (B8.out.alloc B8.out.size _) | with_reducible exact HMS.out _ (B11.out.alloc B11.out.size _) | with_reducible exact HMS.out _ (B15.out.alloc B15.out.size _) | with_reducible exact HMS.out _ (B12.out.alloc B12.out.size _) | with_reducible exact HMS.out _ (B16.out.alloc B16.out.size _) | with_reducible exact HMS.out _ (B21.out.alloc B21.out.size _) | with_reducible exact SW.out)
    (first
      -- ARMS
      | (go_at_call 125;(with_reducible refine (rtwo_any r0 _ HZ.out.1).mono ?_);rintro e w8 ⟨v8,rfl,ho8,hb8⟩;obtain ⟨q8,c8,rfl,-⟩:=rown_sl ho8;have B8:Hid (Below W.heap.size W w8):=Lib.hid (by first | (with_reducible exact chainC B0.out hb8) | (with_reducible exact chainC (B0.out.alloc B0.out.size _) hb8) | (with_reducible exact chainC BA.out hb8));have S8:=Lib.hid (HMS.out _ B8.out);(first | (have HL:Hid (w8.heap[W.heap.size]?=some (.cells #[.int .u8 (IntKind.u8.wrap (lv:Int))] 5 (0,0))):=Lib.hid (by with_reducible exact lit_below LA.out hb8)) | skip);have O8:Hid (w8.ownsRow W.heap.size 5 1 (.slice q8 2 c8) 2 (B8s (le2 r0))):=Lib.hid (own_mono ho8 (by first | (with_reducible exact B0.out.size) | (with_reducible exact (B0.out.alloc B0.out.size _).size) | (with_reducible exact BA.out.size)));clear ho8 hb8)
      | (go_at_call 125;(with_reducible refine (rtwo_any u0 _ HZ.out.2.1).mono ?_);rintro e w11 ⟨v11,rfl,ho11,hb11⟩;obtain ⟨q11,c11,rfl,-⟩:=rown_sl ho11;have B11:Hid (Below W.heap.size W w11):=Lib.hid (by first | (with_reducible exact chainC B8.out hb11) | (with_reducible exact chainC (B8.out.alloc B8.out.size _) hb11));have S11:=Lib.hid (HMS.out _ B11.out);have D8_11:Hid (∀ k,(Value.slice q8 2 c8).ownBlock=some k→(Value.slice q11 2 c11).ownBlock ≠ some k):=Lib.hid (by first | (with_reducible exact apart_new O8.out ho11) | (with_reducible exact apart_new (O8.out.alloc _) ho11));have O8:=Lib.hid (by first | (with_reducible exact own_later O8.out hb11) | (with_reducible exact own_later (O8.out.alloc _) hb11));(first | (have HL:=Lib.hid (lit_below (by first | (with_reducible exact HL.out)) hb11)) | (have HL:Hid (w11.heap[w8.heap.size]?=some (.cells #[.int .u8 (IntKind.u8.wrap (lv:Int))] 5 (0,0))):=Lib.hid (by with_reducible exact lit_below (heap_alloc_new w8 _) hb11)) | skip);have O11:Hid (w11.ownsRow W.heap.size 5 1 (.slice q11 2 c11) 2 (B8s (le2 u0))):=Lib.hid (own_mono ho11 (by first | (with_reducible exact B8.out.size) | (with_reducible exact (B8.out.alloc B8.out.size _).size)));clear ho11 hb11)
      | (go_at_call 125;(with_reducible refine (rtwo_any f0 _ HZ.out.2.2.1).mono ?_);rintro e w15 ⟨v15,rfl,ho15,hb15⟩;obtain ⟨q15,c15,rfl,-⟩:=rown_sl ho15;have B15:Hid (Below W.heap.size W w15):=Lib.hid (by first | (with_reducible exact chainC B12.out hb15) | (with_reducible exact chainC (B12.out.alloc B12.out.size _) hb15));have S15:=Lib.hid (HMS.out _ B15.out);have D12_15:Hid (∀ k,(Value.slice q12 4 c12).ownBlock=some k→(Value.slice q15 2 c15).ownBlock ≠ some k):=Lib.hid (by first | (with_reducible exact apart_new O12.out ho15) | (with_reducible exact apart_new (O12.out.alloc _) ho15));have O12:=Lib.hid (by first | (with_reducible exact own_later O12.out hb15) | (with_reducible exact own_later (O12.out.alloc _) hb15));(first | (have HL:=Lib.hid (lit_below (by first | (with_reducible exact HL.out)) hb15)) | (have HL:Hid (w15.heap[w12.heap.size]?=some (.cells #[.int .u8 (IntKind.u8.wrap (lv:Int))] 5 (0,0))):=Lib.hid (by with_reducible exact lit_below (heap_alloc_new w12 _) hb15)) | skip);have O15:Hid (w15.ownsRow W.heap.size 5 1 (.slice q15 2 c15) 2 (B8s (le2 f0))):=Lib.hid (own_mono ho15 (by first | (with_reducible exact B12.out.size) | (with_reducible exact (B12.out.alloc B12.out.size _).size)));clear ho15 hb15)
      | (go_at_call 125;(with_reducible refine (rtwo_any f0 _ HZ.out.2.2.1).mono ?_);rintro e w15 ⟨v15,rfl,ho15,hb15⟩;obtain ⟨q15,c15,rfl,-⟩:=rown_sl ho15;have B15:Hid (Below W.heap.size W w15):=Lib.hid (by first | (with_reducible exact chainC B11.out hb15) | (with_reducible exact chainC (B11.out.alloc B11.out.size _) hb15));have S15:=Lib.hid (HMS.out _ B15.out);have D8_15:Hid (∀ k,(Value.slice q8 2 c8).ownBlock=some k→(Value.slice q15 2 c15).ownBlock ≠ some k):=Lib.hid (by first | (with_reducible exact apart_new O8.out ho15) | (with_reducible exact apart_new (O8.out.alloc _) ho15));have O8:=Lib.hid (by first | (with_reducible exact own_later O8.out hb15) | (with_reducible exact own_later (O8.out.alloc _) hb15));have D11_15:Hid (∀ k,(Value.slice q11 2 c11).ownBlock=some k→(Value.slice q15 2 c15).ownBlock ≠ some k):=Lib.hid (by first | (with_reducible exact apart_new O11.out ho15) | (with_reducible exact apart_new (O11.out.alloc _) ho15));have O11:=Lib.hid (by first | (with_reducible exact own_later O11.out hb15) | (with_reducible exact own_later (O11.out.alloc _) hb15));(first | (have HL:=Lib.hid (lit_below (by first | (with_reducible exact HL.out)) hb15)) | (have HL:Hid (w15.heap[w11.heap.size]?=some (.cells #[.int .u8 (IntKind.u8.wrap (lv:Int))] 5 (0,0))):=Lib.hid (by with_reducible exact lit_below (heap_alloc_new w11 _) hb15)) | skip);have O15:Hid (w15.ownsRow W.heap.size 5 1 (.slice q15 2 c15) 2 (B8s (le2 f0))):=Lib.hid (own_mono ho15 (by first | (with_reducible exact B11.out.size) | (with_reducible exact (B11.out.alloc B11.out.size _).size)));clear ho15 hb15)
      | (refine step_appv rfl (.tmp 8) (.tmp 11) 76 5 rfl i0 _ 1 1 W.heap.size 2 2 c11 Tryz.underlying76 hi0 hz0 hz1 hz2 rfl (by decide) (Value.slice q8 2 c8) (B8s (le2 r0)) (B8s (le2 u0)) q11 rfl rfl (by first | (with_reducible exact O8.out) | (with_reducible exact O8.out.alloc _)) rfl (by first | (with_reducible exact cells_of O11.out) | (with_reducible exact cells_of (O11.out.alloc _))) B8s_one (by simp [maxLen]) (by omega) (by first | (with_reducible exact B15.out.size) | (with_reducible exact (B15.out.alloc B15.out.size _).size)) ?_;intro v12 w12 ho12 hg12;obtain ⟨q12,c12,rfl,-⟩:=rown_sl ho12;have B12:Hid (Below W.heap.size W w12):=Lib.hid (by first | (with_reducible exact below_grown B15.out O8.out hg12) | (with_reducible exact below_grown (B15.out.alloc B15.out.size _) (O8.out.alloc _) hg12));have S12:=Lib.hid (HMS.out _ B12.out);have D15_12:Hid (∀ k,(Value.slice q15 2 c15).ownBlock=some k→True):=Lib.hid (fun _ _=>trivial);have O15:=Lib.hid (by first | (with_reducible exact own_grown O15.out D8_15.out hg12) | (with_reducible exact own_grown (O15.out.alloc _) D8_15.out hg12));(first | (have HL:=Lib.hid (by first | (with_reducible exact lit_grown HL.out O8.out hg12) | (with_reducible exact lit_grown HL.out (O8.out) hg12))) | (have HL:Hid (w12.heap[w15.heap.size]?=some (.cells #[.int .u8 (IntKind.u8.wrap (lv:Int))] 5 (0,0))):=Lib.hid (by with_reducible exact lit_grown (heap_alloc_new w15 _) (O8.out.alloc _) hg12)) | skip);have O12:Hid (w12.ownsRow W.heap.size 5 1 (.slice q12 4 c12) 4 (B8s (le2 r0++le2 u0))):=Lib.hid (by have:=ho12;rw [← b8s_app] at this;exact this);clear ho12 hg12)
      | (refine step_appv rfl (.tmp 8) (.tmp 11) 76 5 rfl i0 _ 1 1 W.heap.size 2 2 c11 Tryz.underlying76 hi0 hz0 hz1 hz2 rfl (by decide) (Value.slice q8 2 c8) (B8s (le2 r0)) (B8s (le2 u0)) q11 rfl rfl (by first | (with_reducible exact O8.out) | (with_reducible exact O8.out.alloc _)) rfl (by first | (with_reducible exact cells_of O11.out) | (with_reducible exact cells_of (O11.out.alloc _))) B8s_one (by simp [maxLen]) (by omega) (by first | (with_reducible exact B11.out.size) | (with_reducible exact (B11.out.alloc B11.out.size _).size)) ?_;intro v12 w12 ho12 hg12;obtain ⟨q12,c12,rfl,-⟩:=rown_sl ho12;have B12:Hid (Below W.heap.size W w12):=Lib.hid (by first | (with_reducible exact below_grown B11.out O8.out hg12) | (with_reducible exact below_grown (B11.out.alloc B11.out.size _) (O8.out.alloc _) hg12));have S12:=Lib.hid (HMS.out _ B12.out);(first | (have HL:=Lib.hid (by first | (with_reducible exact lit_grown HL.out O8.out hg12) | (with_reducible exact lit_grown HL.out (O8.out) hg12))) | (have HL:Hid (w12.heap[w11.heap.size]?=some (.cells #[.int .u8 (IntKind.u8.wrap (lv:Int))] 5 (0,0))):=Lib.hid (by with_reducible exact lit_grown (heap_alloc_new w11 _) (O8.out.alloc _) hg12)) | skip);have O12:Hid (w12.ownsRow W.heap.size 5 1 (.slice q12 4 c12) 4 (B8s (le2 r0++le2 u0))):=Lib.hid (by have:=ho12;rw [← b8s_app] at this;exact this);clear ho12 hg12)
      | (refine step_appv rfl (.tmp 12) (.tmp 15) 76 5 rfl i0 _ 1 1 W.heap.size 4 2 c15 Tryz.underlying76 hi0 hz0 hz1 hz2 rfl (by decide) (Value.slice q12 4 c12) (B8s (le2 r0++le2 u0)) (B8s (le2 f0)) q15 rfl rfl (by first | (with_reducible exact O12.out) | (with_reducible exact O12.out.alloc _)) rfl (by first | (with_reducible exact cells_of O15.out) | (with_reducible exact cells_of (O15.out.alloc _))) B8s_one (by simp [maxLen]) (by omega) (by first | (with_reducible exact B15.out.size) | (with_reducible exact (B15.out.alloc B15.out.size _).size)) ?_;intro v16 w16 ho16 hg16;obtain ⟨q16,c16,rfl,-⟩:=rown_sl ho16;have B16:Hid (Below W.heap.size W w16):=Lib.hid (by first | (with_reducible exact below_grown B15.out O12.out hg16) | (with_reducible exact below_grown (B15.out.alloc B15.out.size _) (O12.out.alloc _) hg16));have S16:=Lib.hid (HMS.out _ B16.out);(first | (have HL:=Lib.hid (by first | (with_reducible exact lit_grown HL.out O12.out hg16) | (with_reducible exact lit_grown HL.out (O12.out) hg16))) | (have HL:Hid (w16.heap[w15.heap.size]?=some (.cells #[.int .u8 (IntKind.u8.wrap (lv:Int))] 5 (0,0))):=Lib.hid (by with_reducible exact lit_grown (heap_alloc_new w15 _) (O12.out.alloc _) hg16)) | skip);have O16:Hid (w16.ownsRow W.heap.size 5 1 (.slice q16 6 c16) 6 (B8s (le2 r0++le2 u0++le2 f0))):=Lib.hid (by have:=ho16;rw [← b8s_app] at this;exact this);clear ho16 hg16)
      | (refine step_appv rfl (.tmp 12) (.tmp 15) 76 5 rfl i0 _ 1 1 W.heap.size 4 2 c15 Tryz.underlying76 hi0 hz0 hz1 hz2 rfl (by decide) (Value.slice q12 4 c12) (B8s (le2 r0++le2 u0)) (B8s (le2 f0)) q15 rfl rfl (by first | (with_reducible exact O12.out) | (with_reducible exact O12.out.alloc _)) rfl (by first | (with_reducible exact cells_of O15.out) | (with_reducible exact cells_of (O15.out.alloc _))) B8s_one (by simp [maxLen]) (by omega) (by first | (with_reducible exact B12.out.size) | (with_reducible exact (B12.out.alloc B12.out.size _).size)) ?_;intro v16 w16 ho16 hg16;obtain ⟨q16,c16,rfl,-⟩:=rown_sl ho16;have B16:Hid (Below W.heap.size W w16):=Lib.hid (by first | (with_reducible exact below_grown B12.out O12.out hg16) | (with_reducible exact below_grown (B12.out.alloc B12.out.size _) (O12.out.alloc _) hg16));have S16:=Lib.hid (HMS.out _ B16.out);(first | (have HL:=Lib.hid (by first | (with_reducible exact lit_grown HL.out O12.out hg16) | (with_reducible exact lit_grown HL.out (O12.out) hg16))) | (have HL:Hid (w16.heap[w12.heap.size]?=some (.cells #[.int .u8 (IntKind.u8.wrap (lv:Int))] 5 (0,0))):=Lib.hid (by with_reducible exact lit_grown (heap_alloc_new w12 _) (O12.out.alloc _) hg16)) | skip);have O16:Hid (w16.ownsRow W.heap.size 5 1 (.slice q16 6 c16) 6 (B8s (le2 r0++le2 u0++le2 f0))):=Lib.hid (by have:=ho16;rw [← b8s_app] at this;exact this);clear ho16 hg16)
      | (refine step_appv rfl (.tmp 16) (.tmp 20) 76 5 rfl i0 _ 1 1 W.heap.size 6 1 1 Tryz.underlying76 hi0 hz0 hz1 hz2 rfl (by decide) (Value.slice q16 6 c16) (B8s (le2 r0++le2 u0++le2 f0)) (B8s ([UInt8.ofNat lv])) _ rfl rfl (by first | (with_reducible exact O16.out) | (with_reducible exact O16.out.alloc _)) rfl (by first | (with_reducible exact lit_cells HZ.out.2.2.2 HL.out) | (with_reducible exact lit_cells HZ.out.2.2.2 (lit_below HL.out ((Below.refl _ _).alloc (Nat.le_refl _) _))) | (with_reducible exact lit_cells HZ.out.2.2.2 (heap_alloc_new _ _))) B8s_one (by simp [maxLen]) (by omega) (by first | (with_reducible exact B16.out.size) | (with_reducible exact (B16.out.alloc B16.out.size _).size)) ?_;intro v21 w21 ho21 hg21;obtain ⟨q21,c21,rfl,-⟩:=rown_sl ho21;have B21:Hid (Below W.heap.size W w21):=Lib.hid (by first | (with_reducible exact below_grown B16.out O16.out hg21) | (with_reducible exact below_grown (B16.out.alloc B16.out.size _) (O16.out.alloc _) hg21));have S21:=Lib.hid (HMS.out _ B21.out);have O21:Hid (w21.ownsRow W.heap.size 5 1 (.slice q21 7 c21) 7 (B8s (le2 r0++le2 u0++le2 f0++[UInt8.ofNat lv]))):=Lib.hid (by have:=ho21;rw [← b8s_app] at this;exact this);clear ho21 hg21)
      | (go_at_call 84;(with_reducible refine (HWR.out w21 q21 c21 B21.out O21.out).mono ?_);intro e w22 hq;obtain ⟨rfl,hq⟩:=hq;have HQ:=Lib.hid hq;have SW:=Lib.hid (by obtain ⟨_,_,_,hu⟩:=hq;exact HSW.out _ _ B21.out hu);clear hq)
      -- END
      | fail)
  all_goals go_wp2
  all_goals go_ret
  all_goals
    obtain ⟨s',h1,h2,h3⟩:=HQ.out
    exact ⟨rfl,s',h1,h2,RS.trans (RS.of (HBW.out.trans (B21.out.mono HBW.out.size))) h3⟩
end
end Go.Proofs.YtheeomjfpnijbaaGreatDoor
