/- Lemmas: Bt5. -/
import Derived.Test.YtheeomjfpnijbaaGreatDoorZBa
set_option linter.unusedVariables false
namespace Go.Proofs.YtheeomjfpnijbaaGreatDoor
open Go.RowKit Go.Shelf
def metV (z:Met):Value:=.agg #[.int .i64 z.root,.int .i64 z.unused,.int .i64 z.free,.int .i64 z.levels]
theorem Met.pad_eq (z:Met):pad z.load=UInt8.ofNat z.root :: UInt8.ofNat (z.root / 256) :: UInt8.ofNat z.unused :: UInt8.ofNat (z.unused / 256) :: UInt8.ofNat z.free :: UInt8.ofNat (z.free / 256) :: UInt8.ofNat z.levels :: List.replicate 105 0:=by
  unfold pad Met.load le2
  rfl
theorem four_cells {w:World} {X:Nat} {t:TypeId} {a b c d:Value} (h:w.heap[X]?=some (.cells #[a,b,c,d] t (0,0))) :
    (w.cell? ⟨X,0,none⟩=some a∧w.cell? ⟨X,1,none⟩=some b∧w.cell? ⟨X,2,none⟩=some c∧w.cell? ⟨X,3,none⟩=some d)∧(w.frozen? ⟨X,0,none⟩=false∧w.frozen? ⟨X,1,none⟩=false∧w.frozen? ⟨X,2,none⟩=false∧w.frozen? ⟨X,3,none⟩=false)∧X < w.heap.size:=by
  refine ⟨⟨?_,?_,?_,?_⟩,⟨frozenC h,frozenC h,frozenC h,frozenC h⟩,(Array.getElem?_eq_some_iff.1 h).1⟩ <;> simp [World.cell?,h]
theorem met_new {V w:World} (h:Below (V.alloc (.cells #[.int .i64 0,.int .i64 0,.int .i64 0,.int .i64 0] 133)).heap.size (V.alloc (.cells #[.int .i64 0,.int .i64 0,.int .i64 0,.int .i64 0] 133)) w):w.heap[V.heap.size]?=some (.cells #[.int .i64 0,.int .i64 0,.int .i64 0,.int .i64 0] 133 (0,0)):=(h.block _ (by simp)).trans (heap_alloc_new V _)
theorem met_new2 {V w:World} (h:Below (V.alloc (.cells #[.int .i64 0,.int .i64 0,.int .i64 0,.int .i64 0] 133)).drew.heap.size (V.alloc (.cells #[.int .i64 0,.int .i64 0,.int .i64 0,.int .i64 0] 133)).drew w):w.heap[V.heap.size]?=some (.cells #[.int .i64 0,.int .i64 0,.int .i64 0,.int .i64 0] 133 (0,0)):=(h.block _ (by show _ < (V.alloc (.cells #[.int .i64 0,.int .i64 0,.int .i64 0,.int .i64 0] 133)).heap.size;simp)).trans (heap_alloc_new V _)
theorem met_old {a b:World} {X:Nat} {o:Obj} (h:a.heap[X]?=some o) (hb:Below a.heap.size a b):b.heap[X]?=some o:=(hb.block _ (Array.getElem?_eq_some_iff.1 h).1).trans h
theorem four_set {W:World} {X:Nat} {t:TypeId} {a b c d a' b' c' d':Value} (h:W.heap[X]?=some (.cells #[a,b,c,d] t (0,0))) :
    ((((W.setCell ⟨X,0,none⟩ a').setCell ⟨X,1,none⟩ b').setCell ⟨X,2,none⟩ c').setCell ⟨X,3,none⟩ d').heap[X]?=some (.cells #[a',b',c',d'] t (0,0)):=by
  have h1:=(heap_setCell_same W X 0 _ _ a' h).trans rfl
  have h2:=(heap_setCell_same _ X 1 _ _ b' h1).trans rfl
  have h3:=(heap_setCell_same _ X 2 _ _ c' h2).trans rfl
  exact (heap_setCell_same _ X 3 _ _ d' h3).trans rfl
theorem four_upd (W:World) (X:Nat) (a b c d:Value):Upd (fun j=>j=X) W ((((W.setCell ⟨X,0,none⟩ a).setCell ⟨X,1,none⟩ b).setCell ⟨X,2,none⟩ c).setCell ⟨X,3,none⟩ d) :=
  (((Upd.setC W X 0 a).tr (Upd.setC _ X 1 b)).tr (Upd.setC _ X 2 c)).tr (Upd.setC _ X 3 d)
theorem four_below {B:Nat} {w W:World} {X:Nat} {a' b' c' d':Value} (h:Below B w W) (hX:B≤X):Below B w ((((W.setCell ⟨X,0,none⟩ a').setCell ⟨X,1,none⟩ b').setCell ⟨X,2,none⟩ c').setCell ⟨X,3,none⟩ d') :=
  (((h.setCell (p:=⟨X,0,none⟩) hX _).setCell (p:=⟨X,1,none⟩) hX _).setCell (p:=⟨X,2,none⟩) hX _).setCell (p:=⟨X,3,none⟩) hX _
theorem Rd.dropN {w:World} {b o:Nat} {xs ys:List UInt8} (h:Rd w (some ⟨b,o,none⟩) xs) (i:Nat) (e:ys=xs.drop i):Rd w (some ⟨b,o+i,none⟩) ys:=e ▸ h.drop i
set_option maxRecDepth 20000 in
set_option maxHeartbeats 8000000 in
theorem tmeta_any {p:Par} {tx cap:Nat} {s:ASt} (z:Met) (w:World) (h:TM p tx cap w s) (ht:s.t≤800000) (hz:(pst s).F 0=pad z.load) (ho:MetOk p.pages z) :
    Calls Tryz.prog 42 #[.agg #[.pointer (some ⟨p.bg,0,none⟩),.int .i64 tx]] w fun e w'=>∃ s',e=.returned (.tuple #[metV z,.int .i64 0])∧TM p tx cap w' s'∧pst s'=pst s∧s'.t=s.t+1∧s'.N=s.N∧Step p s.N w s'.N w':=by
  have H:=Lib.hid h
  have HT:=Lib.hid ht
  have HZ:=Lib.hid hz
  have HO:=Lib.hid ho
  clear h ht hz ho
  go_enter Tryz.func42,Tryz.ntmps42
  go_upto_region 1 with fail
  obtain ⟨N,hN⟩:∃ N,N=w.heap.size:=⟨_,rfl⟩
  obtain ⟨W1,hW1⟩:∃ W1,W1=((w.alloc (.cells #[.pointer (some ⟨p.bg,0,none⟩),.int .i64 tx] 117)).alloc (.cells #[.int .i64 0,.int .i64 0,.int .i64 0,.int .i64 0] 133)):=⟨_,rfl⟩
  have n0:W1.heap[N]?=some (.cells #[.pointer (some ⟨p.bg,0,none⟩),.int .i64 tx] 117 (0,0)):=by rw [hW1,hN];exact alloc_at (heap_alloc_new w _)
  have n1:W1.heap[N+1]?=some (.cells #[.int .i64 0,.int .i64 0,.int .i64 0,.int .i64 0] 133 (0,0)):=by
    rw [hW1,hN]
    have:=heap_alloc_new (w.alloc (.cells #[.pointer (some ⟨p.bg,0,none⟩),.int .i64 tx] 117)) (.cells #[.int .i64 0,.int .i64 0,.int .i64 0,.int .i64 0] 133)
    rwa [World.size_alloc] at this
  have HB1:Hid (Below w.heap.size w W1):=Lib.hid (by rw [hW1];exact ((Below.refl _ w).alloc (Nat.le_refl _) _).alloc (by simp) _)
  rw [← hW1,← hN]
  have HNW:=Lib.hid hN
  have N0:=Lib.hid n0
  have N1:=Lib.hid n1
  have HM1:=Lib.hid (H.out.below HB1.out)
  have k0:W1.cell? ⟨N,0,none⟩=some (.pointer (some ⟨p.bg,0,none⟩)):=by simp [World.cell?,n0]
  have k1:W1.cell? ⟨N,1,none⟩=some (.int .i64 tx):=by simp [World.cell?,n0]
  have hNl:=cell_lt k0
  clear hN hW1 n0 n1
  go_wp2_with fail
  refine (tread_any 0 HM1.out (by have:=H.out.pages;omega) (by have:=HT.out;omega)).mono ?_
  rintro e w3 ⟨q3,d3,s3,rfl,ho3,hm3,hp3,ht3,hn3,hs3⟩
  obtain ⟨g,rfl,-,-,-⟩:=own_at1 ho3 (by omega)
  have hd3:112≤d3:=by obtain ⟨_,c',e',hc'⟩:=own_slice ho3;cases e';exact hc'
  obtain ⟨xs,hxs⟩:∃ xs,xs=pad z.load:=⟨_,rfl⟩
  have hF:(s.C ((0:Nat):Int)).2=xs:=by rw [hxs];exact HZ.out
  rw [hF] at ho3
  have t3:=HM1.out.keep hs3 N0.out (by decide)
  have u3:=HM1.out.keep hs3 N1.out (by decide)
  have m0:w3.cell? ⟨N,0,none⟩=some (.pointer (some ⟨p.bg,0,none⟩)):=by simp [World.cell?,t3]
  have hNl3:=cell_lt m0
  have hr3:=own_rdv ho3
  have HXS:=Lib.hid hxs
  have hE:=z.pad_eq
  rw [← hxs] at hE
  have HR3:=Lib.hid hr3
  have R0:Hid (Rd w3 (some ⟨g,0,none⟩) (UInt8.ofNat z.root :: UInt8.ofNat (z.root / 256) :: xs.drop 2)):=Lib.hid (by
    have e:xs=UInt8.ofNat z.root :: UInt8.ofNat (z.root / 256) :: xs.drop 2:=by rw [hE];rfl
    rw [← e];exact hr3)
  have R2:Hid (Rd w3 (some ⟨g,2,none⟩) (UInt8.ofNat z.unused :: UInt8.ofNat (z.unused / 256) :: xs.drop 4)):=Lib.hid (by
    have:=hr3.dropN 2 (ys:=UInt8.ofNat z.unused :: UInt8.ofNat (z.unused / 256) :: xs.drop 4) (by rw [hE];rfl)
    rwa [Nat.zero_add] at this)
  have R4:Hid (Rd w3 (some ⟨g,4,none⟩) (UInt8.ofNat z.free :: UInt8.ofNat (z.free / 256) :: xs.drop 6)):=Lib.hid (by
    have:=hr3.dropN 4 (ys:=UInt8.ofNat z.free :: UInt8.ofNat (z.free / 256) :: xs.drop 6) (by rw [hE];rfl)
    rwa [Nat.zero_add] at this)
  have R7:Hid (Rd w3 (some ⟨g,7,none⟩) (List.replicate 105 0)):=Lib.hid (by
    have:=hr3.dropN 7 (ys:=List.replicate 105 0) (by rw [hE];rfl)
    rwa [Nat.zero_add] at this)
  have hxl:xs.length=112:=by rw [hE];rfl
  have c6:w3.cell? ⟨g,6,none⟩=some (.int .u8 ((UInt8.ofNat z.levels).toNat:Int)):=by
    obtain ⟨b,o,e,hc⟩:=hr3.at (by omega)
    cases e
    have:=hc 6 (by omega)
    rw [show xs[6]'(by omega)=UInt8.ofNat z.levels from by simp only [hE];rfl,Nat.zero_add] at this
    exact this
  have HXL:=Lib.hid hxl
  have HM3:=Lib.hid hm3
  have HP3:=Lib.hid hp3
  have HT3:=Lib.hid ht3
  have HN3:=Lib.hid hn3
  have HS3:=Lib.hid ((Step.of_below HB1.out).trans hs3)
  have T3:=Lib.hid t3
  have U3:=Lib.hid u3
  have hlv:((UInt8.ofNat z.levels).toNat:Int)=(z.levels:Int):=by have:=HO.out.levels;simp;omega
  rw [hlv] at c6
  have hd3i:(112:Int)≤(d3:Int):=by omega
  have hgl:g < w3.heap.size:=cell_lt c6
  clear ho3 hm3 hp3 ht3 hn3 hs3 hxs hE hr3 hF t3 u3 k0 k1 hNl hxl hlv
  dsimp only
  go_upto_region 4 with fail
  go_cut [6] from 20 (fun v wx=>∃ g6:Nat,v=.pointer (some ⟨g6,0,none⟩)∧Hid (wx.heap[g6]?=some (.cells #[.int .i64 z.root,.int .i64 z.unused,.int .i64 z.free,.int .i64 z.levels] 133 (0,0))∧Below w3.heap.size w3 wx))
  case first =>
    have e1:Hid (num2 (UInt8.ofNat z.root) (UInt8.ofNat (z.root / 256))=z.root):=Lib.hid (num2_le2 (by have h1:=HO.out.root;have h2:=HO.out.unused;have h3:=H.out.pages;omega))
    have e2:Hid (num2 (UInt8.ofNat z.unused) (UInt8.ofNat (z.unused / 256))=z.unused):=Lib.hid (num2_le2 (by have h2:=HO.out.unused;have h3:=H.out.pages;omega))
    have e3:Hid (num2 (UInt8.ofNat z.free) (UInt8.ofNat (z.free / 256))=z.free):=Lib.hid (num2_le2 (by have h1:=HO.out.free;have h2:=HO.out.unused;have h3:=H.out.pages;omega))
    have HWV:Hid (IntKind.i64.wrap (z.levels:Int)=(z.levels:Int)):=Lib.hid (by have:=HO.out.levels;rw [IntKind.wrap_i64];omega)
    have ew:Hid (wrap64 (z.levels:Int)=(z.levels:Int)):=Lib.hid (by have:=HO.out.levels;unfold wrap64;omega)
    have hd2:¬ d3=2:=by omega
    have hd4:¬ d3=4:=by omega
    have hs2:(2:Int)≤112:=by omega
    have hs4:(4:Int)≤112:=by omega
    have hs6:(6:Nat) < 112:=by omega
    have R0':Hid (Rd w3.drew (some ⟨g,0,none⟩) (UInt8.ofNat z.root :: UInt8.ofNat (z.root / 256) :: xs.drop 2)):=Lib.hid (R0.out.drewN 1)
    have HL2:Hid ((xs.drop 2).length+2=112):=Lib.hid (by rw [List.length_drop,HXL.out])
    have HL4:Hid ((xs.drop 4).length+2=110):=Lib.hid (by rw [List.length_drop,HXL.out])
    have HL6:Hid ((xs.drop 6).length+2=108):=Lib.hid (by rw [List.length_drop,HXL.out])
    have G0:Hid (∀ W:World,Below w3.heap.size w3 W→Calls Tryz.prog 52 #[.slice (some ⟨g,0,none⟩) 112 d3] W fun e w'=>e=.returned (.int .i64 (z.root:Nat))∧Below W.heap.size W w'):=Lib.hid (fun W hW=>(get16_any (some ⟨g,0,none⟩) 112 d3 _ _ (xs.drop 2) W HL2.out (R0.out.below hW)).mono fun e w' h=>by rw [← e1.out];exact h)
    have G2:Hid (∀ W:World,Below w3.heap.size w3 W→Calls Tryz.prog 52 #[.slice (some ⟨g,2,none⟩) 110 (d3 - 2)] W fun e w'=>e=.returned (.int .i64 (z.unused:Nat))∧Below W.heap.size W w'):=Lib.hid (fun W hW=>(get16_any (some ⟨g,2,none⟩) 110 (d3 - 2) _ _ (xs.drop 4) W HL4.out (R2.out.below hW)).mono fun e w' h=>by rw [← e2.out];exact h)
    have G4:Hid (∀ W:World,Below w3.heap.size w3 W→Calls Tryz.prog 52 #[.slice (some ⟨g,4,none⟩) 108 (d3 - 4)] W fun e w'=>e=.returned (.int .i64 (z.free:Nat))∧Below W.heap.size W w'):=Lib.hid (fun W hW=>(get16_any (some ⟨g,4,none⟩) 108 (d3 - 4) _ _ (xs.drop 6) W HL6.out (R4.out.below hW)).mono fun e w' h=>by rw [← e3.out];exact h)
    have HT0:Hid (Below w3.heap.size w3 w3.drew):=Lib.hid (below_drewN' w3 1)
    have HT1:Hid (Below w3.heap.size w3 (w3.alloc (.cells #[.int .i64 0,.int .i64 0,.int .i64 0,.int .i64 0] 133)).drew):=Lib.hid ((Below.refl _ w3).alloc (Nat.le_refl _) _).drew
    go_region_law (first
      | (go_simp;go_at_call 52;with_reducible (show Calls _ _ #[.slice (some ⟨g,0,none⟩) 112 d3] _ _);refine (G0.out _ ?_).mono ?_;(first | exact HT0.out | exact HT1.out | exact HB4.out | exact HA4.out | exact HB5.out | exact HA5.out);rintro e w4 ⟨rfl,hb4⟩;have HB4:Hid (Below w3.heap.size w3 w4):=Lib.hid (chainC (by first | exact HT0.out | exact HT1.out | exact HB4.out | exact HA4.out | exact HB5.out | exact HA5.out) hb4);have HA4:Hid (Below w3.heap.size w3 (w4.alloc (.cells #[.int .i64 0,.int .i64 0,.int .i64 0,.int .i64 0] 133))):=Lib.hid (HB4.out.alloc HB4.out.size _);have c64:=keepC HB4.out c6;have hg4:=cell_lt c64;(first | (have hx4:=met_new2 hb4;obtain ⟨⟨a40,a41,a42,a43⟩,⟨b40,b41,b42,b43⟩,l4⟩:=four_cells hx4) | skip);clear hb4)
      | (go_simp;go_at_call 52;with_reducible (show Calls _ _ #[.slice (some ⟨g,2,none⟩) 110 (d3 - 2)] _ _);refine (G2.out _ ?_).mono ?_;(first | exact HT0.out | exact HT1.out | exact HB4.out | exact HA4.out | exact HB5.out | exact HA5.out);rintro e w5 ⟨rfl,hb5⟩;have HB5:Hid (Below w3.heap.size w3 w5):=Lib.hid (chainC (by first | exact HT0.out | exact HT1.out | exact HB4.out | exact HA4.out | exact HB5.out | exact HA5.out) hb5);have HA5:Hid (Below w3.heap.size w3 (w5.alloc (.cells #[.int .i64 0,.int .i64 0,.int .i64 0,.int .i64 0] 133))):=Lib.hid (HB5.out.alloc HB5.out.size _);have c65:=keepC HB5.out c6;have hg5:=cell_lt c65;(first | (have hx5:=met_new hb5;obtain ⟨⟨a50,a51,a52,a53⟩,⟨b50,b51,b52,b53⟩,l5⟩:=four_cells hx5) | (have hx5:=met_old hx4 hb5;obtain ⟨⟨a50,a51,a52,a53⟩,⟨b50,b51,b52,b53⟩,l5⟩:=four_cells hx5) | skip);clear hb5)
      | (go_simp;go_at_call 52;with_reducible (show Calls _ _ #[.slice (some ⟨g,4,none⟩) 108 (d3 - 4)] _ _);refine (G4.out _ ?_).mono ?_;(first | exact HT0.out | exact HT1.out | exact HB4.out | exact HA4.out | exact HB5.out | exact HA5.out);rintro e w6 ⟨rfl,hb6⟩;have HB6:Hid (Below w3.heap.size w3 w6):=Lib.hid (chainC (by first | exact HT0.out | exact HT1.out | exact HB4.out | exact HA4.out | exact HB5.out | exact HA5.out) hb6);have HA6:Hid (Below w3.heap.size w3 (w6.alloc (.cells #[.int .i64 0,.int .i64 0,.int .i64 0,.int .i64 0] 133))):=Lib.hid (HB6.out.alloc HB6.out.size _);have c66:=keepC HB6.out c6;have hg6:=cell_lt c66;(first | (have hx6:=met_new hb6;obtain ⟨⟨a60,a61,a62,a63⟩,⟨b60,b61,b62,b63⟩,l6⟩:=four_cells hx6) | (have hx6:=met_old hx5 hb6;obtain ⟨⟨a60,a61,a62,a63⟩,⟨b60,b61,b62,b63⟩,l6⟩:=four_cells hx6) | (have hx6:=met_old hx4 hb6;obtain ⟨⟨a60,a61,a62,a63⟩,⟨b60,b61,b62,b63⟩,l6⟩:=four_cells hx6) | skip);clear hb6))
    all_goals go_wp2
    all_goals go_meet
    all_goals
      rw [show IntKind.i64.wrap (z.levels:Int)=(z.levels:Int) from HWV.out]
      refine ⟨_,rfl,Lib.hid ⟨?_,?_⟩⟩
      · first | (with_reducible exact heap_alloc_new _ _) | (with_reducible exact four_set hx6)
      · first | (with_reducible exact HB6.out.alloc HB6.out.size _) | (with_reducible exact four_below HB6.out (by have h4:=HB4.out.size;have h5:=HB5.out.size;omega))
  case rest =>
    obtain ⟨g6,rfl,hc⟩:=hcut
    have h6:=hc.out.1
    have HB6:=Lib.hid hc.out.2
    obtain ⟨⟨a0,a1,a2,a3⟩,-,hl6⟩:=four_cells h6
    have R7':Hid (Rd wc (some ⟨g,7,none⟩) (List.replicate 105 0)):=Lib.hid (R7.out.below HB6.out)
    have t6:wc.heap[N]?=some (.cells #[.pointer (some ⟨p.bg,0,none⟩),.int .i64 tx] 117 (0,0)):=(HB6.out.block N hNl3).trans T3.out
    have HT6:=Lib.hid t6
    have H6:=Lib.hid h6
    have hd7:¬ d3=7:=by omega
    have hs7:(7:Int)≤112:=by omega
    clear hc h6 t6 c6 m0 hNl3 hgl
    go_wp2_with fail
    refine (containsZ_any (some ⟨g,7,none⟩) 105 (d3 - 7) _ R7'.out (by omega)).mono ?_
    rintro e w7 ⟨rfl,hb7⟩
    have HB7:Hid (Below w3.heap.size w3 w7):=Lib.hid (chainC HB6.out hb7)
    have x7:=met_old H6.out hb7
    have t7:=met_old HT6.out hb7
    obtain ⟨⟨b0,b1,b2,b3⟩,-,hl7⟩:=four_cells x7
    have k0:w7.cell? ⟨N,0,none⟩=some (.pointer (some ⟨p.bg,0,none⟩)):=by simp [World.cell?,t7]
    have hNl7:=cell_lt k0
    have HM7:=Lib.hid (HM3.out.below HB7.out)
    have X7:=Lib.hid x7
    have u7:=met_old U3.out HB7.out
    obtain ⟨⟨v0,v1,v2,v3⟩,⟨f0,f1,f2,f3⟩,hl8⟩:=four_cells u7
    have U7:=Lib.hid u7
    have hg1:decide ((z.unused:Int) < 1)=false:=decide_eq_false (by have:=HO.out.unused;omega)
    have hg2:decide ((z.unused:Int) > (p.pages:Int))=false:=decide_eq_false (by have:=HO.out.unused;omega)
    have hg3:decide ((z.root:Int) < 1)=false:=decide_eq_false (by have:=HO.out.root;omega)
    have hg4:decide ((z.root:Int) ≥ (z.unused:Int))=false:=decide_eq_false (by have:=HO.out.root;omega)
    have hg5:decide ((z.free:Int) ≥ (z.unused:Int))=false:=decide_eq_false (by have:=HO.out.free;omega)
    have hg6:decide ((z.levels:Int) < 1)=false:=decide_eq_false (by have:=HO.out.levels;omega)
    have hg7:decide ((z.levels:Int) > 20)=false:=decide_eq_false (by have:=HO.out.levels;omega)
    have hi2:decide (p.pages < z.unused)=false:=decide_eq_false (by have:=HO.out.unused;omega)
    have hi4:decide (z.unused≤z.root)=false:=decide_eq_false (by have:=HO.out.root;omega)
    have hi5:decide (z.unused≤z.free)=false:=decide_eq_false (by have:=HO.out.free;omega)
    have hi7:decide (20 < z.levels)=false:=decide_eq_false (by have:=HO.out.levels;omega)
    clear hb7 x7 t7 u7 a0 a1 a2 a3 hl6
    go_wp2_with fail
    have HMN:Hid (∀ n,TM p tx cap (w7.drewN n) s3):=Lib.hid (fun n=>HM7.out.below (below_drewN' w7 n))
    go_quiet ((go_at_call 50;exact Calls.quiet_of_same (pages_any (HMN.out _))))
    go_wp2
    have h9:(w7.drewN nq).heap[N+1]?=some (.cells #[.int .i64 0,.int .i64 0,.int .i64 0,.int .i64 0] 133 (0,0)):=U7.out
    have hx9:=four_set (a':=.int .i64 z.root) (b':=.int .i64 z.unused) (c':=.int .i64 z.free) (d':=.int .i64 z.levels) h9
    have hu9:=four_upd (w7.drewN nq) (N+1) (.int .i64 z.root) (.int .i64 z.unused) (.int .i64 z.free) (.int .i64 z.levels)
    revert hx9 hu9
    generalize (((((w7.drewN nq).setCell ⟨N+1,0,none⟩ (.int .i64 z.root)).setCell ⟨N+1,1,none⟩ (.int .i64 z.unused)).setCell ⟨N+1,2,none⟩ (.int .i64 z.free)).setCell ⟨N+1,3,none⟩ (.int .i64 z.levels))=W9
    intro hx9 hu9
    obtain ⟨⟨q0,q1,q2,q3⟩,-⟩:=four_cells hx9
    refine bodyPost_ret (v:=.tuple #[metV z,.int .i64 0]) (by simp [results,Tryz.results42,go_sem,q0,q1,q2,q3,metV]) rfl ⟨s3,rfl,?_,HP3.out,HT3.out,HN3.out,?_⟩
    · exact (HMN.out nq).turn hu9 (B:=w.heap.size) (by rw [HN3.out];exact H.out.base) (fun j hj=>by subst hj;exact ⟨by have:=HNW.out;omega,_,by decide,⟨_,h9⟩⟩)
    · exact (HS3.out.trans (Step.of_below (HB7.out.trans ((below_drewN' w7 nq).mono HB7.out.size)))).more hu9 (fun j hj=>by have:=HNW.out;omega)
end Go.Proofs.YtheeomjfpnijbaaGreatDoor
