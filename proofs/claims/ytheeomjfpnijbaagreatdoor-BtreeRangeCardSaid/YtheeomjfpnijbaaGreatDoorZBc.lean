/- Lemmas: Bt6, Bt7, Bt8, OwnRead, Bt10. -/
import Derived.Test.YtheeomjfpnijbaaGreatDoorBt5P
import Derived.Sort.Walk0
set_option linter.unusedVariables false
section
namespace Go.Proofs.YtheeomjfpnijbaaGreatDoor
open Go.RowKit Go.Shelf
theorem partsOf4 {w:World} {p1 p2 p3 p4:Option Addr} {n1 n2 n3 n4 c1 c2 c3 c4:Nat} {x1 x2 x3 x4:List UInt8} (h1:x1.length=n1) (h2:x2.length=n2) (h3:x3.length=n3) (h4:x4.length=n4) (r1:Rd w p1 x1) (r2:Rd w p2 x2) (r3:Rd w p3 x3) (r4:Rd w p4 x4) (t:TypeId) :
    PartsRd (w.alloc (.cells #[.slice p1 n1 c1,.slice p2 n2 c2,.slice p3 n3 c3,.slice p4 n4 c4] t)) (some ⟨w.heap.size,0,none⟩) [x1,x2,x3,x4]:=fun k hk=>by
  have hb:Below w.heap.size w (w.alloc (.cells #[.slice p1 n1 c1,.slice p2 n2 c2,.slice p3 n3 c3,.slice p4 n4 c4] t)):=(Below.refl _ w).alloc (Nat.le_refl _) _
  have hk3:k=0 ∨ k=1 ∨ k=2 ∨ k=3:=by simp at hk;omega
  have hc:∀ j v,#[Value.slice p1 n1 c1,.slice p2 n2 c2,.slice p3 n3 c3,.slice p4 n4 c4][j]?=some v→(w.alloc (.cells #[.slice p1 n1 c1,.slice p2 n2 c2,.slice p3 n3 c3,.slice p4 n4 c4] t)).cell? ⟨w.heap.size,0+j,none⟩=some v:=fun j v hj=>by
    rw [Nat.zero_add]
    simp only [World.cell?,heap_alloc_new]
    simpa using hj
  rcases hk3 with rfl | rfl | rfl | rfl
  · exact ⟨_,0,p1,c1,rfl,hc 0 _ (by subst h1;rfl),r1.below hb⟩
  · exact ⟨_,0,p2,c2,rfl,hc 1 _ (by subst h2;rfl),r2.below hb⟩
  · exact ⟨_,0,p3,c3,rfl,hc 2 _ (by subst h3;rfl),r3.below hb⟩
  · exact ⟨_,0,p4,c4,rfl,hc 3 _ (by subst h4;rfl),r4.below hb⟩
theorem keepM {w' w5:World} {a1 a2 b1 b2 b3 b4:Addr} {u1 u2 v1 v2 v3 v4:Value} (h:w'.cell? a1=some u1∧w'.cell? a2=some u2∧w'.cell? b1=some v1∧w'.cell? b2=some v2∧w'.cell? b3=some v3∧w'.cell? b4=some v4) (hb:Below w'.heap.size w' w5) :
    w5.cell? a1=some u1∧w5.cell? a2=some u2∧w5.cell? b1=some v1∧w5.cell? b2=some v2∧w5.cell? b3=some v3∧w5.cell? b4=some v4 :=
  ⟨keepC hb h.1,keepC hb h.2.1,keepC hb h.2.2.1,keepC hb h.2.2.2.1,keepC hb h.2.2.2.2.1,keepC hb h.2.2.2.2.2⟩
theorem keepMA {w':World} {o:Obj} {a1 a2 b1 b2 b3 b4:Addr} {u1 u2 v1 v2 v3 v4:Value} (h:w'.cell? a1=some u1∧w'.cell? a2=some u2∧w'.cell? b1=some v1∧w'.cell? b2=some v2∧w'.cell? b3=some v3∧w'.cell? b4=some v4) :
    (w'.alloc o).cell? a1=some u1∧(w'.alloc o).cell? a2=some u2∧(w'.alloc o).cell? b1=some v1∧(w'.alloc o).cell? b2=some v2∧(w'.alloc o).cell? b3=some v3∧(w'.alloc o).cell? b4=some v4 :=
  keepM h ((Below.refl _ w').alloc (Nat.le_refl _) o)
theorem boxes_cells {w:World} {N:Nat} {a b c d e f:Value} (h:w.heap[N]?=some (.cells #[a,b] 117 (0,0))) (h':w.heap[N+1]?=some (.cells #[c,d,e,f] 133 (0,0))) :
    w.cell? ⟨N,0,none⟩=some a∧w.cell? ⟨N,1,none⟩=some b∧w.cell? ⟨N+1,0,none⟩=some c∧w.cell? ⟨N+1,1,none⟩=some d∧w.cell? ⟨N+1,2,none⟩=some e∧w.cell? ⟨N+1,3,none⟩=some f:=by
  obtain ⟨⟨a0,a1,a2,a3⟩,-,-⟩:=four_cells h'
  exact ⟨by simp [World.cell?,h],by simp [World.cell?,h],a0,a1,a2,a3⟩
theorem Rd.alloc {w:World} {p:Option Addr} {xs:List UInt8} (h:Rd w p xs) (o:Obj):Rd (w.alloc o) p xs:=h.below ((Below.refl _ w).alloc (Nat.le_refl _) o)
theorem rd_lv (w:World) (n:Nat) (h:n < 256):Rd (w.alloc (.cells #[.int .u8 (IntKind.u8.wrap (n:Int))] 5)) (some ⟨w.heap.size,0,none⟩) [UInt8.ofNat n]:=fun _=>⟨_,0,rfl,fun i v hv=>by
  have e:IntKind.u8.wrap (n:Int)=((UInt8.ofNat n).toNat:Int):=by
    rw [show (UInt8.ofNat n).toNat=n from by simp;omega]
    simp [IntKind.wrap,IntKind.bits,IntKind.signed]
    omega
  rw [e]
  rcases i with _ | i
  · simp only [B8s,List.map_cons,List.getElem?_cons_zero,Option.some.injEq] at hv
    subst hv
    exact cellNew rfl
  · simp [B8s] at hv⟩
structure MetSz (z:Met):Prop where
  root:z.root < 65536
  unused:z.unused < 65536
  free:z.free < 65536
  levels:z.levels < 256
theorem Met.load_parts (z:Met):z.load=[le2 z.root,le2 z.unused,le2 z.free,[UInt8.ofNat z.levels]].flatten:=by simp [Met.load]
theorem parts_met {z:Met} {w4:World} {q2 q3 q4:Option Addr} {c2 c3 c4:Nat} (hz:MetSz z) (h2:Rd w4 q2 (le2 z.root)) (h3:Rd w4 q3 (le2 z.unused)) (h4:Rd w4 q4 (le2 z.free)) :
    PartsRd ((w4.alloc (.cells #[.int .u8 (IntKind.u8.wrap (z.levels:Int))] 5)).alloc (.cells #[.slice q2 2 c2,.slice q3 2 c3,.slice q4 2 c4,.slice (some ⟨w4.heap.size,0,none⟩) 1 1] 76)) (some ⟨w4.heap.size+1,0,none⟩) [le2 z.root,le2 z.unused,le2 z.free,[UInt8.ofNat z.levels]]:=by
  have:=partsOf4 (w:=w4.alloc (.cells #[.int .u8 (IntKind.u8.wrap (z.levels:Int))] 5)) (c1:=c2) (c2:=c3) (c3:=c4) (c4:=1) (n1:=2) (n2:=2) (n3:=2) (n4:=1) rfl rfl rfl rfl (h2.alloc _) (h3.alloc _) (h4.alloc _) (rd_lv w4 z.levels hz.levels) 76
  rwa [World.size_alloc] at this
set_option maxRecDepth 20000 in
set_option maxHeartbeats 8000000 in
theorem tsetmeta_any {p:Par} {tx cap:Nat} {s:ASt} (z:Met) (w:World) (h:TM p tx cap w s) (ht:s.t≤690000) (hz:MetSz z) :
    Calls Tryz.prog 53 #[.agg #[.pointer (some ⟨p.bg,0,none⟩),.int .i64 tx],metV z] w fun e w'=>∃ (c:Nat) (s':ASt),e=.returned (.int .i64 c)∧WriteR cap (pst s) 0 (pad z.load) c (pst s')∧TM p tx cap w' s'∧s'.t≤s.t+6∧Step p s.N w s'.N w':=by
  have H:=Lib.hid h
  have HT:=Lib.hid ht
  have HZ:=Lib.hid hz
  unfold metV
  clear h ht hz
  go_enter Tryz.func53,Tryz.ntmps53
  go_upto_region 1 with fail
  obtain ⟨N,hN⟩:∃ N,N=w.heap.size:=⟨_,rfl⟩
  obtain ⟨W1,hW1⟩:∃ W1,W1=((w.alloc (.cells #[.pointer (some ⟨p.bg,0,none⟩),.int .i64 tx] 117)).alloc (.cells #[.int .i64 z.root,.int .i64 z.unused,.int .i64 z.free,.int .i64 z.levels] 133)):=⟨_,rfl⟩
  have n0:W1.heap[N]?=some (.cells #[.pointer (some ⟨p.bg,0,none⟩),.int .i64 tx] 117 (0,0)):=by rw [hW1,hN];exact alloc_at (heap_alloc_new w _)
  have n1:W1.heap[N+1]?=some (.cells #[.int .i64 z.root,.int .i64 z.unused,.int .i64 z.free,.int .i64 z.levels] 133 (0,0)):=by
    rw [hW1,hN]
    have:=heap_alloc_new (w.alloc (.cells #[.pointer (some ⟨p.bg,0,none⟩),.int .i64 tx] 117)) (.cells #[.int .i64 z.root,.int .i64 z.unused,.int .i64 z.free,.int .i64 z.levels] 133)
    rwa [World.size_alloc] at this
  have HB1:Hid (Below w.heap.size w W1):=Lib.hid (by rw [hW1];exact ((Below.refl _ w).alloc (Nat.le_refl _) _).alloc (by simp) _)
  rw [← hW1,← hN]
  have HM1:=Lib.hid (H.out.below HB1.out)
  have HN0:=Lib.hid n0
  have HN1:=Lib.hid n1
  have S0:Hid (W1.drew.cell? ⟨N,0,none⟩=some (.pointer (some ⟨p.bg,0,none⟩))∧W1.drew.cell? ⟨N,1,none⟩=some (.int .i64 tx)∧W1.drew.cell? ⟨N+1,0,none⟩=some (.int .i64 z.root)∧W1.drew.cell? ⟨N+1,1,none⟩=some (.int .i64 z.unused)∧W1.drew.cell? ⟨N+1,2,none⟩=some (.int .i64 z.free)∧W1.drew.cell? ⟨N+1,3,none⟩=some (.int .i64 z.levels)):=Lib.hid (boxes_cells n0 n1)
  have HT0:Hid (Below W1.heap.size W1 W1.drew):=Lib.hid (below_drewN' W1 1)
  have HT1:Hid (Below W1.heap.size W1 (W1.alloc (.cells #[.int .u8 (IntKind.u8.wrap (z.levels:Int))] 5)).drew):=Lib.hid ((Below.refl _ W1).alloc (Nat.le_refl _) _).drew
  have S1:Hid ((W1.alloc (.cells #[.int .u8 (IntKind.u8.wrap (z.levels:Int))] 5)).drew.cell? ⟨N,0,none⟩=some (.pointer (some ⟨p.bg,0,none⟩))∧(W1.alloc (.cells #[.int .u8 (IntKind.u8.wrap (z.levels:Int))] 5)).drew.cell? ⟨N,1,none⟩=some (.int .i64 tx)∧(W1.alloc (.cells #[.int .u8 (IntKind.u8.wrap (z.levels:Int))] 5)).drew.cell? ⟨N+1,0,none⟩=some (.int .i64 z.root)∧(W1.alloc (.cells #[.int .u8 (IntKind.u8.wrap (z.levels:Int))] 5)).drew.cell? ⟨N+1,1,none⟩=some (.int .i64 z.unused)∧(W1.alloc (.cells #[.int .u8 (IntKind.u8.wrap (z.levels:Int))] 5)).drew.cell? ⟨N+1,2,none⟩=some (.int .i64 z.free)∧(W1.alloc (.cells #[.int .u8 (IntKind.u8.wrap (z.levels:Int))] 5)).drew.cell? ⟨N+1,3,none⟩=some (.int .i64 z.levels)):=Lib.hid (keepM (boxes_cells HN0.out HN1.out) ((Below.refl _ W1).alloc (Nat.le_refl _) _).drew)
  have HLL:Hid (Rd (W1.alloc (.cells #[.int .u8 (IntKind.u8.wrap (z.levels:Int))] 5)).drew (some ⟨W1.heap.size,0,none⟩) [UInt8.ofNat z.levels]):=Lib.hid ((rd_lv W1 z.levels HZ.out.levels).drewN 1)
  have HP:Hid (0 < p.pages):=Lib.hid H.out.pages.1
  have HS1:Hid (Step p s.N w s.N W1):=Lib.hid (Step.of_below HB1.out)
  clear hN hW1 n0 n1 HB1
  go_region_held3 (fun w'=>w'.cell? ⟨N,0,none⟩=some (.pointer (some ⟨p.bg,0,none⟩))∧w'.cell? ⟨N,1,none⟩=some (.int .i64 tx)∧w'.cell? ⟨N+1,0,none⟩=some (.int .i64 z.root)∧w'.cell? ⟨N+1,1,none⟩=some (.int .i64 z.unused)∧w'.cell? ⟨N+1,2,none⟩=some (.int .i64 z.free)∧w'.cell? ⟨N+1,3,none⟩=some (.int .i64 z.levels))
    (first | exact S0.out | exact S1.out | exact S2.out | exact S3.out | exact S4.out | exact S5.out | exact S6.out | exact keepMA (by assumption))
    (first
      | (go_at_call 95;(with_reducible refine (le16_any z.root _ HZ.out.root).mono ?_);rintro e w2 ⟨v2,rfl,ho2,hb2⟩;obtain ⟨q2,c2,rfl,-⟩:=own_slice ho2;have HB2:Hid (Below W1.heap.size W1 w2):=Lib.hid (by (first | (with_reducible exact chainC HT0.out hb2) | exact chainC HT1.out hb2));have S2:Hid (w2.cell? ⟨N,0,none⟩=some (.pointer (some ⟨p.bg,0,none⟩))∧w2.cell? ⟨N,1,none⟩=some (.int .i64 tx)∧w2.cell? ⟨N+1,0,none⟩=some (.int .i64 z.root)∧w2.cell? ⟨N+1,1,none⟩=some (.int .i64 z.unused)∧w2.cell? ⟨N+1,2,none⟩=some (.int .i64 z.free)∧w2.cell? ⟨N+1,3,none⟩=some (.int .i64 z.levels)):=Lib.hid (by (first | (with_reducible exact keepM S0.out hb2) | exact keepM S1.out hb2));(first | (have HL2:Hid (Rd w2 (some ⟨W1.heap.size,0,none⟩) [UInt8.ofNat z.levels]):=Lib.hid (by with_reducible exact Rd.below HLL.out hb2)) | skip);have HR2:=Lib.hid (own_rdv ho2);clear ho2 hb2)
      | (go_at_call 95;(with_reducible refine (le16_any z.unused _ HZ.out.unused).mono ?_);rintro e w3 ⟨v3,rfl,ho3,hb3⟩;obtain ⟨q3,c3,rfl,-⟩:=own_slice ho3;have HB3:Hid (Below W1.heap.size W1 w3):=Lib.hid (by (first | (with_reducible exact chainC HB2.out hb3) | exact chainC (HB2.out.alloc HB2.out.size _) hb3));have S3:Hid (w3.cell? ⟨N,0,none⟩=some (.pointer (some ⟨p.bg,0,none⟩))∧w3.cell? ⟨N,1,none⟩=some (.int .i64 tx)∧w3.cell? ⟨N+1,0,none⟩=some (.int .i64 z.root)∧w3.cell? ⟨N+1,1,none⟩=some (.int .i64 z.unused)∧w3.cell? ⟨N+1,2,none⟩=some (.int .i64 z.free)∧w3.cell? ⟨N+1,3,none⟩=some (.int .i64 z.levels)):=Lib.hid (by (first | (with_reducible exact keepM S2.out hb3) | exact keepM (keepMA S2.out) hb3));(first | (have HL3:=Lib.hid (HL2.out.below hb3)) | (have HL3:Hid (Rd w3 (some ⟨w2.heap.size,0,none⟩) [UInt8.ofNat z.levels]):=Lib.hid (by with_reducible exact Rd.below (rd_lv w2 z.levels HZ.out.levels) hb3)) | skip);have HR3:=Lib.hid (own_rdv ho3);have HR23:Hid (Rd w3 q2 (le2 z.root)):=Lib.hid (by first | (with_reducible exact Rd.below HR2.out hb3) | exact Rd.below (Rd.alloc HR2.out _) hb3);clear ho3 hb3)
      | (go_at_call 95;(with_reducible refine (le16_any z.free _ HZ.out.free).mono ?_);rintro e w4 ⟨v4,rfl,ho4,hb4⟩;obtain ⟨q4,c4,rfl,-⟩:=own_slice ho4;have HB4:Hid (Below W1.heap.size W1 w4):=Lib.hid (by (first | (with_reducible exact chainC HB3.out hb4) | exact chainC (HB3.out.alloc HB3.out.size _) hb4));have S4:Hid (w4.cell? ⟨N,0,none⟩=some (.pointer (some ⟨p.bg,0,none⟩))∧w4.cell? ⟨N,1,none⟩=some (.int .i64 tx)∧w4.cell? ⟨N+1,0,none⟩=some (.int .i64 z.root)∧w4.cell? ⟨N+1,1,none⟩=some (.int .i64 z.unused)∧w4.cell? ⟨N+1,2,none⟩=some (.int .i64 z.free)∧w4.cell? ⟨N+1,3,none⟩=some (.int .i64 z.levels)):=Lib.hid (by (first | (with_reducible exact keepM S3.out hb4) | exact keepM (keepMA S3.out) hb4));(first | (have HL4:=Lib.hid (HL3.out.below hb4)) | (have HL4:Hid (Rd w4 (some ⟨w3.heap.size,0,none⟩) [UInt8.ofNat z.levels]):=Lib.hid (by with_reducible exact Rd.below (rd_lv w3 z.levels HZ.out.levels) hb4)) | skip);have HR4:=Lib.hid (own_rdv ho4);have HR24:Hid (Rd w4 q2 (le2 z.root)):=Lib.hid (by first | (with_reducible exact Rd.below HR23.out hb4) | exact Rd.below (Rd.alloc HR23.out _) hb4);have HR34:Hid (Rd w4 q3 (le2 z.unused)):=Lib.hid (by first | (with_reducible exact Rd.below HR3.out hb4) | exact Rd.below (Rd.alloc HR3.out _) hb4);clear ho4 hb4)
      | (go_at_call 100;have HPT:Hid (PartsRd ((w4.alloc (.cells #[.int .u8 (IntKind.u8.wrap (z.levels:Int))] 5)).alloc (.cells #[.slice q2 2 c2,.slice q3 2 c3,.slice q4 2 c4,.slice (some ⟨w4.heap.size,0,none⟩) 1 1] 76)) (some ⟨w4.heap.size+1,0,none⟩) [le2 z.root,le2 z.unused,le2 z.free,[UInt8.ofNat z.levels]]):=Lib.hid (parts_met HZ.out HR24.out HR34.out HR4.out);(with_reducible refine (concat_any (some ⟨w4.heap.size+1,0,none⟩) 4 4 [le2 z.root,le2 z.unused,le2 z.free,[UInt8.ofNat z.levels]] _ rfl (by decide) HPT.out (by simp [le2])).mono ?_);rintro e w5 ⟨v5,rfl,ho5,hb5⟩;rw [← z.load_parts] at ho5;obtain ⟨q5,c5,rfl,-⟩:=own_slice ho5;have S5:Hid (w5.cell? ⟨N,0,none⟩=some (.pointer (some ⟨p.bg,0,none⟩))∧w5.cell? ⟨N,1,none⟩=some (.int .i64 tx)∧w5.cell? ⟨N+1,0,none⟩=some (.int .i64 z.root)∧w5.cell? ⟨N+1,1,none⟩=some (.int .i64 z.unused)∧w5.cell? ⟨N+1,2,none⟩=some (.int .i64 z.free)∧w5.cell? ⟨N+1,3,none⟩=some (.int .i64 z.levels)):=Lib.hid (keepM (keepMA (keepMA S4.out)) hb5);have HB5:Hid (Below W1.heap.size W1 w5):=Lib.hid (chainC ((HB4.out.alloc HB4.out.size _).alloc (by have:=HB4.out.size;simp;omega) _) hb5);have HR5:=Lib.hid (own_rdv ho5);clear ho5 hb5)
      | (go_at_call 100;have HPT:=Lib.hid (partsOf4 (c1:=c2) (c2:=c3) (c3:=c4) (c4:=1) (n1:=2) (n2:=2) (n3:=2) (n4:=1) rfl rfl rfl rfl HR24.out HR34.out HR4.out HL4.out 76);(with_reducible refine (concat_any (some ⟨w4.heap.size,0,none⟩) 4 4 [le2 z.root,le2 z.unused,le2 z.free,[UInt8.ofNat z.levels]] _ rfl (by decide) HPT.out (by simp [le2])).mono ?_);rintro e w5 ⟨v5,rfl,ho5,hb5⟩;rw [← z.load_parts] at ho5;obtain ⟨q5,c5,rfl,-⟩:=own_slice ho5;have S5:Hid (w5.cell? ⟨N,0,none⟩=some (.pointer (some ⟨p.bg,0,none⟩))∧w5.cell? ⟨N,1,none⟩=some (.int .i64 tx)∧w5.cell? ⟨N+1,0,none⟩=some (.int .i64 z.root)∧w5.cell? ⟨N+1,1,none⟩=some (.int .i64 z.unused)∧w5.cell? ⟨N+1,2,none⟩=some (.int .i64 z.free)∧w5.cell? ⟨N+1,3,none⟩=some (.int .i64 z.levels)):=Lib.hid (keepM (keepMA S4.out) hb5);have HB5:Hid (Below W1.heap.size W1 w5):=Lib.hid (chainC (HB4.out.alloc HB4.out.size _) hb5);have HR5:=Lib.hid (own_rdv ho5);clear ho5 hb5)
      | (go_at_call 45;refine (twrite_any 0 7 c5 q5 z.load _ (HM1.out.below HB5.out) HP.out (by have:=HT.out;omega) rfl (by decide) HR5.out).mono ?_;rintro e w6 ⟨c6,s6,rfl,hw6,hm6,ht6,hs6⟩;have HW6:=Lib.hid hw6;have HM6:=Lib.hid hm6;have HT6:=Lib.hid ht6;have HS6:=Lib.hid hs6;have S6:Hid (w6.cell? ⟨N,0,none⟩=some (.pointer (some ⟨p.bg,0,none⟩))∧w6.cell? ⟨N,1,none⟩=some (.int .i64 tx)∧w6.cell? ⟨N+1,0,none⟩=some (.int .i64 z.root)∧w6.cell? ⟨N+1,1,none⟩=some (.int .i64 z.unused)∧w6.cell? ⟨N+1,2,none⟩=some (.int .i64 z.free)∧w6.cell? ⟨N+1,3,none⟩=some (.int .i64 z.levels)):=Lib.hid (boxes_cells ((HM1.out.below HB5.out).keep HS6.out (met_old HN0.out HB5.out) (by decide)) ((HM1.out.below HB5.out).keep HS6.out (met_old HN1.out HB5.out) (by decide)));clear hw6 hm6 ht6 hs6))
  all_goals go_wp2
  all_goals go_ret
  all_goals exact ⟨c6,s6,rfl,HW6.out,HM6.out,HT6.out,(HS1.out.trans (Step.of_below HB5.out)).trans HS6.out⟩
end Go.Proofs.YtheeomjfpnijbaaGreatDoor
end
section
namespace Go.Proofs.YtheeomjfpnijbaaGreatDoor
open Go.RowKit Go.Shelf
def treeV (p:Par) (tx:Nat):Value:=.agg #[.pointer (some ⟨p.bg,0,none⟩),.int .i64 tx]
theorem made_any {p:Par} {tx cap:Nat} {s:ASt} (w:World) (h:TM p tx cap w s) :
    Calls Tryz.prog 37 #[.pointer (some ⟨p.bg,0,none⟩),.int .i64 tx] w fun e w'=>e=.returned (.tuple #[treeV p tx,.int .i64 0])∧Below w.heap.size w w':=by
  have H:=Lib.hid h
  have hp:((p.pages:Int) == 0)=false:=by rw [beq_eq_false_iff_ne];have:=h.pages;omega
  clear h
  have HM:=Lib.hid (H.out.below ((Below.refl w.heap.size w).alloc (Nat.le_refl _) (.cells #[.pointer none,.int .i64 0] 117)))
  have hb:Below w.heap.size w (w.alloc (.cells #[.pointer (some ⟨p.bg,0,none⟩),.int .i64 tx] 117)):=(Below.refl _ w).alloc (Nat.le_refl _) _
  have q0:(w.alloc (.cells #[.pointer (some ⟨p.bg,0,none⟩),.int .i64 tx] 117)).cell? ⟨w.heap.size,0,none⟩=some (.pointer (some ⟨p.bg,0,none⟩)):=cellNew rfl
  have q1:(w.alloc (.cells #[.pointer (some ⟨p.bg,0,none⟩),.int .i64 tx] 117)).cell? ⟨w.heap.size,1,none⟩=some (.int .i64 tx):=cellNew rfl
  go_enter Tryz.func37,Tryz.ntmps37
  go_wp2_with fail
  refine (pages_any HM.out).mono ?_
  rintro e w1 ⟨rfl,rfl⟩
  go_wp2
  refine bodyPost_ret (v:=.tuple #[treeV p tx,.int .i64 0]) (by simp [results,Tryz.results37,go_sem,q0,q1,treeV]) rfl ⟨rfl,hb⟩
def InitR (cap:Nat) (a:PSt) (c:Nat) (b':PSt):Prop :=
  ∃ e b,WriteR cap a 0 (pad (Met.load ⟨1,2,0,1⟩)) e b∧((e ≠ 0∧c=e∧b'=b) ∨ (e=0∧WriteR cap b 1 (pad [1,0]) c b'))
set_option maxRecDepth 20000 in
set_option maxHeartbeats 4000000 in
theorem tinit_any {p:Par} {tx cap:Nat} {s:ASt} (w:World) (h:TM p tx cap w s) (ht:s.t≤600000) (hp:2≤p.pages) :
    Calls Tryz.prog 18 #[.pointer (some ⟨p.bg,0,none⟩),.int .i64 tx] w fun e w'=>∃ (c:Nat) (s':ASt),e=.returned (.int .i64 c)∧InitR cap (pst s) c (pst s')∧TM p tx cap w' s'∧s'.t≤s.t+12∧Step p s.N w s'.N w':=by
  have H:=Lib.hid h
  have HT:=Lib.hid ht
  have HP:=Lib.hid hp
  clear h ht hp
  go_enter Tryz.func18,Tryz.ntmps18
  go_wp2_with fail
  refine (made_any _ H.out).mono ?_
  rintro e w1 ⟨rfl,hb1⟩
  unfold treeV
  have hal:Below w.heap.size w (w1.alloc (.cells #[.pointer (some ⟨p.bg,0,none⟩),.int .i64 tx] 117)):=hb1.alloc hb1.size _
  have HB1:=Lib.hid hal
  have HM1:=Lib.hid (H.out.below hal)
  have hpd:decide ((p.pages:Int) < 2)=false:=decide_eq_false (by have:=HP.out;omega)
  have hpd':decide (p.pages < 2)=false:=decide_eq_false (by have:=HP.out;omega)
  clear hal hb1
  go_wp2_with fail
  refine (pages_any HM1.out).mono ?_
  rintro e w2 ⟨rfl,rfl⟩
  obtain ⟨g,hg⟩:∃ g,g=w1.heap.size:=⟨_,rfl⟩
  obtain ⟨W1,hW1⟩:∃ W1,W1=w1.alloc (.cells #[.pointer (some ⟨p.bg,0,none⟩),.int .i64 tx] 117):=⟨_,rfl⟩
  have n0:W1.heap[g]?=some (.cells #[.pointer (some ⟨p.bg,0,none⟩),.int .i64 tx] 117 (0,0)):=by rw [hW1,hg];exact heap_alloc_new w1 _
  rw [← hW1] at HB1 HM1 ⊢
  rw [← hg]
  have k0:W1.cell? ⟨g,0,none⟩=some (.pointer (some ⟨p.bg,0,none⟩)):=by simp [World.cell?,n0]
  have k1:W1.cell? ⟨g,1,none⟩=some (.int .i64 tx):=by simp [World.cell?,n0]
  have hgl:=cell_lt k0
  have N0:=Lib.hid n0
  clear hg hW1 n0
  go_wp2_with fail
  refine (tsetmeta_any ⟨1,2,0,1⟩ _ HM1.out (by have:=HT.out;omega) ⟨by decide,by decide,by decide,by decide⟩).mono ?_
  rintro e w3 ⟨c3,s3,rfl,hw3,hm3,ht3,hs3⟩
  have t3:=HM1.out.keep hs3 N0.out (by decide)
  have HW3:=Lib.hid hw3
  have HM3:=Lib.hid hm3
  have HT3:=Lib.hid ht3
  have HS3:=Lib.hid ((Step.of_below HB1.out).trans hs3)
  have m0:w3.cell? ⟨g,0,none⟩=some (.pointer (some ⟨p.bg,0,none⟩)):=by simp [World.cell?,t3]
  have m1:w3.cell? ⟨g,1,none⟩=some (.int .i64 tx):=by simp [World.cell?,t3]
  have hgl3:=cell_lt m0
  have T3:=Lib.hid t3
  clear hw3 hm3 ht3 hs3 t3 k0 k1 hgl
  by_cases hc:c3=0
  · subst hc
    go_wp2_with fail
    have S0:Hid (w3.drew.cell? ⟨g,0,none⟩=some (.pointer (some ⟨p.bg,0,none⟩))∧w3.drew.cell? ⟨g,1,none⟩=some (.int .i64 tx)):=Lib.hid ⟨m0,m1⟩
    go_region_held3 (fun w'=>w'.cell? ⟨g,0,none⟩=some (.pointer (some ⟨p.bg,0,none⟩))∧w'.cell? ⟨g,1,none⟩=some (.int .i64 tx))
      (first | exact S0.out | exact S4.out | exact S5.out)
      (first
        | (go_at_call 46;refine (load_any ⟨0,true,0,[]⟩ none 0 _ (by simp) (by simp) (by decide) (Cells.nil _ _)).mono ?_;rintro e w4 ⟨v4,rfl,ho4,hb4⟩;have ho4:w4.ownsRow w3.drew.heap.size 5 1 v4 2 (B8s [1,0]):=ho4;obtain ⟨q4,c4,rfl,-⟩:=own_slice ho4;have HR4:=Lib.hid (own_rdv ho4);have S4:=Lib.hid (And.intro (keepC hb4 S0.out.1) (keepC hb4 S0.out.2));have HB4:Hid (Below w3.heap.size w3 w4):=Lib.hid (chainC (below_drewN' w3 1) hb4);have HM4:=Lib.hid (HM3.out.below HB4.out);clear ho4 hb4)
        | (go_at_call 45;refine (twrite_any 1 2 c4 q4 [1,0] _ HM4.out (by have:=HP.out;omega) (by have:=HT.out;have:=HT3.out;omega) rfl (by decide) HR4.out).mono ?_;rintro e w5 ⟨c5,s5,rfl,hw5,hm5,ht5,hs5⟩;have HW5:=Lib.hid hw5;have HM5:=Lib.hid hm5;have HT5:=Lib.hid ht5;have HS5:=Lib.hid hs5;have X5:=HM4.out.keep hs5 (met_old T3.out HB4.out) (by decide);have S5:Hid (w5.cell? ⟨g,0,none⟩=some (.pointer (some ⟨p.bg,0,none⟩))∧w5.cell? ⟨g,1,none⟩=some (.int .i64 tx)):=Lib.hid ⟨by simp [World.cell?,X5],by simp [World.cell?,X5]⟩;clear hw5 hm5 ht5 hs5 X5))
    go_wp2
    go_ret
    exact ⟨c5,s5,rfl,⟨0,pst s3,HW3.out,.inr ⟨rfl,HW5.out⟩⟩,HM5.out,by have:=HT3.out;have:=HT5.out;omega,(HS3.out.trans (Step.of_below HB4.out)).trans HS5.out⟩
  · have hcb:((c3:Int) != 0)=true:=by simp;omega
    go_wp2_with fail
    go_ret
    exact ⟨c3,s3,rfl,⟨c3,pst s3,HW3.out,.inl ⟨hc,rfl,rfl⟩⟩,HM3.out,by have:=HT3.out;omega,HS3.out⟩
end Go.Proofs.YtheeomjfpnijbaaGreatDoor
end
section
namespace Go.Proofs.YtheeomjfpnijbaaGreatDoor
open Go.RowKit Go.Shelf
theorem two_of {xs:List UInt8} (h:xs.length=112):∃ x y tl,xs=x :: y :: tl∧tl.length=110:=by
  match xs,h with
  | x :: y :: tl,h=>exact ⟨x,y,tl,rfl,by simpa using h⟩
theorem MetOk.sz {P:Nat} {z:Met} (h:MetOk P z) (hP:P≤4096):MetSz z :=
  ⟨by have:=h.root;have:=h.unused;omega,by have:=h.unused;omega,by have:=h.free;have:=h.unused;omega,by have:=h.levels;omega⟩
theorem boxes8 {W:World} {N X:Nat} {t1 t2:TypeId} {a b c d e f:Value} (h1:W.heap[N]?=some (.cells #[a,b] t1 (0,0))) (h2:W.heap[X]?=some (.cells #[c,d,e,f] t2 (0,0))) :
    W.cell? ⟨N,0,none⟩=some a∧W.cell? ⟨N,1,none⟩=some b∧W.cell? ⟨X,0,none⟩=some c∧W.cell? ⟨X,1,none⟩=some d∧W.cell? ⟨X,2,none⟩=some e∧W.cell? ⟨X,3,none⟩=some f:=by
  simp [World.cell?,h1,h2]
set_option maxRecDepth 20000 in
set_option maxHeartbeats 8000000 in
theorem ttake_any {p:Par} {tx cap:Nat} {s:ASt} (z:Met) (w:World) (h:TM p tx cap w s) (ht:s.t≤600000) (hz:(pst s).F 0=pad z.load) (ho:MetOk p.pages z) :
    Calls Tryz.prog 49 #[treeV p tx] w fun e w'=>∃ (at_ c:Nat) (s':ASt),e=.returned (.tuple #[.int .i64 at_,.int .i64 c])∧TakeR cap p.pages (pst s) at_ c (pst s')∧TM p tx cap w' s'∧s'.t≤s.t+10∧Step p s.N w s'.N w':=by
  have H:=Lib.hid h
  have HT:=Lib.hid ht
  have HZ:=Lib.hid hz
  have HO:=Lib.hid ho
  have HSZ:Hid (MetSz z):=Lib.hid (ho.sz (Nat.le_trans h.pages.2 (by decide)))
  unfold treeV
  clear h ht hz ho
  go_enter Tryz.func49,Tryz.ntmps49
  go_upto_region 1 with fail
  obtain ⟨N,hN⟩:∃ N,N=w.heap.size:=⟨_,rfl⟩
  obtain ⟨W1,hW1⟩:∃ W1,W1=w.alloc (.cells #[.pointer (some ⟨p.bg,0,none⟩),.int .i64 tx] 117):=⟨_,rfl⟩
  have n0:W1.heap[N]?=some (.cells #[.pointer (some ⟨p.bg,0,none⟩),.int .i64 tx] 117 (0,0)):=by rw [hW1,hN];exact heap_alloc_new w _
  have HB1:Hid (Below w.heap.size w W1):=Lib.hid (by rw [hW1];exact (Below.refl _ w).alloc (Nat.le_refl _) _)
  rw [← hW1,← hN]
  have HM1:=Lib.hid (H.out.below HB1.out)
  have k0:W1.cell? ⟨N,0,none⟩=some (.pointer (some ⟨p.bg,0,none⟩)):=by simp [World.cell?,n0]
  have k1:W1.cell? ⟨N,1,none⟩=some (.int .i64 tx):=by simp [World.cell?,n0]
  have hNl:=cell_lt k0
  have HNW:=Lib.hid hN
  have N0:=Lib.hid n0
  clear hN hW1 n0
  go_wp2_with fail
  refine (tmeta_any z _ HM1.out (by have:=HT.out;omega) HZ.out HO.out).mono ?_
  rintro e w2 ⟨s2,rfl,hm2,hp2,ht2,hn2,hs2⟩
  unfold metV
  have t2:=HM1.out.keep hs2 N0.out (by decide)
  have HM2:=Lib.hid hm2
  have HP2:=Lib.hid hp2
  have HT2:=Lib.hid ht2
  have HN2:=Lib.hid hn2
  have HS2:=Lib.hid ((Step.of_below HB1.out).trans hs2)
  obtain ⟨X,hX⟩:∃ X,X=w2.heap.size:=⟨_,rfl⟩
  have HX:=Lib.hid hX
  have T2:=Lib.hid t2
  have m0:w2.cell? ⟨N,0,none⟩=some (.pointer (some ⟨p.bg,0,none⟩)):=by simp [World.cell?,t2]
  have m1:w2.cell? ⟨N,1,none⟩=some (.int .i64 tx):=by simp [World.cell?,t2]
  have hNl2:=cell_lt m0
  clear hm2 hp2 ht2 hn2 hs2 t2 k0 k1 hNl
  go_upto_region 4 with fail
  obtain ⟨W3,hW3⟩:∃ W3,W3=w2.alloc (.cells #[.int .i64 z.root,.int .i64 z.unused,.int .i64 z.free,.int .i64 z.levels] 133):=⟨_,rfl⟩
  have x3:W3.heap[X]?=some (.cells #[.int .i64 z.root,.int .i64 z.unused,.int .i64 z.free,.int .i64 z.levels] 133 (0,0)):=by rw [hW3,hX];exact heap_alloc_new w2 _
  have HB3:Hid (Below w2.heap.size w2 W3):=Lib.hid (by rw [hW3];exact (Below.refl _ w2).alloc (Nat.le_refl _) _)
  rw [← hW3,← hX]
  have HM3:=Lib.hid (HM2.out.below HB3.out)
  have T3:=Lib.hid (met_old T2.out HB3.out)
  have HS3:=Lib.hid (HS2.out.trans (Step.of_below HB3.out))
  obtain ⟨⟨a0,a1,a2,a3⟩,⟨f0,f1,f2,f3⟩,hXl⟩:=four_cells x3
  have k0:W3.cell? ⟨N,0,none⟩=some (.pointer (some ⟨p.bg,0,none⟩)):=by simp [World.cell?,T3.out]
  have k1:W3.cell? ⟨N,1,none⟩=some (.int .i64 tx):=by simp [World.cell?,T3.out]
  have hNl:=cell_lt k0
  have X3:=Lib.hid x3
  have HXN:Hid (w.heap.size≤X∧w.heap.size≤N∧N < X):=Lib.hid (by have h1:=HB1.out.size;have h2:=HS2.out.upd.size;have h3:N < w2.heap.size:=hNl2;have h4:=HNW.out;omega)
  clear hW3 hX x3 m0 m1 hNl2
  by_cases hf:z.free=0
  · have hfd:decide ((z.free:Int) > 0)=false:=decide_eq_false (by omega)
    have hfd':decide (0 < z.free)=false:=decide_eq_false (by omega)
    have HF:=Lib.hid hf
    clear hf
    have HMN:Hid (∀ n,TM p tx cap (W3.drewN n) s2):=Lib.hid (fun n=>HM3.out.below (below_drewN' W3 n))
    by_cases hu:p.pages≤z.unused
    · have hd:decide ((z.unused:Int) ≥ (p.pages:Int))=true:=decide_eq_true (by omega)
      have hd':decide (p.pages≤z.unused)=true:=decide_eq_true hu
      have HU:=Lib.hid hu
      clear hu
      go_wp2_with fail
      go_quiet ((go_at_call 50;exact Calls.quiet_of_same (pages_any (HMN.out _))))
      go_wp2
      go_ret2
      refine ⟨0,4,s2,rfl,?_,HMN.out _,by have:=HT2.out;omega,HS3.out.trans (Step.of_below (below_drewN' W3 _))⟩
      rw [HP2.out]
      exact .full z HZ.out HO.out HF.out HU.out
    · have hd:decide ((z.unused:Int) ≥ (p.pages:Int))=false:=decide_eq_false (by omega)
      have hd':decide (p.pages≤z.unused)=false:=decide_eq_false hu
      have HU:=Lib.hid hu
      clear hu
      go_wp2_with fail
      go_quiet ((go_at_call 50;exact Calls.quiet_of_same (pages_any (HMN.out _))))
      go_wp2_with fail
      have ew:wrap64 ((z.unused:Int)+1)=(z.unused:Int)+1:=by have:=HSZ.out.unused;unfold wrap64;omega
      rw [ew]
      clear ew
      have hx9:((W3.drewN nq).setCell ⟨X,1,none⟩ (.int .i64 ((z.unused:Int)+1))).heap[X]?=some (.cells #[.int .i64 z.root,.int .i64 ((z.unused:Int)+1),.int .i64 z.free,.int .i64 z.levels] 133 (0,0)):=(heap_setCell_same _ X 1 _ _ _ (by simpa using X3.out)).trans rfl
      have ht9:((W3.drewN nq).setCell ⟨X,1,none⟩ (.int .i64 ((z.unused:Int)+1))).heap[N]?=some (.cells #[.pointer (some ⟨p.bg,0,none⟩),.int .i64 tx] 117 (0,0)):=(heap_setCell_other _ ⟨X,1,none⟩ _ _ (by have:=HXN.out;simp;omega)).trans (by simpa using T3.out)
      have hu9:Upd (fun j=>j=X) (W3.drewN nq) ((W3.drewN nq).setCell ⟨X,1,none⟩ (.int .i64 ((z.unused:Int)+1))):=Upd.setC (W3.drewN nq) X 1 (.int .i64 ((z.unused:Int)+1))
      have hm9:=(HMN.out nq).turn hu9 (B:=w.heap.size) (by rw [HN2.out];exact H.out.base) (fun j hj=>by subst hj;exact ⟨HXN.out.1,133,by decide,⟨_,by simpa using X3.out⟩⟩)
      have hs9:=(HS3.out.trans (Step.of_below (below_drewN' W3 nq))).more hu9 (fun j hj=>by have:=HXN.out;omega)
      revert hx9 ht9 hm9 hs9
      generalize (W3.drewN nq).setCell ⟨X,1,none⟩ (.int .i64 ((z.unused:Int)+1))=W9
      intro hx9 ht9 hm9 hs9
      have HM9:=Lib.hid hm9
      have HS9:=Lib.hid hs9
      have X9:=Lib.hid hx9
      have T9:=Lib.hid ht9
      have HV:Hid (metV { z with unused:=z.unused+1 }=.agg #[.int .i64 z.root,.int .i64 ((z.unused:Int)+1),.int .i64 z.free,.int .i64 z.levels]):=Lib.hid (by simp [metV])
      have S0:=Lib.hid (boxes8 T9.out X9.out)
      have E1:IntKind.i64.wrap ((z.unused:Int)+1 - 1)=(z.unused:Int):=(IntWalk.i64_in _ (by have:=HSZ.out.unused;omega)).trans (by omega)
      have HD9:Hid (Below W9.heap.size W9 W9.drew):=Lib.hid (below_drewN' W9 1)
      clear hx9 ht9 hm9 hs9 hu9 a0 a1 a2 a3 f0 f1 f2 f3 hXl k0 k1 hNl
      go_region_held3 (fun w'=>w'.cell? ⟨N,0,none⟩=some (.pointer (some ⟨p.bg,0,none⟩))∧w'.cell? ⟨N,1,none⟩=some (.int .i64 tx)∧w'.cell? ⟨X,0,none⟩=some (.int .i64 z.root)∧w'.cell? ⟨X,1,none⟩=some (.int .i64 ((z.unused:Int)+1))∧w'.cell? ⟨X,2,none⟩=some (.int .i64 z.free)∧w'.cell? ⟨X,3,none⟩=some (.int .i64 z.levels))
        (first | exact S0.out | exact S2.out)
        (first
          | (go_at_call 53;rw [← HV.out];(with_reducible refine (tsetmeta_any { z with unused:=z.unused+1 } _ (HM9.out.below HD9.out) (by have:=HT.out;have:=HT2.out;omega) ⟨HSZ.out.root,by have:=H.out.pages.2;have:=HU.out;show z.unused+1 < 65536;omega,HSZ.out.free,HSZ.out.levels⟩).mono ?_);rintro e w6 ⟨c6,s6,rfl,hw6,hm6,ht6,hs6⟩;have HW6:=Lib.hid hw6;have HM6:=Lib.hid hm6;have HT6:=Lib.hid ht6;have HS6:=Lib.hid hs6;have S2:=Lib.hid (boxes8 ((HM9.out.below HD9.out).keep HS6.out (met_old T9.out HD9.out) (by decide)) ((HM9.out.below HD9.out).keep HS6.out (met_old X9.out HD9.out) (by decide)));clear hw6 hm6 ht6 hs6))
      have E2:IntKind.i64.wrap (z.unused:Int)=(z.unused:Int):=IntWalk.i64_in _ (by have:=HSZ.out.unused;omega)
      rw [E2]
      clear E1 E2
      go_wp2
      go_ret2
      refine ⟨z.unused,c6,s6,rfl,?_,HM6.out,by have:=HT2.out;have:=HT6.out;omega,(HS9.out.trans (Step.of_below HD9.out)).trans HS6.out⟩
      have hw6:=HW6.out
      rw [HP2.out] at hw6
      exact .new z c6 _ HZ.out HO.out HF.out (by have:=HU.out;omega) hw6
  · have hfd:decide ((z.free:Int) > 0)=true:=decide_eq_true (by omega)
    have hfd':decide (0 < z.free)=true:=decide_eq_true (by omega)
    have HF:=Lib.hid hf
    clear hf
    go_wp2_with fail
    refine (tread_any z.free HM3.out (by have:=HO.out.free;have:=HO.out.unused;omega) (by have:=HT.out;have:=HT2.out;omega)).mono ?_
    rintro e w4 ⟨q4,d4,s4,rfl,ho4,hm4,hp4,ht4,hn4,hs4⟩
    have x4:=HM3.out.keep hs4 X3.out (by decide)
    have t4:=HM3.out.keep hs4 T3.out (by decide)
    obtain ⟨x,y,tl,he,htl⟩:=two_of (HM3.out.len z.free (by have:=HO.out.free;have:=HO.out.unused;omega))
    rw [he] at ho4
    have HE:Hid ((pst s).F z.free=x :: y :: tl):=Lib.hid (by have:=congrArg (fun P=>P.F z.free) HP2.out;exact this.symm.trans he)
    have HR4:=Lib.hid (own_rdv ho4)
    have HTL:=Lib.hid htl
    have HM4:=Lib.hid hm4
    have HP4:=Lib.hid (hp4.trans HP2.out)
    have HT4:=Lib.hid ht4
    have HS4:=Lib.hid (HS3.out.trans hs4)
    have HN4:=Lib.hid (hn4.trans HN2.out)
    have X4:=Lib.hid x4
    have T4:=Lib.hid t4
    obtain ⟨⟨b0,b1,b2,b3⟩,⟨g0,g1,g2,g3⟩,hXl4⟩:=four_cells x4
    clear ho4 hm4 hp4 ht4 hn4 hs4 x4 t4 he htl a0 a1 a2 a3 f0 f1 f2 f3 hXl k0 k1 hNl
    dsimp only
    go_wp2_with fail
    refine (get16_any q4 112 d4 x y tl _ (by rw [HTL.out]) HR4.out).mono ?_
    rintro e w5 ⟨rfl,hb5⟩
    obtain ⟨f,hfe⟩:∃ f,f=num2 x y:=⟨_,rfl⟩
    rw [← hfe]
    have HFE:=Lib.hid hfe
    have x5:=met_old X4.out hb5
    have t5:=met_old T4.out hb5
    obtain ⟨⟨c0,c1,c2,c3⟩,⟨h0,h1,h2,h3⟩,hXl5⟩:=four_cells x5
    have HM5:=Lib.hid (HM4.out.below hb5)
    have HS5:=Lib.hid (HS4.out.trans (Step.of_below hb5))
    have X5:=Lib.hid x5
    have T5:=Lib.hid t5
    have j0:w5.cell? ⟨N,0,none⟩=some (.pointer (some ⟨p.bg,0,none⟩)):=by simp [World.cell?,t5]
    have j1:w5.cell? ⟨N,1,none⟩=some (.int .i64 tx):=by simp [World.cell?,t5]
    have hNl5:=cell_lt j0
    have hNX:¬ N=X:=by have:=HXN.out;omega
    clear hb5 hfe x5 t5 b0 b1 b2 b3 g0 g1 g2 g3 hXl4
    by_cases hlt:z.unused≤f
    · have hd:decide ((f:Int) ≥ (z.unused:Int))=true:=decide_eq_true (by omega)
      have hd':decide (z.unused≤f)=true:=decide_eq_true hlt
      have HLT:=Lib.hid hlt
      clear hlt
      go_wp2_with fail
      go_ret2
      have hu5:=Upd.setC w5 X 2 (.int .i64 (f:Int))
      refine ⟨0,71,s4,rfl,?_,HM5.out.turn hu5 (B:=w.heap.size) (by rw [HN4.out];exact H.out.base) (fun j hj=>by subst hj;exact ⟨HXN.out.1,_,by decide,⟨_,X5.out⟩⟩),by have:=HT2.out;have:=HT4.out;omega,HS5.out.more hu5 (fun j hj=>by have:=HXN.out;omega)⟩
      rw [HP4.out]
      exact .bad z f tl HZ.out HO.out (Nat.pos_of_ne_zero HF.out) (by rw [HE.out,HFE.out,le2_num2];rfl) (by rw [HFE.out];exact num2_lt _ _) HLT.out
    · have hd:decide ((f:Int) ≥ (z.unused:Int))=false:=decide_eq_false (by omega)
      have hd':decide (z.unused≤f)=false:=decide_eq_false hlt
      have HLT:=Lib.hid hlt
      clear hlt
      go_wp2_with fail
      have hu5:=Upd.setC w5 X 2 (.int .i64 (f:Int))
      have hm6:=HM5.out.turn hu5 (B:=w.heap.size) (by rw [HN4.out];exact H.out.base) (fun j hj=>by subst hj;exact ⟨HXN.out.1,_,by decide,⟨_,X5.out⟩⟩)
      have hs6:=HS5.out.more hu5 (fun j hj=>by have:=HXN.out;omega)
      refine (tsetmeta_any { z with free:=f } _ hm6 (by have:=HT.out;have:=HT2.out;have:=HT4.out;omega) ⟨HSZ.out.root,HSZ.out.unused,by have:=HSZ.out.unused;have:=HLT.out;show f < 65536;omega,HSZ.out.levels⟩).mono ?_
      rintro e w7 ⟨c7,s7,rfl,hw7,hm7,ht7,hs7⟩
      dsimp only
      go_wp2
      go_ret2
      refine ⟨z.free,c7,s7,rfl,?_,hm7,by have:=HT2.out;have:=HT4.out;omega,hs6.trans hs7⟩
      rw [HP4.out] at hw7
      exact .old z f tl c7 _ HZ.out HO.out (Nat.pos_of_ne_zero HF.out) (by rw [HE.out,HFE.out,le2_num2];rfl) (by have:=HLT.out;omega) hw7
end Go.Proofs.YtheeomjfpnijbaaGreatDoor
end
section
namespace Go.Proofs.YtheeomjfpnijbaaGreatDoor
open Go.RowKit Go.Shelf
open Go.MuLone
theorem _root_.Go.RowKit.Below.set_both {a b:World} {g:Nat} {v:Value} (h:Below a.heap.size a b) (hg:g < a.heap.size):Below (a.setCell ⟨g,0,none⟩ v).heap.size (a.setCell ⟨g,0,none⟩ v) (b.setCell ⟨g,0,none⟩ v):=by
  have hs:∀ w:World,(w.setCell ⟨g,0,none⟩ v).heap.size=w.heap.size:=fun w=>by simp [World.setCell]
  refine ⟨h.os,h.tape,h.output,by rw [hs,hs];exact h.size,fun k hk=>?_⟩
  rw [hs] at hk
  by_cases e:k=g
  · subst e
    simp only [World.setCell,Array.getElem?_modify,h.block k hk]
  · rw [heap_setCell_other _ ⟨g,0,none⟩ _ _ e,heap_setCell_other _ ⟨g,0,none⟩ _ _ e,h.block k hk]
def Get2Q (N:Zone) (bp bd bl bm fro pages buffers sz:Nat) (w:World) (clock c:Nat) (M:List (Int × Buf)) (C:Int→Nat × List UInt8) (D:Nat→List UInt8) (L:LogV) (n:Int) (e:Ending) (w':World):Prop :=
  (e=.returned (.tuple #[.slice none 0 0,.int .i64 0,.int .i64 50])∧(∀ x∈M,x.2.pins ≠ 0)∧M ≠ []∧Goes N bp bd bl bm fro pages buffers sz w clock c M C D L w' clock c M D L) ∨
  ∃ (q:Option Addr) (d clock' c':Nat) (M':List (Int × Buf)) (D':Nat→List UInt8) (L':LogV) (W:World),e=.returned (.tuple #[.slice q 112 d,.int .i64 (C n).1,.int .i64 0])∧w'.ownsRow W.heap.size 5 1 (.slice q 112 d) 112 (B8s (C n).2)∧(∀ k,pinsOf M' k=pinsOf M k) ∧
    Goes N bp bd bl bm fro pages buffers sz w clock c M C D L W clock' c' M' D' L'∧Below W.heap.size W w'
def Read2Q (k:Int) (p:Par) (s:ASt) (tx n:Int) (w:World) (e:Ending) (w':World):Prop :=
  (∃ c:Nat,c=readE s.A p.pages tx n∧c ≠ 0∧e=.returned (.tuple #[.slice none 0 0,.int .i64 c])∧MR k p w' s∧Step p s.N w s.N w') ∨
  (readE s.A p.pages tx n=0∧∃ (q:Option Addr) (d:Nat) (s':ASt) (W:World),e=.returned (.tuple #[.slice q 112 d,.int .i64 0])∧w'.ownsRow W.heap.size 5 1 (.slice q 112 d) 112 (B8s (s.C n).2)∧MR k p W s'∧Like s s' 1∧Step p s.N w s'.N W∧Below W.heap.size W w')
theorem Read2Q.bad {k:Int} {p:Par} {w w':World} {s:ASt} (h:MR k p w s) {tx n:Int} {c:Nat} (hc:c=readE s.A p.pages tx n) (h0:c ≠ 0) (hb:Below w.heap.size w w'):Read2Q k p s tx n w (.returned (.tuple #[.slice none 0 0,.int .i64 c])) w' :=
  .inl ⟨c,hc,h0,rfl,h.below hb,Step.of_below hb⟩
def ReadM2Q (p:Par) (s:ASt) (tx n:Int) (w:World) (e:Ending) (w':World):Prop:=Read2Q 0 p s tx n w e w'
section
variable {N:Zone} {bp bd bl bm fro pages buffers sz:Nat} {clock c:Nat} {M:List (Int × Buf)} {C:Int→Nat × List UInt8} {D:Nat→List UInt8} {L:LogV} (w:World)
set_option maxRecDepth 20000 in
set_option maxHeartbeats 2000000 in
theorem get2_any (n:Int) (h:Run N bp bd bl bm fro pages buffers sz w clock c M C D L) (h0:0≤n) (h1:n < pages) (hc:clock < 2305843009213693952) (hcc:c < 1000000) :
    Calls Tryz.prog 144 #[.pointer (some ⟨bp,0,none⟩),.int .i64 n] w (Get2Q N bp bd bl bm fro pages buffers sz w clock c M C D L n):=by
  have H:=Lib.hid h
  have H0:=Lib.hid h0
  have H1:=Lib.hid h1
  have HC:=Lib.hid hc
  have HCC:=Lib.hid hcc
  clear h h0 h1 hc hcc
  go_enter Tryz.func144,Tryz.ntmps144
  go_wp2_with fail
  refine (plook_any bp bd bl bm fro pages buffers clock M n _ H.out.pool H0.out H1.out).mono ?_
  rintro e w1 ⟨rfl,rfl⟩
  go_wp2_with fail
  refine (in_any n H.out H0.out H1.out HC.out HCC.out).mono ?_
  rintro e w2 (⟨rfl,q1,q2,hg⟩ | ⟨b,clock',c',M',D',L',rfl,hm,hp,hg⟩)
  · have HG:=Lib.hid hg
    have HQ:=Lib.hid (And.intro q1 q2)
    clear q1 q2 hg
    dsimp only
    go_wp2_with fail
    go_returns
    unfold Get2Q
    exact .inl ⟨rfl,HQ.out.1,HQ.out.2,HG.out⟩
  · have HG:=Lib.hid hg
    have HM:=Lib.hid hm
    have HP:=Lib.hid hp
    obtain ⟨e1,e2,-⟩:=hg.run.inv.held _ hm
    simp only at e1 e2
    obtain ⟨⟨v0,c0,hby⟩,c1,-⟩:=(hg.run.pool.bufs _ hm).cell
    obtain ⟨q0,d0,rfl⟩:=hby.slice
    have h112:=(hg.run.pool.nums _ hm).load
    simp only at c0 c1 hby h112
    rw [h112] at c0 hby
    rw [e1] at c1
    have HE2:=Lib.hid e2
    have HRD:=Lib.hid (hby.rd.1.drewN 1)
    have H112:=Lib.hid h112
    obtain ⟨l,hl⟩:∃ l,l=(C n).1:=⟨_,rfl⟩
    rw [← hl] at c1
    have HLL:=Lib.hid hl
    have hlt:=cell_lt c1
    have HGD:=Lib.hid (hg.later (Below.refl _ w2).drew)
    clear hg hm hp e1 e2 hby h112 hl
    dsimp only
    go_wp2_with fail
    go_region_law (first
      | (go_simp;go_at_call 75;refine (clone_any q0 112 d0 b.load _ H112.out (by omega) HRD.out).mono ?_;rintro e w3 ⟨v3,rfl,ho3,hb3⟩;obtain ⟨q3,d3,rfl,-⟩:=own_slice ho3;have c13:=keepC hb3 (show w2.drew.cell? _=_ from c1);have HO3:=Lib.hid ho3;have HB3:=Lib.hid hb3;clear ho3 hb3))
    all_goals go_wp2_with fail
    all_goals go_returns
    all_goals
      unfold Get2Q
      refine .inr ⟨q3,d3,clock',c',M',D',L',w2.drew,congrArg (fun x:Nat=>Ending.returned (.tuple #[.slice q3 112 d3,.int .i64 (x:Int),.int .i64 0])) HLL.out,?_,HP.out,HGD.out,HB3.out⟩
      rw [← HE2.out]
      exact HO3.out
end
set_option maxRecDepth 20000 in
set_option maxHeartbeats 2000000 in
theorem mread2_any (k:Int) (p:Par) (s:ASt) (tx n:Int) (w:World) (h:MR k p w s) (ht:s.t≤900000) :
    Calls Tryz.prog 99 #[.pointer (some ⟨p.bg,0,none⟩),.int .i64 tx,.int .i64 n] w (Read2Q k p s tx n w):=by
  have H:=Lib.hid h
  have HTT:=Lib.hid ht
  obtain ⟨-,k2,k3,k4,-,-,k7,hlt⟩:=h.load
  clear h ht
  cases hl:look s.A tx with
  | none =>
    have HL:Hid (look (mapA s.A) tx=none):=Lib.hid (by rw [look_mapA,hl];rfl)
    have HE:Hid (60=readE s.A p.pages tx n):=Lib.hid (by unfold readE;rw [if_pos hl])
    clear hl
    go_enter Tryz.func99,Tryz.ntmps99
    go_wp2_with (at_lookup;refine wpList_look (KK:=intKeys) rfl _ _ 61 rfl 3 234 Tryz.underlying61 Tryz.underlying3 _ zopn tx rfl rfl H.out.map.is ?_;rw [HL.out,Option.getD_none])
    go_ret2
    exact Read2Q.bad H.out HE.out (by decide) (Below.refl _ _)
  | some tt =>
    have HL:Hid (look (mapA s.A) tx=some (.pointer (some ⟨tt.blk,0,none⟩))):=Lib.hid (by rw [look_mapA,hl];rfl)
    have HLL:=Lib.hid hl
    clear hl
    by_cases hn0:n < 0
    · have HE:Hid (63=readE s.A p.pages tx n):=Lib.hid (by unfold readE;rw [if_neg (by rw [HLL.out];simp),if_pos (.inl hn0)])
      go_enter Tryz.func99,Tryz.ntmps99
      go_wp2_with (at_lookup;refine wpList_look (KK:=intKeys) rfl _ _ 61 rfl 3 234 Tryz.underlying61 Tryz.underlying3 _ zopn tx rfl rfl H.out.map.is ?_;rw [HL.out,Option.getD_some])
      go_ret2
      exact Read2Q.bad H.out HE.out (by decide) (Below.refl _ _)
    · by_cases hn1:(p.pages:Int)≤n
      · have HE:Hid (63=readE s.A p.pages tx n):=Lib.hid (by unfold readE;rw [if_neg (by rw [HLL.out];simp),if_pos (.inr hn1)])
        go_enter Tryz.func99,Tryz.ntmps99
        go_wp2_with (at_lookup;refine wpList_look (KK:=intKeys) rfl _ _ 61 rfl 3 234 Tryz.underlying61 Tryz.underlying3 _ zopn tx rfl rfl H.out.map.is ?_;rw [HL.out,Option.getD_some])
        go_ret2
        exact Read2Q.bad H.out HE.out (by decide) (Below.refl _ _)
      · have HE:Hid (readE s.A p.pages tx n=if lockedA s.A tx n then 61 else 0):=Lib.hid (by unfold readE;rw [if_neg (by rw [HLL.out];simp),if_neg (by omega)])
        have hd1:decide (n < 0)=false:=decide_eq_false hn0
        have hd2:decide ((p.pages:Int)≤n)=false:=decide_eq_false hn1
        have HN:=Lib.hid (show 0≤n∧n < p.pages by omega)
        clear hn0 hn1
        go_enter Tryz.func99,Tryz.ntmps99
        go_wp2_with (first
          | (at_lookup;refine wpList_look (KK:=intKeys) rfl _ _ 61 rfl 3 234 Tryz.underlying61 Tryz.underlying3 _ zopn tx rfl rfl H.out.map.is ?_;rw [HL.out,Option.getD_some])
          | (at_range;refine wpList_rangeZ rfl _ 61 rfl 234 Tryz.underlying61 Tryz.underlying3 rfl H.out.map ?_;intro w1 todo1 hit1 htd1 hb1 hs1;have HI1:=Lib.hid hit1;have HD1:=Lib.hid htd1;have HB1:=Lib.hid hb1;clear hit1 htd1 hb1 hs1))
        go_frame
        go_loopw [8,9] (fun _ _ wr=>∃ (todo:Int→Bool) (cnt:Nat),Hid (∀ x∈s.A,todo x.1=false→(decide (x.1 ≠ tx) && touchU x.2.us n)=false)∧Hid (ItZ Tryz.prog 3 wr p.ba w.heap.size (mapA s.A) todo cnt)∧Hid (Below w.heap.size w wr)) (fun _ _ wr=>wr.rangeLeft p.ba w.heap.size)
        case atStart=>exact ⟨todo1,_,Lib.hid (fun x hx hf=>by rw [HD1.out x.1 (by simp only [mapA,List.map_map];exact List.mem_map.2 ⟨x,hx,rfl⟩)] at hf;cases hf),HI1,HB1⟩
        case round =>
          obtain ⟨todo,cnt,HD,HI,HB⟩:=hrel
          go_wp2_with (at_next;refine wpList_nextZ rfl _ rfl Tryz.underlying3 rfl HI.out ?_ ?_)
          · intro hall
            have HR:=Lib.hid (H.out.below HB.out)
            have HK:Hid (readE s.A p.pages tx n=0):=Lib.hid (by
              rw [HE.out,if_neg]
              intro hc
              obtain ⟨x,hx,hp⟩:=List.any_eq_true.1 hc
              rw [HD.out x hx (hall x.1)] at hp
              cases hp)
            obtain ⟨-,r2,-⟩:=HR.out.load
            clear hall
            go_wp2_with fail
            refine (get2_any _ n HR.out.run HN.out.1 HN.out.2 (by have:=HR.out.cnt;have:=HTT.out;omega) (by have:=HR.out.cnt;have:=HTT.out;omega)).mono ?_
            rintro e w3 (⟨rfl,q1,q2,-⟩ | ⟨q,d,clock',c',M',D',L',W,rfl,ho,hp,hg,hbw⟩)
            · exact absurd (no_pins HR.out.run.pool.nodup HR.out.pins q1) q2
            · obtain ⟨s3,hm3,hl3,hs3⟩:=HR.out.got hp hg
              have HO:=Lib.hid ho
              have HBW:=Lib.hid hbw
              have HM3:=Lib.hid hm3
              have HL3:=Lib.hid hl3
              have HS3:=Lib.hid hs3
              clear ho hp hg hbw r2 hm3 hl3 hs3
              dsimp only
              go_wp2
              go_ret2
              exact .inr ⟨HK.out,q,d,s3,W,rfl,HO.out,HM3.out,HL3.out,(Step.of_below HB.out).trans HS3.out,HBW.out⟩
          · intro x v w2 cnt2 hlook htodo hit2 hcnt hu2 hs2 hen
            rw [look_mapA] at hlook
            obtain ⟨t,hlt,rfl⟩:=Option.map_eq_some_iff.1 hlook
            have hm:=look_mem hlt
            have hBB:Below w.heap.size w w2:=⟨hu2.os.trans HB.out.os,hu2.tape.trans HB.out.tape,hu2.output.trans HB.out.output,by rw [hs2];exact HB.out.size,fun j hj=>(hu2.block j (Nat.lt_of_lt_of_le hj HB.out.size) (by omega)).trans (HB.out.block j hj)⟩
            have HM:=Lib.hid hm
            have HB2:=Lib.hid hBB
            have HI2:=Lib.hid hit2
            have HC2:=Lib.hid hcnt
            have HTX:=Lib.hid ((H.out.below hBB).txs _ hm)
            have HUL:=Lib.hid (H.out.ulen _ hm)
            have HNEXT:Hid (∀ y∈s.A,(todo y.1 && !decide (y.1=x))=false→y=(x,t) ∨ (decide (y.1 ≠ tx) && touchU y.2.us n)=false):=Lib.hid (fun y hy hf=>by
              by_cases e:y.1=x
              · left
                have h1:=look_of_mem H.out.nodup (show (y.1,y.2)∈s.A from hy)
                rw [e,hlt] at h1
                cases h1
                rw [← e]
              · exact .inr (HD.out y hy (by simpa [e] using hf)))
            clear hlook hlt hm hBB hit2 hcnt hu2 hs2 htodo
            by_cases hx:x=tx
            · have hb1:(x != tx)=false:=by simp [hx]
              have HX:=Lib.hid hx
              clear hx
              go_wp2_with fail
              go_roundw
              case rel=>exact ⟨_,cnt2,Lib.hid (fun y hy hf=>by
                rcases HNEXT.out y hy hf with rfl | h1
                · simp [HX.out]
                · exact h1),HI2,HB2⟩
              case measure=>rw [HI2.out.left_eq,HI.out.left_eq];exact HC2.out
            · have hb1:(x != tx)=true:=by simp [hx]
              have HX:=Lib.hid hx
              clear hx
              go_wp2_with fail
              refine (touched_any t s.N.B n _ HTX.out (by have:=HUL.out;have:=HTT.out;omega)).mono ?_
              rintro e w3 ⟨rfl,hb3⟩
              have HB3:=Lib.hid (chainC HB2.out hb3)
              have HI3:=Lib.hid (HI2.out.below hb3)
              clear hb3
              obtain ⟨b,hb⟩:∃ b,b=touchU t.us n:=⟨_,rfl⟩
              rw [← hb]
              have HBT:=Lib.hid hb
              clear hb
              cases b with
              | true =>
                have HK:Hid (61=readE s.A p.pages tx n):=Lib.hid (by
                  rw [HE.out,if_pos]
                  exact List.any_eq_true.2 ⟨_,HM.out,by simp [HX.out,← HBT.out]⟩)
                go_wp2_with fail
                go_ret2
                exact Read2Q.bad H.out HK.out (by decide) HB3.out
              | false =>
                go_wp2_with fail
                go_roundw
                case rel=>exact ⟨_,cnt2,Lib.hid (fun y hy hf=>by
                  rcases HNEXT.out y hy hf with rfl | h1
                  · simp [← HBT.out]
                  · exact h1),HI3,HB3⟩
                case measure=>rw [HI3.out.left_eq,HI.out.left_eq];exact HC2.out
set_option maxRecDepth 20000 in
set_option maxHeartbeats 1000000 in
theorem rread2_any (p:Par) (s:ASt) (tx n:Int) (w:World) (h:MR 0 p w s) (ht:s.t≤900000) :
    Calls Tryz.prog 51 #[.pointer (some ⟨p.bg,0,none⟩),.int .i64 tx,.int .i64 n] w (ReadM2Q p s tx n w):=by
  have H:=Lib.hid h
  have HT:=Lib.hid ht
  clear h ht
  go_enter_defers Tryz.func51,Tryz.ntmps51
  go_wp2_with fail
  refine (mheld_mr H.out).mono ?_
  rintro e w1 ⟨rfl,hm1,hs1⟩
  have HM1:=Lib.hid hm1
  have HS1:=Lib.hid hs1
  clear hm1 hs1
  go_wp2_with fail
  refine (mread2_any 1 p s tx n _ HM1.out HT.out).mono ?_
  rintro e w2 (⟨c,hc,hc0,rfl,hm2,hs2⟩ | ⟨hc,q,d,s2,W,rfl,ho2,hm2,hl2,hs2,hb2⟩)
  · have HM2:=Lib.hid hm2
    have HS2:=Lib.hid (HS1.out.trans hs2)
    have HC:=Lib.hid (And.intro hc hc0)
    clear hm2 hs2 hc hc0
    go_wp2_with fail
    refine leaves_cons (f:=98) (args:=#[.pointer (some ⟨p.bg,0,none⟩)]) (by simp) (by simp [go_sem]) ?_
    refine (unlock_mr .returning HM2.out).mono ?_
    rintro e u' w3 ⟨rfl,rfl,hm3,hs3,-⟩
    refine ⟨_,results_tmp2 rfl _ _ _,?_⟩
    change ReadM2Q p s tx n w (.returned (.tuple #[.slice none 0 0,.int .i64 c])) _
    exact .inl ⟨c,HC.out.1,HC.out.2,rfl,hm3,HS2.out.trans hs3⟩
  · have HM2:=Lib.hid hm2
    have HS2:=Lib.hid (HS1.out.trans hs2)
    have HO2:=Lib.hid ho2
    have HC:=Lib.hid hc
    have HL2:=Lib.hid hl2
    have HB2:=Lib.hid hb2
    have HM2':=Lib.hid (hm2.below hb2)
    clear hm2 hs2 hc ho2 hl2 hb2
    go_wp2_with fail
    refine leaves_cons (f:=98) (args:=#[.pointer (some ⟨p.bg,0,none⟩)]) (by simp) (by simp [go_sem]) ?_
    refine (unlock_deferred muLib ⟨p.bg,0,none⟩ .returning _ HM2'.out.load.1 (frozenC HM2'.out.cells)).mono ?_
    rintro e u' w3 ⟨rfl,rfl,rfl⟩
    refine ⟨_,results_tmp2 rfl _ _ _,?_⟩
    change ReadM2Q p s tx n w (.returned (.tuple #[.slice q 112 d,.int .i64 0])) _
    have hbg:p.bg < W.heap.size:=(Array.getElem?_eq_some_iff.1 HM2.out.cells).1
    refine .inr ⟨HC.out,q,d,s2,W.setCell ⟨p.bg,0,none⟩ (.int .i32 0),rfl,?_,HM2.out.lock 0,HL2.out,HS2.out.trans (HM2.out.lock_step 0),HB2.out.set_both hbg⟩
    have h1:(W.setCell ⟨p.bg,0,none⟩ (.int .i32 0)).heap.size=W.heap.size:=by simp [World.setCell]
    rw [h1]
    exact own_upd HO2.out (Upd.setC w2 p.bg 0 _) (fun j hj h8=>by subst hj;exact absurd (h8.one HM2'.out.typed) (by decide))
theorem tread2_any {p:Par} {tx cap:Nat} {s:ASt} {w:World} (n:Nat) (h:TM p tx cap w s) (hn:n < p.pages) (ht:s.t≤900000) :
    Calls Tryz.prog 51 #[.pointer (some ⟨p.bg,0,none⟩),.int .i64 tx,.int .i64 n] w fun e w'=>∃ q d s' W,e=.returned (.tuple #[.slice q 112 d,.int .i64 0]) ∧
      w'.ownsRow W.heap.size 5 1 (.slice q 112 d) 112 (B8s (s.C (n:Int)).2)∧TM p tx cap W s'∧pst s'=pst s∧s'.t=s.t+1∧s'.N=s.N∧Step p s.N w s'.N W∧Below W.heap.size W w':=by
  refine (rread2_any p s tx n w h.mr ht).mono ?_
  rintro e w' (⟨c,hc,hc0,-⟩ | ⟨-,q,d,s',W,rfl,ho,hm,hl,hs,hb⟩)
  · exact absurd (hc.trans (h.readE hn)) hc0
  · obtain ⟨h1,h2,h3⟩:=h.like hm hl
    exact ⟨q,d,s',W,rfl,ho,h1,h2,h3,hl.N,hs,hb⟩
end Go.Proofs.YtheeomjfpnijbaaGreatDoor
end
section
namespace Go.Proofs.YtheeomjfpnijbaaGreatDoor
open Go.RowKit Go.Shelf
theorem less_bstr (a b:Key):Op.bytesLess (bstr a).toList (bstr b).toList=decide (a < b):=by rw [bstr_list,bstr_list,bytesLess_eq]
def celA (c:Cel):Value:=.agg #[.string (bstr c.key),.string (bstr c.val),.int .i64 c.child]
def kcmp (a b:Key):Int:=if a < b then -1 else if a=b then 0 else 1
set_option maxRecDepth 20000 in
set_option maxHeartbeats 2000000 in
theorem down1_any (c:Cel) (key:Key) (w:World) :
    Calls Tryz.prog 130 #[celA c,.string (bstr key)] w fun e w'=>e=.returned (.int .i64 (kcmp c.key key))∧Below w.heap.size w w':=by
  unfold celA
  rcases k_tri c.key key with h | h | h
  · have h1:Op.bytesLess (bstr c.key).toList (bstr key).toList=true:=by rw [less_bstr];exact decide_eq_true h
    have e:kcmp c.key key=-1:=by unfold kcmp;rw [if_pos h]
    rw [e]
    clear h
    go_enter Tryz.func130,Tryz.ntmps130
    go_wp2
    go_ret
    exact ⟨rfl,(Below.refl _ w).alloc (Nat.le_refl _) _⟩
  · have h1:Op.bytesLess (bstr c.key).toList (bstr key).toList=false:=by rw [less_bstr];exact decide_eq_false (by rw [h];exact k_irrefl _)
    have h2:((bstr c.key).toList == (bstr key).toList)=true:=by rw [h];simp
    have e:kcmp c.key key=0:=by unfold kcmp;rw [if_neg (by rw [h];exact k_irrefl _),if_pos h]
    rw [e]
    clear h
    go_enter Tryz.func130,Tryz.ntmps130
    go_wp2
    go_ret
    exact ⟨rfl,(Below.refl _ w).alloc (Nat.le_refl _) _⟩
  · have h0:¬ c.key < key:=k_nlt (k_of_lt h)
    have hne:c.key ≠ key:=fun e=>k_irrefl key (by rw [e] at h;exact h)
    have h1:Op.bytesLess (bstr c.key).toList (bstr key).toList=false:=by rw [less_bstr];exact decide_eq_false h0
    have h2:((bstr c.key).toList == (bstr key).toList)=false:=by rw [bstr_list,bstr_list];simpa using hne
    have e:kcmp c.key key=1:=by unfold kcmp;rw [if_neg h0,if_neg hne]
    rw [e]
    clear h h0 hne
    go_enter Tryz.func130,Tryz.ntmps130
    go_wp2
    go_ret
    exact ⟨rfl,(Below.refl _ w).alloc (Nat.le_refl _) _⟩
theorem mid64 {lo hi:Nat} (h:lo+hi≤100000):wrap64 (IntKind.u64.wrap (wrap64 ((lo:Int)+(hi:Int))) / 2)=(((lo+hi) / 2:Nat):Int):=by
  have e1:wrap64 ((lo:Int)+(hi:Int))=((lo+hi:Nat):Int):=by unfold wrap64;omega
  rw [e1,IntWalk.u64_in _ (by omega)]
  unfold wrap64
  omega
structure PlaceOk (l:List Cel) (key:Key) (i:Nat):Prop where
  le:i≤l.length
  lo:∀ j c,j < i→l[j]?=some c→c.key < key
  hi:∀ j c,i≤j→l[j]?=some c→¬ c.key < key
set_option maxRecDepth 20000 in
set_option maxHeartbeats 4000000 in
theorem search_any (q:Option Addr) (L cap:Nat) (l:List Cel) (key:Key) (w:World) (hL:l.length=L) (hm:L≤1000) (hs:(l.map (·.key)).Pairwise (· < ·)) (hq:CelsAt w q l) :
    Calls Tryz.prog 129 #[.slice q L cap,.string (bstr key),.func (.func 130) #[] #[]] w fun e w' =>
      ∃ i,PlaceOk l key i∧e=.returned (.tuple #[.int .i64 (i:Nat),.bool (decide ((l[i]?.map (·.key))=some key))])∧Below w.heap.size w w':=by
  have HL:=Lib.hid hL
  have HM:=Lib.hid hm
  have HS:=Lib.hid hs
  have HQ:=Lib.hid hq
  clear hL hm hs hq
  go_enter Tryz.func129,Tryz.ntmps129
  go_wp2
  go_loopw [9,10] (fun a b wr=>∃ lo hi:Nat,a=.int .i64 lo∧b=.int .i64 hi∧lo≤hi∧hi≤L∧Hid ((∀ j c,j < lo→l[j]?=some c→c.key < key)∧(∀ j c,hi≤j→l[j]?=some c→¬ c.key < key))∧Hid (Below w.heap.size w wr)) (fun a b _=>(intOf b).toNat - (intOf a).toNat)
  case atStart=>exact ⟨0,L,rfl,rfl,Nat.zero_le _,Nat.le_refl _,Lib.hid ⟨fun j c hj=>by omega,fun j c hj hc=>by have:=(List.getElem?_eq_some_iff.1 hc).1;have:=HL.out;omega⟩,Lib.hid (Below.refl _ w)⟩
  case round =>
    obtain ⟨lo,hi,rfl,rfl,hlh,hhL,HI,HB⟩:=hrel
    by_cases hlt:lo < hi
    · have hd:decide ((lo:Int) < (hi:Int))=true:=decide_eq_true (by omega)
      obtain ⟨h,hh⟩:∃ h,h=(lo+hi) / 2:=⟨_,rfl⟩
      have hb1:lo≤h:=by omega
      have hb2:h < hi:=by omega
      have HE1:Hid (wrap64 (IntKind.u64.wrap (wrap64 ((lo:Int)+(hi:Int))) / 2)=(h:Int)):=Lib.hid (by rw [mid64 (by have:=HM.out;omega),hh])
      have HE2:Hid (wrap64 ((h:Int)+1)=((h+1:Nat):Int)):=Lib.hid (wrapK (n:=2000) (by have:=HM.out;omega) (by decide))
      have hhl:h < l.length:=by have:=HL.out;omega
      obtain ⟨b,o,rfl,c0,c1,c2⟩:=HQ.out.cell hhl
      obtain ⟨c,hc⟩:∃ c,c=l[h]:=⟨_,rfl⟩
      rw [← hc] at c0 c1 c2
      have f0:=keepC HB.out c0
      have f1:=keepC HB.out c1
      have f2:=keepC HB.out c2
      have HC:Hid (l[h]?=some c):=Lib.hid (by rw [hc];exact List.getElem?_eq_getElem hhl)
      clear c0 c1 c2 hc hh
      have hltb:=cell_lt f0
      go_upto_region 5 with fail
      rw [HE1.out]
      go_wp2_with fail
      refine (down1_any c key wr).mono ?_
      rintro e w2 ⟨rfl,hw2⟩
      have HB2:=Lib.hid (chainC HB.out hw2)
      clear hw2 f0 f1 f2 hltb
      by_cases hk:c.key < key
      · have ek:kcmp c.key key=-1:=by unfold kcmp;rw [if_pos hk]
        rw [ek]
        have HK:=Lib.hid hk
        clear hk ek
        go_wp2
        rw [HE2.out]
        go_roundw
        case rel =>
          refine ⟨h+1,hi,rfl,rfl,by omega,hhL,Lib.hid ⟨fun j c' hj hc'=>?_,HI.out.2⟩,HB2⟩
          rcases Nat.lt_or_ge j lo with h1 | h1
          · exact HI.out.1 j c' h1 hc'
          · rcases Nat.lt_or_ge j h with h2 | h2
            · have hjl:j < l.length:=(List.getElem?_eq_some_iff.1 hc').1
              have h3:=List.pairwise_iff_getElem.1 HS.out j h (by simpa using hjl) (by simpa using hhl) h2
              have e1:l[j]=c':=(List.getElem?_eq_some_iff.1 hc').2
              have e2:l[h]=c:=(List.getElem?_eq_some_iff.1 HC.out).2
              simp only [List.getElem_map,e1,e2] at h3
              exact k_trans h3 HK.out
            · obtain rfl:j=h:=by omega
              have:=hc'.symm.trans HC.out
              cases this
              exact HK.out
        case measure =>
          simp only [intOf,Int.toNat_natCast]
          omega
      · have ek:decide (kcmp c.key key < 0)=false:=decide_eq_false (by unfold kcmp;rw [if_neg hk];split <;> omega)
        obtain ⟨kk,hkk⟩:∃ k,k=kcmp c.key key:=⟨_,rfl⟩
        rw [← hkk] at ek ⊢
        have HK:=Lib.hid hk
        clear hk hkk
        go_wp2
        go_roundw
        case rel =>
          refine ⟨lo,h,rfl,rfl,hb1,by omega,Lib.hid ⟨HI.out.1,fun j c' hj hc'=>?_⟩,HB2⟩
          rcases Nat.lt_or_ge j hi with h1 | h1
          · rcases Nat.lt_or_ge h j with h2 | h2
            · have hjl:j < l.length:=(List.getElem?_eq_some_iff.1 hc').1
              have h3:=List.pairwise_iff_getElem.1 HS.out h j (by simpa using hhl) (by simpa using hjl) h2
              have e1:l[j]=c':=(List.getElem?_eq_some_iff.1 hc').2
              have e2:l[h]=c:=(List.getElem?_eq_some_iff.1 HC.out).2
              simp only [List.getElem_map,e1,e2] at h3
              exact fun h4=>HK.out (k_trans h3 h4)
            · obtain rfl:j=h:=by omega
              have:=hc'.symm.trans HC.out
              cases this
              exact HK.out
          · exact HI.out.2 j c' h1 hc'
        case measure =>
          simp only [intOf,Int.toNat_natCast]
          omega
    · obtain rfl:lo=hi:=by omega
      have HP:Hid (PlaceOk l key lo):=Lib.hid ⟨by rw [HL.out];exact hhL,HI.out.1,HI.out.2⟩
      clear hlt hlh
      by_cases hlt:lo < L
      · have hd:decide ((lo:Int) < (L:Int))=true:=decide_eq_true (by omega)
        have hhl:lo < l.length:=by have:=HL.out;omega
        obtain ⟨b,o,rfl,c0,c1,c2⟩:=HQ.out.cell hhl
        obtain ⟨c,hc⟩:∃ c,c=l[lo]:=⟨_,rfl⟩
        rw [← hc] at c0 c1 c2
        have f0:=keepC HB.out c0
        have f1:=keepC HB.out c1
        have f2:=keepC HB.out c2
        have HC:Hid (l[lo]?=some c):=Lib.hid (by rw [hc];exact List.getElem?_eq_getElem hhl)
        clear c0 c1 c2 hc
        have hltb:=cell_lt f0
        go_wp2_with fail
        refine (down1_any c key wr).mono ?_
        rintro e w2 ⟨rfl,hw2⟩
        have HB2:=Lib.hid (chainC HB.out hw2)
        clear hw2 f0 f1 f2 hltb
        by_cases hk:c.key=key
        · have ek:kcmp c.key key=0:=by unfold kcmp;rw [if_neg (by rw [hk];exact k_irrefl _),if_pos hk]
          rw [ek]
          have HK:=Lib.hid hk
          clear hk ek
          go_wp2
          go_ret2
          exact ⟨lo,HP.out,by rw [HC.out,Option.map_some,HK.out];simp,HB2.out⟩
        · obtain ⟨kk,hkk⟩:∃ k,k=kcmp c.key key:=⟨_,rfl⟩
          have ek:kk ≠ 0:=by rw [hkk];unfold kcmp;rw [if_neg hk];split <;> simp
          have ek1:(kk == 0)=false:=by simpa using ek
          have ek2:decide (kk=0)=false:=by simpa using ek
          rw [← hkk]
          have HK:=Lib.hid hk
          clear hk hkk
          go_wp2
          go_ret2
          exact ⟨lo,HP.out,by rw [HC.out,Option.map_some];simp [HK.out],HB2.out⟩
      · have hd:decide ((lo:Int) < (L:Int))=false:=decide_eq_false (by omega)
        have HN:Hid (l[lo]?=none):=Lib.hid (List.getElem?_eq_none (by have:=HL.out;omega))
        go_wp2
        go_ret2
        exact ⟨lo,HP.out,by rw [HN.out];simp,HB.out⟩
theorem nle_lo (key:Key):∀ (l:List Cel),(l.map (·.key)).Pairwise (· < ·)→∀ i,PlaceOk l key i→(l[i]?.map (·.key)=some key→nle key (l.map (·.key))=i+1)∧(l[i]?.map (·.key) ≠ some key→nle key (l.map (·.key))=i):=by
  intro l
  induction l with
  | nil =>
    intro _ i h
    have:i=0:=Nat.le_zero.1 h.le
    subst this
    simp [nle]
  | cons c l ih =>
    intro hs i h
    rw [List.map_cons,List.pairwise_cons] at hs
    cases i with
    | zero =>
      have h0:=h.hi 0 c (Nat.le_refl _) rfl
      refine ⟨fun e=>?_,fun e=>?_⟩
      · simp at e
        rw [List.map_cons,nle,if_neg (by rw [e];exact k_irrefl _)]
        have:nle key (l.map (·.key))=0:=by
          cases l with
          | nil=>rfl
          | cons d l =>
            rw [List.map_cons,nle,if_pos]
            have:=hs.1 d.key (by simp)
            rwa [e] at this
        omega
      · simp at e
        rw [List.map_cons,nle,if_pos]
        rcases k_tri c.key key with h1 | h1 | h1
        · exact absurd h1 h0
        · exact absurd h1 e
        · exact h1
    | succ i =>
      have h0:=h.lo 0 c (by omega) rfl
      have hi:=ih hs.2 i ⟨by have:=h.le;simp at this;omega,fun j d hj hd=>h.lo (j+1) d (by omega) (by simpa using hd),fun j d hj hd=>h.hi (j+1) d (by omega) (by simpa using hd)⟩
      rw [List.map_cons,nle,if_neg (k_nlt (k_of_lt h0))]
      simp only [List.getElem?_cons_succ]
      exact ⟨fun e=>by rw [hi.1 e],fun e=>by rw [hi.2 e]⟩
theorem place_mem {key:Key} {l:List Cel} {i:Nat} (hs:(l.map (·.key)).Pairwise (· < ·)) (h:PlaceOk l key i):(l[i]?.map (·.key)=some key) ↔ key∈l.map (·.key):=by
  refine ⟨fun e=>?_,fun e=>?_⟩
  · obtain ⟨c,hc,he⟩:=Option.map_eq_some_iff.1 e
    exact List.mem_map.2 ⟨c,List.mem_of_getElem? hc,he⟩
  · obtain ⟨c,hc,he⟩:=List.mem_map.1 e
    obtain ⟨j,hj⟩:=List.getElem?_of_mem hc
    rcases Nat.lt_or_ge j i with h1 | h1
    · exact absurd (h.lo j c h1 hj) (by rw [he];exact k_irrefl _)
    · rcases Nat.lt_or_ge i j with h2 | h2
      · have hjl:j < l.length:=(List.getElem?_eq_some_iff.1 hj).1
        have h3:=List.pairwise_iff_getElem.1 hs i j (by simp;omega) (by simpa using hjl) h2
        have e1:l[j]=c:=(List.getElem?_eq_some_iff.1 hj).2
        simp only [List.getElem_map,e1,he] at h3
        exact absurd h3 (h.hi i l[i] (Nat.le_refl _) (List.getElem?_eq_getElem (by omega)))
      · obtain rfl:j=i:=by omega
        rw [hj,Option.map_some,he]
set_option maxRecDepth 20000 in
set_option maxHeartbeats 2000000 in
theorem down_any (d:Nd) (q:Option Addr) (cap:Nat) (key:Key) (w:World) (hm:d.cells.length≤1000) (hs:(d.cells.map (·.key)).Pairwise (· < ·)) (hq:CelsAt w q d.cells) :
    Calls Tryz.prog 86 #[ndV d q cap,.string (bstr key)] w fun e w'=>e=.returned (.tuple #[.int .i64 ((d.at_ key:Nat) - 1),.bool (d.hits key)])∧Below w.heap.size w w':=by
  have HM:=Lib.hid hm
  have HS:=Lib.hid hs
  have HQ:=Lib.hid hq
  obtain ⟨L,hL⟩:∃ L,L=d.cells.length:=⟨_,rfl⟩
  have hndv:ndV d q cap=.agg #[.int .i64 d.page,.bool d.leaf,.int .i64 d.first,.slice q L cap]:=by rw [hL];rfl
  rw [hndv]
  have HL:=Lib.hid hL
  clear hm hs hq hndv hL
  go_enter Tryz.func86,Tryz.ntmps86
  go_wp2_with fail
  have HB:Hid (Below w.heap.size w (w.alloc (.cells #[.int .i64 d.page,.bool d.leaf,.int .i64 d.first,.slice q L cap] 125))):=Lib.hid ((Below.refl _ w).alloc (Nat.le_refl _) _)
  refine (search_any q L cap d.cells key _ HL.out.symm (by have:=HM.out;have:=HL.out;omega) HS.out (HQ.out.below HB.out)).mono ?_
  rintro e w2 ⟨i,hp,rfl,hb2⟩
  have HB2:=Lib.hid (chainC HB.out hb2)
  obtain ⟨h1,h2⟩:=nle_lo key d.cells HS.out i hp
  have h3:=place_mem HS.out hp
  have HI:Hid (i≤1000):=Lib.hid (by have:=hp.le;have:=HM.out;omega)
  by_cases hk:d.cells[i]?.map (·.key)=some key
  · have ed:decide (d.cells[i]?.map (·.key)=some key)=true:=decide_eq_true hk
    have HR:Hid (.tuple #[.int .i64 ((d.at_ key:Nat) - 1),.bool (d.hits key)]=Value.tuple #[.int .i64 (i:Nat),.bool true]):=Lib.hid (by
      have e1:d.at_ key=i+1:=h1 hk
      have e2:d.hits key=true:=decide_eq_true (h3.1 hk)
      rw [e1,e2]
      simp)
    rw [ed]
    clear h1 h2 h3 hk ed hb2 hp
    go_wp2
    go_ret2
    exact ⟨congrArg _ HR.out.symm,HB2.out⟩
  · have ed:decide (d.cells[i]?.map (·.key)=some key)=false:=decide_eq_false hk
    have HR:Hid (.tuple #[.int .i64 ((d.at_ key:Nat) - 1),.bool (d.hits key)]=Value.tuple #[.int .i64 ((i:Int) - 1),.bool false]):=Lib.hid (by
      have e1:d.at_ key=i:=h2 hk
      have e2:d.hits key=false:=decide_eq_false (fun h=>hk (h3.2 h))
      rw [e1,e2])
    have E1:wrap64 ((i:Int) - 1)=(i:Int) - 1:=by have:=HI.out;unfold wrap64;omega
    have HE1:=Lib.hid E1
    rw [ed]
    clear h1 h2 h3 hk ed hb2 hp E1
    go_wp2
    rw [HE1.out]
    go_ret2
    exact ⟨congrArg _ HR.out.symm,HB2.out⟩
set_option maxRecDepth 20000 in
set_option maxHeartbeats 2000000 in
theorem child_any (d:Nd) (q:Option Addr) (cap n:Nat) (w:World) (hn:n≤d.cells.length) (hm:d.cells.length≤1000) (hq:CelsAt w q d.cells) :
    Calls Tryz.prog 87 #[ndV d q cap,.int .i64 ((n:Nat) - 1)] w fun e w'=>e=.returned (.int .i64 (d.kid n))∧Below w.heap.size w w':=by
  obtain ⟨L,hL⟩:∃ L,L=d.cells.length:=⟨_,rfl⟩
  have hndv:ndV d q cap=.agg #[.int .i64 d.page,.bool d.leaf,.int .i64 d.first,.slice q L cap]:=by rw [hL];rfl
  rw [hndv]
  have HB:Hid (Below w.heap.size w (w.alloc (.cells #[.int .i64 d.page,.bool d.leaf,.int .i64 d.first,.slice q L cap] 125))):=Lib.hid ((Below.refl _ w).alloc (Nat.le_refl _) _)
  cases n with
  | zero =>
    clear hndv hL hn hm hq
    have e:d.kid 0=d.first:=rfl
    rw [e]
    have h1:((0:Nat):Int) - 1=-1:=by omega
    rw [h1]
    go_enter Tryz.func87,Tryz.ntmps87
    go_wp2
    go_ret
    exact ⟨rfl,HB.out⟩
  | succ n =>
    obtain ⟨b,o,rfl,-,-,c2⟩:=hq.cell (show n < d.cells.length by omega)
    have h2:=keepC HB.out c2
    have e:d.kid (n+1)=d.cells[n].child:=by show (d.cells[n]?.map (·.child)).getD 0=_;rw [List.getElem?_eq_getElem (by omega)];rfl
    rw [e]
    obtain ⟨ch,hch⟩:∃ c,c=d.cells[n].child:=⟨_,rfl⟩
    rw [← hch] at h2 c2 ⊢
    have h1:((n+1:Nat):Int) - 1=(n:Int):=by omega
    rw [h1]
    have hlt:n < L:=by omega
    have hlb:=cell_lt c2
    clear hndv hL hn hm hq c2 e hch h1
    go_enter Tryz.func87,Tryz.ntmps87
    go_wp2
    go_ret
    exact ⟨rfl,HB.out⟩
end Go.Proofs.YtheeomjfpnijbaaGreatDoor
end
