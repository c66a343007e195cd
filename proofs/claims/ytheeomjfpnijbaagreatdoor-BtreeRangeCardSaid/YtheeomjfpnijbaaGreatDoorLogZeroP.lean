/- Lemmas: LogZero. -/
import Derived.Test.YtheeomjfpnijbaaGreatDoorBackP
import Derived.Handy
set_option linter.unusedVariables false
namespace Go.Proofs.YtheeomjfpnijbaaGreatDoor
open Go.RowKit
theorem below_alloc {w w1:World} (h:Below w.heap.size w w1) (o:Obj):Below w.heap.size w (w1.alloc o):=h.alloc h.size _
theorem zeros_get {n i:Nat} (h:i < n):(B8s (zeros n))[i]?=some (.int .u8 0):=by
  unfold B8s zeros
  rw [List.getElem?_map,List.getElem?_replicate,if_pos h]
  rfl
set_option maxHeartbeats 1000000 in
set_option maxRecDepth 20000 in
theorem parse_zeros (q:Option Addr) (c:Nat) (i:Int) (w:World) (hr:Rd w q (zeros 128)) :
    Calls Tryz.prog 162 #[.slice q 128 c,.int .i64 i] w fun e w'=>e=.returned (.tuple #[.slice none 0 0,.int .i64 0,.bool false])∧w'=w:=by
  obtain ⟨b,o,rfl,hc⟩:=hr (by simp [zeros,B8s])
  have hcell:∀ j,j < 128→w.cell? ⟨b,o+j,none⟩=some (.int .u8 0):=fun j hj=>hc j _ (zeros_get hj)
  have H:=Lib.hid hcell
  have c1:=hcell 1 (by omega)
  clear hc hcell hr
  go_enter Tryz.func162,Tryz.ntmps162
  go_wp2
  go_loopw [7,11] (fun v i wr=>∃ k:Nat,k≤8∧i=.int .i64 k∧v=.int .u64 0∧wr=w) (fun _ i _=>8 - (intOf i).toNat)
  case atStart=>exact ⟨0,by omega,rfl,rfl,rfl⟩
  case round =>
    obtain ⟨k,hk,rfl,rfl,rfl⟩:=hrel
    by_cases hlt:k < 8
    · have ck:=H.out (4+k) (by omega)
      have hki:(k:Int) < 8:=by omega
      have hk4:(4:Int)+(k:Int) < 128:=by omega
      go_wp2
      exact ⟨⟨k+1,by omega,by congr 1,rfl,trivial⟩,by simp [intOf];omega⟩
    · obtain rfl:k=8:=by omega
      go_wp2
      go_returns
      exact ⟨rfl,rfl⟩
set_option maxHeartbeats 1000000 in
theorem over_nil (q:Option Addr) (c:Nat) (w:World) :
    Calls Tryz.prog 165 #[.slice q 0 c] w fun e w'=>∃ br p d,e=.returned (.pointer (some ⟨br,0,none⟩))∧w'.heap[br]?=some (.cells #[.slice p 0 d,.int .i64 0,.bool true] 343 (0,0))∧w.heap.size≤br∧Below w.heap.size w w':=by
  go_enter Tryz.func165,Tryz.ntmps165
  go_wp2_with fail
  refine (clone2_any q 0 c [] _ rfl (by omega) (Rd.nil _ _)).mono ?_
  rintro e w1 ⟨v1,rfl,hown,hb⟩
  obtain ⟨p,d,rfl,hd⟩:=own_slice hown
  have HB:=Lib.hid hb
  clear hown hb
  go_wp2
  go_ret
  exact ⟨w1.heap.size,p,d,rfl,heap_alloc_new w1 _,HB.out.size,below_alloc HB.out _⟩
theorem rnone_made (br:Nat) (v u:Value) (w:World) (h:w.heap[br]?=some (.cells #[v,u,.bool true] 343 (0,0))) :
    Calls Tryz.prog 227 #[.pointer (some ⟨br,0,none⟩)] w fun e w'=>e=.returned (.bool false)∧w'=w:=by
  have k2:w.cell? ⟨br,2,none⟩=some (.bool true):=by simp [World.cell?,h]
  clear h
  go_enter Tryz.func227,Tryz.ntmps227
  go_wp2
  go_ret
  exact ⟨rfl,rfl⟩
set_option maxHeartbeats 1000000 in
theorem rest_nil (br:Nat) (p:Option Addr) (d:Nat) (w:World) (h:w.heap[br]?=some (.cells #[.slice p 0 d,.int .i64 0,.bool true] 343 (0,0))) :
    Calls Tryz.prog 228 #[.pointer (some ⟨br,0,none⟩)] w fun e w'=>∃ q c,e=.returned (.slice q 0 c)∧w'=w.drew:=by
  have k0:w.cell? ⟨br,0,none⟩=some (.slice p 0 d):=by simp [World.cell?,h]
  have k1:w.cell? ⟨br,1,none⟩=some (.int .i64 0):=by simp [World.cell?,h]
  clear h
  go_enter Tryz.func228,Tryz.ntmps228
  go_wp2
  go_region
  all_goals go_wp2
  all_goals go_ret
  all_goals exact ⟨_,_,rfl,rfl⟩
set_option maxHeartbeats 1000000 in
theorem left_nil (br:Nat) (p:Option Addr) (d:Nat) (w:World) (h:w.heap[br]?=some (.cells #[.slice p 0 d,.int .i64 0,.bool true] 343 (0,0))) :
    Calls Tryz.prog 224 #[.pointer (some ⟨br,0,none⟩)] w fun e w'=>e=.returned (.int .i64 0)∧w'=w.drew:=by
  have H:=Lib.hid h
  clear h
  go_enter Tryz.func224,Tryz.ntmps224
  go_wp2_with fail
  refine (rnone_made br _ _ _ H.out).mono ?_
  rintro e w1 ⟨rfl,rfl⟩
  go_wp2_with fail
  refine (rest_nil br p d _ H.out).mono ?_
  rintro e w2 ⟨q,c,rfl,rfl⟩
  go_wp2
  go_ret
  exact ⟨rfl,rfl⟩
set_option maxHeartbeats 1000000 in
theorem scan_nil (br:Nat) (p:Option Addr) (d:Nat) (w:World) (h:w.heap[br]?=some (.cells #[.slice p 0 d,.int .i64 0,.bool true] 343 (0,0))) :
    Calls Tryz.prog 266 #[.pointer (some ⟨br,0,none⟩)] w fun e w'=>e=.returned (.tuple #[.int .i64 0,.int .i64 0,.int .i64 10])∧w'=w.drew.drew:=by
  have H:=Lib.hid h
  clear h
  go_enter Tryz.func266,Tryz.ntmps266
  go_wp2_with fail
  refine (rest_nil br p d _ H.out).mono ?_
  rintro e w2 ⟨q,c,rfl,rfl⟩
  go_wp2_with fail
  go_loopw [13] (fun i wr=>i=.int .i64 0∧wr=w.drew) (fun _ _=>0)
  case atStart=>exact ⟨rfl,rfl⟩
  case round =>
    obtain ⟨rfl,rfl⟩:=hrel
    go_wp2_with fail
    refine (rest_nil br p d w.drew H.out).mono ?_
    rintro e w2 ⟨q2,c2,rfl,rfl⟩
    go_wp2
    go_returns
    exact ⟨rfl,rfl⟩
set_option maxHeartbeats 1000000 in
theorem text_nil (br:Nat) (p:Option Addr) (d:Nat) (n:Int) (w:World) (h:w.heap[br]?=some (.cells #[.slice p 0 d,.int .i64 0,.bool true] 343 (0,0))) :
    Calls Tryz.prog 225 #[.pointer (some ⟨br,0,none⟩),.int .i64 n] w fun e w'=>e=.returned (.tuple #[.string ⟨#[]⟩,.int .i64 10])∧w'=w.drew.drew:=by
  have H:=Lib.hid h
  clear h
  go_enter Tryz.func225,Tryz.ntmps225
  go_wp2_with fail
  refine (rnone_made br _ _ _ H.out).mono ?_
  rintro e w1 ⟨rfl,rfl⟩
  go_wp2_with fail
  refine (scan_nil br p d _ H.out).mono ?_
  rintro e w2 ⟨rfl,rfl⟩
  go_wp2
  go_ret2
  exact ⟨rfl,rfl⟩
set_option maxHeartbeats 1000000 in
theorem split_nil (q:Option Addr) (c:Nat) (w:World) :
    Calls Tryz.prog 163 #[.slice q 0 c] w fun e w'=>e=.returned (.tuple #[.slice none 0 0,.int .i64 0])∧Below w.heap.size w w':=by
  go_enter Tryz.func163,Tryz.ntmps163
  go_wp2_with fail
  refine (over_nil q c _).mono ?_
  rintro e w1 ⟨br,p,d,rfl,hh,hbr,hb⟩
  have HH:=Lib.hid hh
  have HB:=Lib.hid hb
  clear hh hb hbr
  go_wp2_with fail
  go_loopw [4] (fun l wr=>l=.slice none 0 0∧wr=w1) (fun _ _=>0)
  case atStart=>exact ⟨rfl,rfl⟩
  case round =>
    obtain ⟨rfl,rfl⟩:=hrel
    go_wp2_with fail
    refine (left_nil br p d _ HH.out).mono ?_
    rintro e w2 ⟨rfl,rfl⟩
    go_wp2_with fail
    refine (text_nil br p d _ wr.drew HH.out).mono ?_
    rintro e w3 ⟨rfl,rfl⟩
    go_wp2
    go_ret2
    exact ⟨rfl,HB.out.drew.drew.drew⟩
end Go.Proofs.YtheeomjfpnijbaaGreatDoor
namespace Go.Proofs.YtheeomjfpnijbaaGreatDoor
open Go.RowKit
abbrev zf (B:Nat) (F:Nat→Prop):Zone:=⟨B,fun _=>False,F⟩
abbrev z0 (B:Nat):Zone:=zf B (fun _=>False)
structure LogAt (w:World) (B bl bd fro sectors first last forced durable:Nat) (sv:Value) (xs:List UInt8):Prop where
  cells:w.heap[bl]?=some (.cells #[.pointer (some ⟨bd,0,none⟩),.int .i64 fro,.int .i64 sectors,.int .i64 first,.int .i64 last,.int .i64 forced,sv,.int .i64 durable] 267 (0,0))
  own:w.ownsRow B 5 1 sv xs.length (B8s xs)
theorem LogAt.load {w:World} {B bl bd fro sectors first last forced durable:Nat} {sv:Value} {xs:List UInt8} (h:LogAt w B bl bd fro sectors first last forced durable sv xs) :
    w.cell? ⟨bl,0,none⟩=some (.pointer (some ⟨bd,0,none⟩))∧w.cell? ⟨bl,1,none⟩=some (.int .i64 fro)∧w.cell? ⟨bl,2,none⟩=some (.int .i64 sectors)∧w.cell? ⟨bl,3,none⟩=some (.int .i64 first) ∧
    w.cell? ⟨bl,4,none⟩=some (.int .i64 last)∧w.cell? ⟨bl,5,none⟩=some (.int .i64 forced)∧w.cell? ⟨bl,6,none⟩=some sv∧w.cell? ⟨bl,7,none⟩=some (.int .i64 durable):=by
  refine ⟨?_,?_,?_,?_,?_,?_,?_,?_⟩ <;> simp [World.cell?,h.cells]
theorem LogAt.below {w w':World} {B bl bd fro sectors first last forced durable:Nat} {sv:Value} {xs:List UInt8} (h:LogAt w B bl bd fro sectors first last forced durable sv xs) (hb:Below w.heap.size w w'):LogAt w' B bl bd fro sectors first last forced durable sv xs :=
  ⟨(hb.block bl (Array.getElem?_eq_some_iff.1 h.cells).1).trans h.cells,own_later h.own hb⟩
theorem DiskAt.below {w w':World} {N:Zone} {bd:Nat} {S:List (List UInt8)} {P:List (Nat × List UInt8)} (h:DiskAt w N bd S P) (hb:Below w.heap.size w w'):DiskAt w' N bd S P :=
  h.upd (T:=fun _=>False) (Upd.of_below' hb _) (fun k hk=>hk.elim) (fun k hk=>hk.elim)
theorem LogAt.typed {w:World} {B bl bd fro sectors first last forced durable:Nat} {sv:Value} {xs:List UInt8} (h:LogAt w B bl bd fro sectors first last forced durable sv xs):Typed w bl 267:=⟨_,h.cells⟩
theorem LogAt.own_set {w:World} {B bl bd fro sectors first last forced durable i:Nat} {sv u:Value} {xs:List UInt8} (h:LogAt w B bl bd fro sectors first last forced durable sv xs):(w.setCell ⟨bl,i,none⟩ u).ownsRow B 5 1 sv xs.length (B8s xs) :=
  own_upd h.own (Upd.setC w bl i u) (fun k hk ht=>by subst hk;exact absurd (ht.one h.typed) (by decide))
theorem LogAt.set4 {w:World} {B bl bd fro sectors first last forced durable:Nat} {sv:Value} {xs:List UInt8} (h:LogAt w B bl bd fro sectors first last forced durable sv xs) (n:Nat):LogAt (w.setCell ⟨bl,4,none⟩ (.int .i64 n)) B bl bd fro sectors first n forced durable sv xs :=
  ⟨heap_setCell_same w bl 4 _ _ _ h.cells,h.own_set⟩
theorem LogAt.set5 {w:World} {B bl bd fro sectors first last forced durable:Nat} {sv:Value} {xs:List UInt8} (h:LogAt w B bl bd fro sectors first last forced durable sv xs) (n:Nat):LogAt (w.setCell ⟨bl,5,none⟩ (.int .i64 n)) B bl bd fro sectors first last n durable sv xs :=
  ⟨heap_setCell_same w bl 5 _ _ _ h.cells,h.own_set⟩
theorem LogAt.set6 {w:World} {B bl bd fro sectors first last forced durable:Nat} {sv u:Value} {xs ys:List UInt8} (h:LogAt w B bl bd fro sectors first last forced durable sv xs) (ho:w.ownsRow B 5 1 u ys.length (B8s ys)):LogAt (w.setCell ⟨bl,6,none⟩ u) B bl bd fro sectors first last forced durable u ys :=
  ⟨heap_setCell_same w bl 6 _ _ _ h.cells,own_upd ho (Upd.setC w bl 6 u) (fun k hk ht=>by subst hk;exact absurd (ht.one h.typed) (by decide))⟩
theorem LogAt.set7 {w:World} {B bl bd fro sectors first last forced durable:Nat} {sv:Value} {xs:List UInt8} (h:LogAt w B bl bd fro sectors first last forced durable sv xs) (n:Nat):LogAt (w.setCell ⟨bl,7,none⟩ (.int .i64 n)) B bl bd fro sectors first last forced n sv xs :=
  ⟨heap_setCell_same w bl 7 _ _ _ h.cells,h.own_set⟩
theorem DiskAt.setLog {w:World} {N:Zone} {bd bl i:Nat} {S:List (List UInt8)} {P:List (Nat × List UInt8)} (h:DiskAt w N bd S P) (ht:Typed w bl 267) (u:Value):DiskAt (w.setCell ⟨bl,i,none⟩ u) N bd S P :=
  h.upd (Upd.setC w bl i u) (fun k hk hd=>by
    subst hk
    rcases hd with ⟨-,hd | hd | hd⟩ <;> exact absurd (hd.one ht) (by decide)) (fun k hk hd=>by subst hk;exact absurd (hd.one ht) (by decide))
set_option maxHeartbeats 2000000 in
set_option maxRecDepth 20000 in
theorem clean_zero {F:Nat→Prop} (Z B bl bd fro k n:Nat) (sv:Value) (w:World) (hL:LogAt w B bl bd fro k 1 0 0 0 sv []) (hD:DiskAt w (zf Z F) bd (zeroS n) []) (hk:fro+k≤n) :
    Calls Tryz.prog 164 #[.pointer (some ⟨bl,0,none⟩),.int .i64 0,.int .i64 0] w fun e w'=>e=.returned (.int .i64 0)∧Below w.heap.size w w':=by
  have hn:n≤4096:=by have:=hD.small;simpa [zeroS] using this
  obtain ⟨l0,l1,l2,l3,l4,l5,l6,l7⟩:=hL.load
  have HL:=Lib.hid hL
  have HD:=Lib.hid hD
  have hmk:∀ W:World,(Instr.makeSlice 76 (.int .i64 128) (.int .i64 128)).run Tryz.prog W=.ok (.slice (some ⟨W.heap.size,0,none⟩) 128 128) (W.alloc (.cells (Zs 128) 5)):=make8 128 (by omega)
  have hlt:=cell_lt l0
  clear hL hD l0 l3 l4 l5 l6
  have HKN:=Lib.hid hk
  have HN4:=Lib.hid hn
  go_enter Tryz.func164,Tryz.ntmps164
  go_wp2_with fail
  have HRZ:Hid (Rd (w.alloc (.cells (Zs 128) 5)) (some ⟨w.heap.size,0,none⟩) (zeros 128)):=Lib.hid (by
    rw [Zs_arr];exact rd_new w (zeros 128))
  go_loopw [8,11] (fun dv i wr=>∃ j:Nat,j≤k∧dv=.bool false∧i=.int .i64 ((fro+j:Nat):Int)∧Hid (Below w.heap.size w wr)∧Hid (Below (w.alloc (.cells (Zs 128) 5)).heap.size (w.alloc (.cells (Zs 128) 5)) wr)) (fun _ i _=>fro+k - (intOf i).toNat)
  case atStart=>exact ⟨0,Nat.zero_le _,rfl,rfl,Lib.hid ((Below.refl _ w).alloc (Nat.le_refl _) _),Lib.hid (Below.refl _ _)⟩
  case round =>
    obtain ⟨j,hj,rfl,rfl,HB,HBZ⟩:=hrel
    obtain ⟨l0,l1,l2,-,-,-,-,l7⟩:=(HL.out.below HB.out).load
    have hlt:=cell_lt l0
    have hj4:fro+j≤4096:=by omega
    have HDW:=Lib.hid (HD.out.below HB.out)
    obtain ⟨J,hJ⟩:∃ J,J=fro+j:=⟨_,rfl⟩
    rw [← hJ] at hj4 ⊢
    have HJ:=Lib.hid hJ
    by_cases hlt:j < k
    · have hc:(J:Int) < (fro:Int)+(k:Int):=by omega
      have hw:(fro:Int)+(k:Int)≤4096:=by omega
      have HIN:Hid (J < (zeroS n).length):=Lib.hid (by simp [zeroS];omega)
      clear hJ
      go_wp2_with fail
      go_region
      all_goals go_wp2_with fail
      have HDD:Hid (DiskAt wr.drew (zf Z F) bd (zeroS n) []):=Lib.hid (HDW.out.below ((Below.refl _ wr).drew))
      refine (diskRead_any bd (zeroS n) [] J wr.drew HDD.out (fun k hk=>hk.elim) HIN.out (by simp)).mono ?_
      rintro e w2 ⟨v2,rfl,hown2,hb2⟩
      obtain ⟨q2,d2,rfl,hd2⟩:=own_slice hown2
      have HB2:=Lib.hid hb2
      have HO2:=Lib.hid hown2
      have hse:seen (zeroS n) [] J=zeros 128:=by
        unfold seen applyW zeroS
        rw [List.foldl_nil,List.getElem?_replicate,if_pos (by have:=HIN.out;simpa [zeroS] using this)]
        rfl
      have HSE:=Lib.hid hse
      have HQ2:Hid (Rd w2 q2 (zeros 128)):=Lib.hid (by
        obtain ⟨p',c',e',hr',-⟩:=own_rd hown2
        cases e'
        rw [hse] at hr'
        exact hr')
      have HZ2:Hid (Rd w2 (some ⟨w.heap.size,0,none⟩) (zeros 128)):=Lib.hid ((HRZ.out.below HBZ.out).below (show Below wr.heap.size wr w2 from ⟨hb2.os,hb2.tape,hb2.output,hb2.size,hb2.block⟩))
      clear hown2 hb2 hse
      go_wp2_with fail
      refine (equal_same q2 (some ⟨w.heap.size,0,none⟩) 128 d2 128 128 (zeros 128) _ (by simp [zeros]) (by simp [zeros]) HQ2.out HZ2.out).mono ?_
      rintro e w3 ⟨rfl,rfl⟩
      have HW2:Hid (Below wr.heap.size wr w3):=Lib.hid ⟨HB2.out.os,HB2.out.tape,HB2.out.output,HB2.out.size,HB2.out.block⟩
      go_wp2_with fail
      go_roundw
      case rel=>exact ⟨j+1,by omega,rfl,by have:=HJ.out;rw [this];congr 1,Lib.hid (chainC HB.out HW2.out),Lib.hid (chainC HBZ.out HW2.out)⟩
      case measure=>have:=HJ.out;simp [intOf];omega
    · have hc:(fro:Int)+(k:Int)≤(J:Int):=by omega
      have hw:(fro:Int)+(k:Int)≤4096:=by omega
      clear hJ
      go_wp2_with fail
      go_region
      all_goals go_wp2_with fail
      all_goals go_ret
      all_goals exact ⟨rfl,HB.out.drew⟩
theorem seen_zero {n J:Nat} (h:J < n):seen (zeroS n) [] J=zeros 128:=by
  unfold seen applyW zeroS
  rw [List.foldl_nil,List.getElem?_replicate,if_pos h]
  rfl
def LG (bd fro k first last forced durable:Nat) (sv:Value):Obj:=.cells #[.pointer (some ⟨bd,0,none⟩),.int .i64 fro,.int .i64 k,.int .i64 first,.int .i64 last,.int .i64 forced,sv,.int .i64 durable] 267
set_option maxHeartbeats 2000000 in
set_option maxRecDepth 20000 in
theorem logOpen_zero {F:Nat→Prop} (Z bd fro k n:Nat) (w:World) (hD:DiskAt w (zf Z F) bd (zeroS n) []) (h1:1≤k) (hk:fro+k≤n) :
    Calls Tryz.prog 113 #[.pointer (some ⟨bd,0,none⟩),.int .i64 fro,.int .i64 k] w fun e w'=>∃ bl,e=.returned (.tuple #[.pointer (some ⟨bl,0,none⟩),.slice none 0 0,.int .i64 0]) ∧
      LogAt w' w.heap.size bl bd fro k 1 0 0 0 (.slice none 0 0) []∧w.heap.size≤bl∧Below w.heap.size w w':=by
  have hn:n≤4096:=by have:=hD.small;simpa [zeroS] using this
  have HD:=Lib.hid hD
  have HK:=Lib.hid hk
  have H1:=Lib.hid h1
  have HN4:=Lib.hid hn
  have hzl:(zeroS n).length=n:=by simp [zeroS]
  have HZL:=Lib.hid hzl
  have hz:((n:Int) == 0)=false:=by simp;omega
  have hd1:decide ((fro:Int) < 0)=false:=decide_eq_false (by omega)
  have hd2:decide ((k:Int) < 1)=false:=decide_eq_false (by omega)
  obtain ⟨R,hR⟩:∃ R,R=n - fro:=⟨_,rfl⟩
  have hwR:wrap64 ((n:Int) - (fro:Int))=(R:Int):=by unfold wrap64;omega
  have hd3:fro≤n:=by omega
  have hd4:k≤R:=by omega
  have hd5:decide (n < fro)=false:=decide_eq_false (by omega)
  have hd6:decide (R < k)=false:=decide_eq_false (by omega)
  clear hR
  have hk0:(0:Int) < (k:Int):=by omega
  have hf4:fro≤4096:=by omega
  have HF4:=Lib.hid hf4
  clear hD hk hzl hn h1
  go_enter Tryz.func113,Tryz.ntmps113
  go_wp2_with fail
  refine (sectors_any bd (zeroS n) [] _ HD.out).mono ?_
  rintro e w1 ⟨rfl,rfl⟩
  rw [HZL.out]
  go_wp2_with fail
  have HBA:Hid (Below w1.heap.size w1 (w1.alloc (LG bd fro k 1 0 0 0 (.slice none 0 0)))):=Lib.hid ((Below.refl _ w1).alloc (Nat.le_refl _) _)
  have HLA:Hid (LogAt (w1.alloc (LG bd fro k 1 0 0 0 (.slice none 0 0))) w1.heap.size w1.heap.size bd fro k 1 0 0 0 (.slice none 0 0) []):=Lib.hid ⟨heap_alloc_new w1 _,World.ownsRow_nil _ _ _ _⟩
  unfold LG at HBA HLA
  have HDA:=Lib.hid (HD.out.below HBA.out)
  have HIN:Hid (fro < (zeroS n).length):=Lib.hid (by have:=HK.out;have:=H1.out;rw [HZL.out];omega)
  have HSE:Hid (seen (zeroS n) [] fro=zeros 128):=Lib.hid (seen_zero (by have:=HK.out;have:=H1.out;omega))
  go_loopw [11,50] (fun u i wr=>u=.int .i64 0∧i=.int .i64 0∧wr=w1.alloc (.cells #[.pointer (some ⟨bd,0,none⟩),.int .i64 fro,.int .i64 k,.int .i64 1,.int .i64 0,.int .i64 0,.slice none 0 0,.int .i64 0] 267)) (fun _ _ _=>0)
  case atStart=>exact ⟨rfl,rfl,rfl⟩
  case round =>
    obtain ⟨rfl,rfl,rfl⟩:=hrel
    go_wp2_with fail
    refine (diskRead_any bd (zeroS n) [] fro _ HDA.out (fun k hk=>hk.elim) HIN.out (by simp)).mono ?_
    rintro e w2 ⟨v2,rfl,hown2,hb2⟩
    obtain ⟨q2,d2,rfl,hd2⟩:=own_slice hown2
    have HQ2:Hid (Rd w2 q2 (zeros 128)):=Lib.hid (by
      obtain ⟨p',c',e',hr',-⟩:=own_rd hown2
      cases e'
      rw [HSE.out] at hr'
      exact hr')
    have HB2:=Lib.hid hb2
    have HL2:=Lib.hid (HLA.out.below hb2)
    clear hown2 hb2
    go_wp2_with fail
    refine (parse_zeros q2 d2 0 _ HQ2.out).mono ?_
    rintro e w3 ⟨rfl,rfl⟩
    obtain ⟨l0,l1,l2,l3,l4,l5,l6,l7⟩:=HL2.out.load
    have hltl:=cell_lt l0
    have fz:∀ i,w3.frozen? ⟨w1.heap.size,i,none⟩=false:=fun i=>frozenC HL2.out.cells
    have f4:=fz 4
    have f5:=fz 5
    have f6:=fz 6
    have f7:=fz 7
    clear fz
    go_wp2_with fail
    refine (split_nil none 0 w3).mono ?_
    rintro e w4 ⟨rfl,hb4⟩
    have HB4:=Lib.hid hb4
    have HL4:=Lib.hid (HL2.out.below hb4)
    have HD4:=Lib.hid (((HDA.out.below HB2.out).below hb4))
    obtain ⟨m0,m1,m2,m3,m4,m5,m6,m7⟩:=HL4.out.load
    have hltm:=cell_lt m0
    have fz:∀ i,w4.frozen? ⟨w1.heap.size,i,none⟩=false:=fun i=>frozenC HL4.out.cells
    have g4:=fz 4
    have g5:=fz 5
    have g6:=fz 6
    have g7:=fz 7
    clear fz hb4 l0 l1 l2 l3 l4 l5 l6 l7 f4 f5 f6 f7
    have HL5:Hid (LogAt ((w4.setCell ⟨w1.heap.size,6,none⟩ (.slice none 0 0)).setCell ⟨w1.heap.size,7,none⟩ (.int .i64 0)) w1.heap.size w1.heap.size bd fro k 1 0 0 0 (.slice none 0 0) []):=Lib.hid ((HL4.out.set6 (ys:=[]) (World.ownsRow_nil _ _ _ _)).set7 0)
    have HD5:Hid (DiskAt ((w4.setCell ⟨w1.heap.size,6,none⟩ (.slice none 0 0)).setCell ⟨w1.heap.size,7,none⟩ (.int .i64 0)) (zf Z F) bd (zeroS n) []):=Lib.hid ((HD4.out.setLog HL4.out.typed _).setLog (HL4.out.set6 (ys:=[]) (u:=.slice none 0 0) (World.ownsRow_nil _ _ _ _)).typed _)
    go_wp2_with fail
    refine (clean_zero Z w1.heap.size w1.heap.size bd fro k n (.slice none 0 0) _ HL5.out HD5.out HK.out).mono ?_
    rintro e w5 ⟨rfl,hb5⟩
    have HB5:=Lib.hid hb5
    have HL6:=Lib.hid (HL5.out.below hb5)
    obtain ⟨l0,l1,l2,l3,l4,l5,l6,l7⟩:=HL6.out.load
    have hltn:=cell_lt l0
    have fz:∀ i,w5.frozen? ⟨w1.heap.size,i,none⟩=false:=fun i=>frozenC HL6.out.cells
    have f4:=fz 4
    have f5:=fz 5
    clear fz hb5 m0 m1 m2 m3 m4 m5 m6 m7 g4 g5 g6 g7
    go_wp2_with fail
    go_returns
    have hb4:Below w1.heap.size w1 w4:=HBA.out.trans ((chainC HB2.out HB4.out).mono HBA.out.size)
    have hb45:=(hb4.setCell (p:=⟨w1.heap.size,6,none⟩) (Nat.le_refl _) (.slice none 0 0)).setCell (p:=⟨w1.heap.size,7,none⟩) (Nat.le_refl _) (.int .i64 0)
    have hb5:=hb45.trans (HB5.out.mono hb45.size)
    exact ⟨w1.heap.size,rfl,(HL6.out.set4 0).set5 0,Nat.le_refl _,(hb5.setCell (p:=⟨w1.heap.size,4,none⟩) (Nat.le_refl _) _).setCell (p:=⟨w1.heap.size,5,none⟩) (Nat.le_refl _) _⟩
end Go.Proofs.YtheeomjfpnijbaaGreatDoor
