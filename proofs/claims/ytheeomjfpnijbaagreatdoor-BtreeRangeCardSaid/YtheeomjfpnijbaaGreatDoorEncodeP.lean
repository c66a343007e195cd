/- Lemmas: Encode. -/
import Derived.Test.YtheeomjfpnijbaaGreatDoorTrimP
import Derived.Deep.RegionLaw
import Derived.StillTailTactics
set_option linter.unusedVariables false
namespace Go.Proofs.YtheeomjfpnijbaaGreatDoor
open Go.RowKit
def eok (lsn:Int) (n:Nat):Prop:=0≤lsn∧lsn≤4611686018427387904∧n=112
def body (l:Nat) (load:List UInt8):List UInt8:=[0x50,0,0,0]++leB l 8++load
def sector (l:Nat) (load:List UInt8):List UInt8:=body l load++leB (sumN (body l load)) 4
def encV (l:Nat) (load:List UInt8):List UInt8:=if l=0∧allZ load=true then List.replicate 128 0 else sector l load
theorem body_length (l:Nat) (load:List UInt8):(body l load).length=12+load.length:=by
  simp [body,leB_length];omega
theorem sector_length {l:Nat} {load:List UInt8} (h:load.length=112):(sector l load).length=128:=by
  simp [sector,body_length,leB_length,h]
theorem encV_length {l:Nat} {load:List UInt8} (h:load.length=112):(encV l load).length=128:=by
  unfold encV;split
  · simp
  · exact sector_length h
set_option maxHeartbeats 400000 in
theorem encode_bad (lsn:Int) (p:Option Addr) (n c:Nat) (w:World) (h:¬ eok lsn n) :
    Calls Tryz.prog 218 #[.int .i64 lsn,.slice p n c] w fun e w'=>e=.returned (.tuple #[.slice none 0 0,.int .i64 1])∧w=w':=by
  unfold eok at h
  by_cases h1:lsn < 0
  · clear h
    go_enter Tryz.func218,Tryz.ntmps218
    go_wp2
    go_ret2
    exact ⟨rfl,rfl⟩
  · by_cases h2:(4611686018427387904:Int) < lsn
    · clear h
      go_enter Tryz.func218,Tryz.ntmps218
      go_wp2
      go_ret2
      exact ⟨rfl,rfl⟩
    · have h3:((n:Int) != 112)=true:=by rw [bne_iff_ne];omega
      clear h
      go_enter Tryz.func218,Tryz.ntmps218
      go_wp2
      go_ret2
      exact ⟨rfl,rfl⟩
theorem body_flat (l:Nat) (load:List UInt8):[[0x50,0,0,0],leB l 8,load].flatten=body l load:=by simp [body]
theorem splice_tail {xs ys:List UInt8} {cur:List Value} (hx:xs.length=124) (hy:ys.length=4):splice (B8s (padded xs)++cur) 124 (B8s ys)=B8s (xs++ys)++cur:=by
  unfold splice padded B8s
  rw [hx,List.map_append,List.append_assoc,List.take_left' (by simp [hx]),List.map_append,List.append_assoc]
  have e:List.drop (124+(List.map B8 ys).length) (List.map B8 xs++(List.map B8 (List.replicate (128 - 124) 0)++cur))=cur:=by
    rw [← List.append_assoc]
    exact List.drop_left' (by simp [hx,hy])
  rw [e]
theorem heap_lt {w:World} {g:Nat} {o:Obj} (h:w.heap[g]?=some o):g < w.heap.size:=(Array.getElem?_eq_some_iff.1 h).1
theorem below_of_drew {B:Nat} {w w':World} (h:Below B w.drew w'):Below B w w':=⟨h.os,h.tape,h.output,h.size,h.block⟩
theorem rd_front {w:World} {g:Nat} {xs ys:List UInt8} {cur:List Value} (hh:w.heap[g]?=some (.cells (B8s ys++cur).toArray 5 (0,0))) {zs:List UInt8} (h:ys=xs++zs):Rd w (some ⟨g,0,none⟩) xs:=fun hne=>by
  refine ⟨g,0,rfl,fun i v hv=>?_⟩
  have hi:i < (B8s xs).length:=(List.getElem?_eq_some_iff.1 hv).1
  rw [B8s_length] at hi
  simp only [World.cell?,hh,Nat.zero_add]
  subst h
  simp [B8s,List.getElem?_append_left,hi] at hv ⊢
  exact hv
theorem wrap_u64_small {S:Nat} (h:S < 4294967296):IntKind.u64.wrap ((S:Nat):Int)=S:=by
  simp [IntKind.wrap,IntKind.bits,IntKind.signed]
  omega
theorem parts3 {W0 w2:World} {p p2:Option Addr} {c cap2:Nat} {xs ys:List UInt8} {T:TypeId} (hb:Below (W0.alloc (Obj.cells #[Value.int IntKind.u8 80,Value.int IntKind.u8 0,Value.int IntKind.u8 0,Value.int IntKind.u8 0] 5)).heap.size (W0.alloc (Obj.cells #[Value.int IntKind.u8 80,Value.int IntKind.u8 0,Value.int IntKind.u8 0,Value.int IntKind.u8 0] 5)) w2)
    (hr2:Rd w2 p2 ys) (hy:ys.length=8) (hr:Rd w2 p xs) (hx:xs.length=112) :
    PartsRd (w2.alloc (Obj.cells #[Value.slice (some ⟨W0.heap.size,0,none⟩) 4 4,Value.slice p2 8 cap2,Value.slice p 112 c] T)) (some ⟨w2.heap.size,0,none⟩) [[0x50,0,0,0],ys,xs]:=by
  have ha:Below w2.heap.size w2 (w2.alloc (Obj.cells #[Value.slice (some ⟨W0.heap.size,0,none⟩) 4 4,Value.slice p2 8 cap2,Value.slice p 112 c] T)):=(Below.refl _ _).alloc (Nat.le_refl _) _
  intro k hk
  match k,hk with
  | 0,_ =>
    refine ⟨_,_,_,4,rfl,by simp,Cells.below (fun _=>⟨W0.heap.size,0,rfl,fun i v hv=>?_⟩) ha⟩
    have hi:i < 4:=by have:=(List.getElem?_eq_some_iff.1 hv).1;simpa [B8s] using this
    rw [hb.cell (p:=⟨W0.heap.size,0+i,none⟩) (by simp)]
    match i,hi with
    | 0,_=>rw [← hv];simp [B8s,B8]
    | 1,_=>rw [← hv];simp [B8s,B8]
    | 2,_=>rw [← hv];simp [B8s,B8]
    | 3,_=>rw [← hv];simp [B8s,B8]
  | 1,_=>exact ⟨_,_,p2,cap2,rfl,by simp [hy],hr2.below ha⟩
  | 2,_=>exact ⟨_,_,p,c,rfl,by simp [hx],hr.below ha⟩
set_option maxHeartbeats 1000000 in
set_option maxRecDepth 20000 in
theorem encode_ok (l:Nat) (p:Option Addr) (n c:Nat) (xs:List UInt8) (w:World) (hx:xs.length=n) (hr:Rd w p xs) (hc:n≤c) (hm:c≤maxLen) (hT:Halves w) (h:eok l n) :
    Calls Tryz.prog 218 #[.int .i64 l,.slice p n c] w fun e w' =>
      ∃ v',e=.returned (.tuple #[v',.int .i64 0])∧w'.ownsRow w.heap.size 5 1 v' 128 (B8s (encV l xs))∧Below w.heap.size w w':=by
  obtain ⟨_,hl,rfl⟩:=h
  have h2:¬ (4611686018427387904:Int) < (l:Int):=by omega
  have HX:=Lib.hid hx
  have HM:=Lib.hid hm
  have HT:=Lib.hid hT
  have HL:=Lib.hid hl
  clear hx hm hT hl
  by_cases hz:l=0∧allZ xs=true
  · obtain ⟨rfl,hz⟩:=hz
    have HE:Hid (encV 0 xs=List.replicate 128 0):=Lib.hid (by unfold encV;rw [if_pos ⟨rfl,hz⟩])
    have HZ:=Lib.hid hz
    clear hz
    go_enter Tryz.func218,Tryz.ntmps218
    go_wp2_with fail
    refine (empty_any p 112 c xs _ HX.out hr hc HM.out).mono ?_
    rintro e w1 ⟨rfl,j,rfl⟩
    rw [HZ.out]
    go_wp2_with fail
    refine (fill_any none 0 0 [] _ rfl (by omega) (fun k h=>absurd h (Nat.not_lt_zero _)) (by decide)).mono ?_
    rintro e w2 ⟨v',rfl,hown,hb⟩
    have HO:=Lib.hid hown
    clear hown
    go_wp2
    go_ret2
    exact ⟨v',rfl,by rw [HE.out];exact HO.out,below_of_drewN hb⟩
  · have HE:Hid (encV l xs=sector l xs):=Lib.hid (by unfold encV;rw [if_neg hz])
    by_cases hl0:l=0
    · have hzf:Hid (allZ xs=false):=Lib.hid (by rw [Bool.eq_false_iff];exact fun h=>hz ⟨hl0,h⟩)
      have hlz:((l:Int) == 0)=true:=by rw [beq_iff_eq];omega
      clear hz hl0
      go_enter Tryz.func218,Tryz.ntmps218
      go_wp2_with fail
      refine (empty_any p 112 c xs _ HX.out hr hc HM.out).mono ?_
      rintro e w1 ⟨rfl,j,rfl⟩
      rw [hzf.out]
      have hrW:=hr.drewN j
      have hTW:=Lib.hid (HT.out.drewN j)
      have hbW:=below_drewN' (B:=w.heap.size) w j
      go_wp2_with fail
      refine (number_any l 8 _ (by have:=HL.out;omega) (Nat.le_refl _)).mono ?_
      rintro e w2 ⟨v2,rfl,hown2,hb2⟩
      obtain ⟨p2,cap2,rfl,hr2,hx2,_,_⟩:=own_rd hown2
      have HX2:=Lib.hid hx2
      clear hx2 hown2
      go_wp2_with fail
      have hr':=hrW.below ((Below.refl _ _).alloc (Nat.le_refl _) (Obj.cells #[Value.int IntKind.u8 80,Value.int IntKind.u8 0,Value.int IntKind.u8 0,Value.int IntKind.u8 0] 5))
      have hb02:Below w.heap.size w w2:=(hbW.alloc (by simp) _).trans (hb2.mono (by simp))
      refine (fill_any _ 3 3 [[0x50,0,0,0],leB l 8,xs] _ rfl (by omega) (parts3 hb2 hr2 HX2.out (hr'.below hb2) HX.out) (by rw [body_flat,body_length,HX.out];omega)).mono ?_
      rintro e w3 ⟨v3,rfl,hown3,hb3⟩
      rw [body_flat] at hown3
      obtain ⟨g,cap,cur,rfl,hg,hh,hx3,hc3,hm3⟩:=own8 hown3 (by omega)
      have hb03:Below w.heap.size w w3:=(hb02.alloc hb02.size _).trans (hb3.mono (by simp;exact Nat.le_succ_of_le hb02.size))
      have hT3:Halves w3:=((((hTW.out).below ((Below.refl _ _).alloc (Nat.le_refl _) _)).below hb2).below ((Below.refl _ _).alloc (Nat.le_refl _) _)).below hb3
      have hS:Rd w3 (some ⟨g,0,none⟩) (body l xs):=rd_front hh (show padded (body l xs)=body l xs++List.replicate (128 - (body l xs).length) 0 from rfl)
      have hbl:(body l xs).length=124:=by rw [body_length,HX.out]
      have HB:=Lib.hid hbl
      have HH:=Lib.hid hh
      have HC:=Lib.hid hc3
      have HX3:=Lib.hid hx3
      have hSl:=sumN_lt (body l xs)
      obtain ⟨S,hSe⟩:∃ S,sumN (body l xs)=S:=⟨_,rfl⟩
      rw [hSe] at hSl
      have HSe:=Lib.hid hSe
      have hwr:IntKind.u64.wrap ((S:Nat):Int)=S:=wrap_u64_small hSl
      have HSl:=Lib.hid hSl
      have hcap:(124:Int)≤(cap:Int):=by have:=HC.out;omega
      have hcne:(cap=124)=False:=eq_false (by have:=HC.out;omega)
      have hgB:w.heap.size≤g:=by have:=hb02.size;simp at hg;omega
      have hin:Hid ((B8s (leB S 4)).length=Nat.min 4 4):=Lib.hid (by rw [B8s_length,leB_length];rfl)
      have hfit:Hid (124+(B8s (leB S 4)).length≤(B8s (padded (body l xs))++cur).length):=Lib.hid (by rw [List.length_append,B8s_length,B8s_length,leB_length,HX3.out];omega)
      go_wp2_with fail
      go_region_law (first | (refine step_copy_splice rfl (.tmp 33) (.tmp 38) 76 76 rfl 5 Tryz.underlying76 sz8 _ _ _ _ _ _ rfl rfl g 124 (B8s (padded (body l xs))++cur) 5 (by exact HG4.out) (B8s (leB S 4)) hin.out (fun hp=>⟨rfl,HN4.out⟩) hfit.out B8s_one w.heap.size w (by exact HB4.out) hgB ?_;intro w5 hh5 hb5) | (go_simp;go_at_call 222;refine (sum_any (some ⟨g,0,none⟩) 124 cap (body l xs) _ HB.out ?_ (by unfold maxLen;omega) ?_).mono ?_;exact hS;exact hT3;rw [HSe.out];rintro e w' ⟨rfl,rfl⟩) | (go_simp;go_at_call 264;refine (number_any S 4 _ (by have:=HSl.out;omega) (by omega)).mono ?_;rintro e w4 ⟨v4,rfl,hown4,hb4⟩;obtain ⟨p4,cap4,rfl,hr4,hx4,_,_⟩:=own_rd hown4;have HG4:=Lib.hid ((hb4.block g (heap_lt HH.out)).trans HH.out);have HN4:=Lib.hid (hr4.news (by rw [hx4];omega));have HB4:=Lib.hid (hb03.trans (Below.mono (below_of_drew hb4) hb03.size));clear hown4 hb4 hr4 hx4))
      all_goals
        have e1:splice (B8s (padded (body l xs))++cur) 124 (B8s (leB S 4))=B8s (sector l xs)++cur:=by
          rw [splice_tail HB.out (leB_length 4 S),sector,HSe.out]
        have H5:Hid (w5.heap[g]?=some (.cells (B8s (sector l xs)++cur).toArray 5 (0,0))):=Lib.hid (by rw [hh5.out,e1])
        clear hh5 e1
        go_wp2
        go_ret2
        exact ⟨_,rfl,own8_mk hgB (by rw [H5.out,HE.out]) (by rw [HE.out];exact sector_length HX.out) HC.out hm3,hb5⟩
    · have hlz:((l:Int) == 0)=false:=by rw [beq_eq_false_iff_ne];omega
      clear hz hl0
      go_enter Tryz.func218,Tryz.ntmps218
      have hrW:=hr
      have hTW:=HT
      have hbW:=Below.refl w.heap.size w
      go_wp2_with fail
      refine (number_any l 8 _ (by have:=HL.out;omega) (Nat.le_refl _)).mono ?_
      rintro e w2 ⟨v2,rfl,hown2,hb2⟩
      obtain ⟨p2,cap2,rfl,hr2,hx2,_,_⟩:=own_rd hown2
      have HX2:=Lib.hid hx2
      clear hx2 hown2
      go_wp2_with fail
      have hr':=hrW.below ((Below.refl _ _).alloc (Nat.le_refl _) (Obj.cells #[Value.int IntKind.u8 80,Value.int IntKind.u8 0,Value.int IntKind.u8 0,Value.int IntKind.u8 0] 5))
      have hb02:Below w.heap.size w w2:=(hbW.alloc (by simp) _).trans (hb2.mono (by simp))
      refine (fill_any _ 3 3 [[0x50,0,0,0],leB l 8,xs] _ rfl (by omega) (parts3 hb2 hr2 HX2.out (hr'.below hb2) HX.out) (by rw [body_flat,body_length,HX.out];omega)).mono ?_
      rintro e w3 ⟨v3,rfl,hown3,hb3⟩
      rw [body_flat] at hown3
      obtain ⟨g,cap,cur,rfl,hg,hh,hx3,hc3,hm3⟩:=own8 hown3 (by omega)
      have hb03:Below w.heap.size w w3:=(hb02.alloc hb02.size _).trans (hb3.mono (by simp;exact Nat.le_succ_of_le hb02.size))
      have hT3:Halves w3:=((((hTW.out).below ((Below.refl _ _).alloc (Nat.le_refl _) _)).below hb2).below ((Below.refl _ _).alloc (Nat.le_refl _) _)).below hb3
      have hS:Rd w3 (some ⟨g,0,none⟩) (body l xs):=rd_front hh (show padded (body l xs)=body l xs++List.replicate (128 - (body l xs).length) 0 from rfl)
      have hbl:(body l xs).length=124:=by rw [body_length,HX.out]
      have HB:=Lib.hid hbl
      have HH:=Lib.hid hh
      have HC:=Lib.hid hc3
      have HX3:=Lib.hid hx3
      have hSl:=sumN_lt (body l xs)
      obtain ⟨S,hSe⟩:∃ S,sumN (body l xs)=S:=⟨_,rfl⟩
      rw [hSe] at hSl
      have HSe:=Lib.hid hSe
      have hwr:IntKind.u64.wrap ((S:Nat):Int)=S:=wrap_u64_small hSl
      have HSl:=Lib.hid hSl
      have hcap:(124:Int)≤(cap:Int):=by have:=HC.out;omega
      have hcne:(cap=124)=False:=eq_false (by have:=HC.out;omega)
      have hgB:w.heap.size≤g:=by have:=hb02.size;simp at hg;omega
      have hin:Hid ((B8s (leB S 4)).length=Nat.min 4 4):=Lib.hid (by rw [B8s_length,leB_length];rfl)
      have hfit:Hid (124+(B8s (leB S 4)).length≤(B8s (padded (body l xs))++cur).length):=Lib.hid (by rw [List.length_append,B8s_length,B8s_length,leB_length,HX3.out];omega)
      go_wp2_with fail
      go_region_law (first | (refine step_copy_splice rfl (.tmp 33) (.tmp 38) 76 76 rfl 5 Tryz.underlying76 sz8 _ _ _ _ _ _ rfl rfl g 124 (B8s (padded (body l xs))++cur) 5 (by exact HG4.out) (B8s (leB S 4)) hin.out (fun hp=>⟨rfl,HN4.out⟩) hfit.out B8s_one w.heap.size w (by exact HB4.out) hgB ?_;intro w5 hh5 hb5) | (go_simp;go_at_call 222;refine (sum_any (some ⟨g,0,none⟩) 124 cap (body l xs) _ HB.out ?_ (by unfold maxLen;omega) ?_).mono ?_;exact hS;exact hT3;rw [HSe.out];rintro e w' ⟨rfl,rfl⟩) | (go_simp;go_at_call 264;refine (number_any S 4 _ (by have:=HSl.out;omega) (by omega)).mono ?_;rintro e w4 ⟨v4,rfl,hown4,hb4⟩;obtain ⟨p4,cap4,rfl,hr4,hx4,_,_⟩:=own_rd hown4;have HG4:=Lib.hid ((hb4.block g (heap_lt HH.out)).trans HH.out);have HN4:=Lib.hid (hr4.news (by rw [hx4];omega));have HB4:=Lib.hid (hb03.trans (Below.mono (below_of_drew hb4) hb03.size));clear hown4 hb4 hr4 hx4))
      all_goals
        have e1:splice (B8s (padded (body l xs))++cur) 124 (B8s (leB S 4))=B8s (sector l xs)++cur:=by
          rw [splice_tail HB.out (leB_length 4 S),sector,HSe.out]
        have H5:Hid (w5.heap[g]?=some (.cells (B8s (sector l xs)++cur).toArray 5 (0,0))):=Lib.hid (by rw [hh5.out,e1])
        clear hh5 e1
        go_wp2
        go_ret2
        exact ⟨_,rfl,own8_mk hgB (by rw [H5.out,HE.out]) (by rw [HE.out];exact sector_length HX.out) HC.out hm3,hb5⟩
end Go.Proofs.YtheeomjfpnijbaaGreatDoor
namespace Go.Proofs.YtheeomjfpnijbaaGreatDoor
open Go.RowKit
theorem own_lit (w:World) (xs:List UInt8) {base:Nat} (hb:base≤w.heap.size) (hl:xs.length≤maxLen) :
    (w.alloc (.cells (B8s xs).toArray 5)).ownsRow base 5 1 (.slice (some ⟨w.heap.size,0,none⟩) xs.length xs.length) xs.length (B8s xs) :=
  own8_mk (cur:=[]) hb (by rw [List.append_nil];exact heap_alloc_new w _) rfl rfl hl
theorem wp_app8s {ops:Array Oper} {rest:List Oper} {o:Oper} {a:Act} {Q:Exit→Act→World→Prop} {w0 W:World} {base n m c:Nat} (hgd:o.guard=none) (s x:Operand)
    (ho:o.op=.call { callee:=.builtin .append,args:=#[s,x],argTypes:=#[76,76] })
    (v:Value) (xs ys:List UInt8) (p:Option Addr) (hs:a.eval s=v) (hx:a.eval x=.slice p m c) (hy:ys.length=m) (hr:Rd W p ys) (hm0:0 < m)
    (HO:W.ownsRow base 5 1 v n (B8s xs)) (HB:Below base w0 W) (hbase:base≤W.heap.size) (hl:n+m≤140737488355328)
    (h:∀ v1 w1,w1.ownsRow base 5 1 v1 (n+m) (B8s (xs++ys))→Below base w0 w1→wpList Tryz.prog ops Q rest (a.put o.dst v1) w1) :
    wpList Tryz.prog ops Q (o :: rest) a W:=by
  obtain ⟨i0,hi,hz0,hz1,hz2⟩:=info_parts info8
  obtain ⟨ad,rfl,hn⟩:=hr.news (by omega)
  refine wpList_append_own _ hgd s x 76 ho base 5 i0 (.int .u8 0) 1 1 Tryz.underlying76 hi hz0 hz1 hz2 rfl (by decide) v n (B8s xs) hs HO ad m c (B8s ys) hx (by rw [B8s_length,hy];omega)
    hn B8s_one (by simp only [maxLen];omega) (by omega) hbase ?_
  intro v1 w1 hown hg _
  refine h v1 w1 (by rw [show B8s (xs++ys)=B8s xs++B8s ys from by simp [B8s]];exact hown) (HB.grown hg hbase fun k hk=>(HO.lt k hk).1)
theorem rd_new (w:World) (ys:List UInt8):Rd (w.alloc (.cells (B8s ys).toArray 5)) (some ⟨w.heap.size,0,none⟩) ys :=
  rd_front (cur:=[]) (by rw [List.append_nil];exact heap_alloc_new w _) (show ys=ys++[] from (List.append_nil ys).symm)
theorem byte_at (l j:Nat):Value.int .u8 ((l:Int) / 2 ^ (8 * j) % 256)=B8 (UInt8.ofNat (l / 256 ^ j % 256)):=by
  have e:(256:Nat) ^ j=2 ^ (8 * j):=by rw [Nat.pow_mul]
  rw [e]
  unfold B8
  congr 1
  simp
theorem four_bytes {S:Nat} (h:S < 4294967296):#[Value.int .u8 ((S:Int) % 256),Value.int .u8 ((S:Int) / 256 % 256),Value.int .u8 ((S:Int) / 65536 % 256),Value.int .u8 ((S:Int) / 16777216 % 256)]=(B8s (leB S 4)).toArray:=by
  have e1:S / 256 / 256=S / 65536:=by omega
  have e2:S / 65536 / 256=S / 16777216:=by omega
  simp [leB,B8s,B8,e1,e2]
set_option maxHeartbeats 1000000 in
set_option maxRecDepth 20000 in
theorem refencode_ok (l:Nat) (p:Option Addr) (n c:Nat) (xs:List UInt8) (w:World) (hx:xs.length=n) (hr:Rd w p xs) (hc:n≤c) (hm:c≤maxLen) (h:eok l n) :
    Calls Tryz.prog 257 #[.int .i64 l,.slice p n c] w fun e w' =>
      ∃ v',e=.returned (.tuple #[v',.int .i64 0])∧w'.ownsRow w.heap.size 5 1 v' 128 (B8s (encV l xs))∧Below w.heap.size w w':=by
  obtain ⟨_,hl,rfl⟩:=h
  have h2:¬ (4611686018427387904:Int) < (l:Int):=by omega
  have HX:=Lib.hid hx
  have HM:=Lib.hid hm
  have HL:=Lib.hid hl
  have hmk:∀ W:World,(Instr.makeSlice 76 (.int .i64 128) (.int .i64 128)).run Tryz.prog W=.ok (.slice (some ⟨W.heap.size,0,none⟩) 128 128) (W.alloc (.cells (Zs 128) 5)):=make8 128 (by omega)
  clear hx hm hl
  by_cases hz:l=0∧allZ xs=true
  · obtain ⟨rfl,hz⟩:=hz
    have HE:Hid (encV 0 xs=List.replicate 128 0):=Lib.hid (by unfold encV;rw [if_pos ⟨rfl,hz⟩])
    have HZ:=Lib.hid hz
    clear hz
    go_enter Tryz.func257,Tryz.ntmps257
    go_wp2_with fail
    refine (noughts_any p 112 c xs _ HX.out hr (Nat.le_trans hc HM.out)).mono ?_
    rintro e w1 ⟨rfl,rfl⟩
    rw [HZ.out]
    go_wp2
    go_ret2
    refine ⟨_,rfl,?_,(Below.refl _ _).alloc (Nat.le_refl _) _⟩
    rw [HE.out,Zs_arr]
    exact own8_mk (cur:=[]) (Nat.le_refl _) (by rw [List.append_nil];exact heap_alloc_new w _) (by simp) rfl (by decide)
  · have HE:Hid (encV l xs=sector l xs):=Lib.hid (by unfold encV;rw [if_neg hz])
    by_cases hl0:l=0
    · have hzf:Hid (allZ xs=false):=Lib.hid (by rw [Bool.eq_false_iff];exact fun h=>hz ⟨hl0,h⟩)
      have hlz:((l:Int) == 0)=true:=by rw [beq_iff_eq];omega
      clear hz hl0
      go_enter Tryz.func257,Tryz.ntmps257
      go_wp2_with fail
      refine (noughts_any p 112 c xs _ HX.out hr (Nat.le_trans hc HM.out)).mono ?_
      rintro e w1 ⟨rfl,rfl⟩
      rw [hzf.out]
      go_wp2_with fail
      go_loopw [6,28] (fun v i wr=>∃ j:Nat,j≤8∧i=.int .i64 j∧Hid (wr.ownsRow w.heap.size 5 1 v (4+j) (B8s ([0x50,0,0,0]++leB l j)))∧Below w.heap.size w wr) (fun _ i _=>8 - (intOf i).toNat)
      case atStart=>exact ⟨0,by omega,rfl,Lib.hid (own_lit w [0x50,0,0,0] (Nat.le_refl _) (by decide)),(Below.refl _ _).alloc (Nat.le_refl _) _⟩
      case round =>
        obtain ⟨j,hj,rfl,HO,hb⟩:=hrel
        by_cases hlt:j < 8
        · go_wp2_with (at_builtin;refine wp_app8 (w0:=w) (base:=w.heap.size) (n:=4+j) rfl _ _ rfl _ _ ([0x50,0,0,0]++leB l j) (UInt8.ofNat (l / 256 ^ j % 256)) (byte_at l j) rfl rfl HO.out hb hb.size (by omega) ?_)
          intro v1 w1 hown1 hb1
          have HO1:=Lib.hid hown1
          clear hown1
          go_wp2
          go_roundw
          case rel=>exact ⟨j+1,by omega,by go_num,Lib.hid (by rw [leB_snoc,← List.append_assoc];exact HO1.out),hb1⟩
          case measure=>simp [intOf];omega
        · obtain rfl:j=8:=by omega
          have hrw:Rd wr p xs:=hr.below hb
          go_wp2_with (at_builtin;refine wp_app8s (w0:=w) (base:=w.heap.size) (n:=12) (m:=112) (c:=c) rfl _ _ rfl _ ([0x50,0,0,0]++leB l 8) xs p rfl rfl HX.out hrw (by omega) HO.out hb hb.size (by omega) ?_)
          intro v1 w1 hown1 hb1
          obtain ⟨p1,cap1,rfl,hr1,hx1,_,_⟩:=own_rd hown1
          have HO1:=Lib.hid hown1
          have HX1:Hid ((body l xs).length=124):=Lib.hid hx1
          have hr1':Rd w1 p1 (body l xs):=hr1
          clear hown1 hx1 hr1
          go_wp2_with fail
          refine (refsum_any p1 124 cap1 (body l xs) _ HX1.out hr1' (by unfold maxLen;omega)).mono ?_
          rintro e w2 ⟨rfl,rfl⟩
          have hSl:=sumN_lt (body l xs)
          have HSe:Hid (sector l xs=body l xs++leB (sumN (body l xs)) 4):=Lib.hid rfl
          generalize sumN (body l xs)=S at *
          have HF:=Lib.hid (four_bytes hSl)
          have hw8:IntKind.u8.wrap ((S:Nat):Int)=(S:Int) % 256:=IntKind.wrap_u8 _
          have hrd:Hid (Rd (w1.alloc (Obj.cells #[Value.int .u8 ((S:Int) % 256),Value.int .u8 ((S:Int) / 256 % 256),Value.int .u8 ((S:Int) / 65536 % 256),Value.int .u8 ((S:Int) / 16777216 % 256)] 5)) (some ⟨w1.heap.size,0,none⟩) (leB S 4)):=Lib.hid (by rw [HF.out];exact rd_new _ _)
          clear hSl
          go_wp2_with (at_builtin;refine wp_app8s (w0:=w) (base:=w.heap.size) (n:=124) (m:=4) (c:=4) rfl _ _ rfl _ (body l xs) (leB S 4) _ rfl rfl (leB_length 4 S) hrd.out (by omega) (HO1.out.alloc _) (hb1.alloc hb1.size _) (by simp;exact Nat.le_succ_of_le hb1.size) (by omega) ?_)
          intro v5 w5 hown5 hb5
          have HO5:=Lib.hid hown5
          clear hown5
          go_wp2
          go_ret2
          exact ⟨_,rfl,by rw [HE.out,HSe.out];exact HO5.out,hb5⟩
    · have hlz:((l:Int) == 0)=false:=by rw [beq_eq_false_iff_ne];omega
      clear hz hl0
      go_enter Tryz.func257,Tryz.ntmps257
      go_wp2_with fail
      go_loopw [6,28] (fun v i wr=>∃ j:Nat,j≤8∧i=.int .i64 j∧Hid (wr.ownsRow w.heap.size 5 1 v (4+j) (B8s ([0x50,0,0,0]++leB l j)))∧Below w.heap.size w wr) (fun _ i _=>8 - (intOf i).toNat)
      case atStart=>exact ⟨0,by omega,rfl,Lib.hid (own_lit w [0x50,0,0,0] (Nat.le_refl _) (by decide)),(Below.refl _ _).alloc (Nat.le_refl _) _⟩
      case round =>
        obtain ⟨j,hj,rfl,HO,hb⟩:=hrel
        by_cases hlt:j < 8
        · go_wp2_with (at_builtin;refine wp_app8 (w0:=w) (base:=w.heap.size) (n:=4+j) rfl _ _ rfl _ _ ([0x50,0,0,0]++leB l j) (UInt8.ofNat (l / 256 ^ j % 256)) (byte_at l j) rfl rfl HO.out hb hb.size (by omega) ?_)
          intro v1 w1 hown1 hb1
          have HO1:=Lib.hid hown1
          clear hown1
          go_wp2
          go_roundw
          case rel=>exact ⟨j+1,by omega,by go_num,Lib.hid (by rw [leB_snoc,← List.append_assoc];exact HO1.out),hb1⟩
          case measure=>simp [intOf];omega
        · obtain rfl:j=8:=by omega
          have hrw:Rd wr p xs:=hr.below hb
          go_wp2_with (at_builtin;refine wp_app8s (w0:=w) (base:=w.heap.size) (n:=12) (m:=112) (c:=c) rfl _ _ rfl _ ([0x50,0,0,0]++leB l 8) xs p rfl rfl HX.out hrw (by omega) HO.out hb hb.size (by omega) ?_)
          intro v1 w1 hown1 hb1
          obtain ⟨p1,cap1,rfl,hr1,hx1,_,_⟩:=own_rd hown1
          have HO1:=Lib.hid hown1
          have HX1:Hid ((body l xs).length=124):=Lib.hid hx1
          have hr1':Rd w1 p1 (body l xs):=hr1
          clear hown1 hx1 hr1
          go_wp2_with fail
          refine (refsum_any p1 124 cap1 (body l xs) _ HX1.out hr1' (by unfold maxLen;omega)).mono ?_
          rintro e w2 ⟨rfl,rfl⟩
          have hSl:=sumN_lt (body l xs)
          have HSe:Hid (sector l xs=body l xs++leB (sumN (body l xs)) 4):=Lib.hid rfl
          generalize sumN (body l xs)=S at *
          have HF:=Lib.hid (four_bytes hSl)
          have hw8:IntKind.u8.wrap ((S:Nat):Int)=(S:Int) % 256:=IntKind.wrap_u8 _
          have hrd:Hid (Rd (w1.alloc (Obj.cells #[Value.int .u8 ((S:Int) % 256),Value.int .u8 ((S:Int) / 256 % 256),Value.int .u8 ((S:Int) / 65536 % 256),Value.int .u8 ((S:Int) / 16777216 % 256)] 5)) (some ⟨w1.heap.size,0,none⟩) (leB S 4)):=Lib.hid (by rw [HF.out];exact rd_new _ _)
          clear hSl
          go_wp2_with (at_builtin;refine wp_app8s (w0:=w) (base:=w.heap.size) (n:=124) (m:=4) (c:=4) rfl _ _ rfl _ (body l xs) (leB S 4) _ rfl rfl (leB_length 4 S) hrd.out (by omega) (HO1.out.alloc _) (hb1.alloc hb1.size _) (by simp;exact Nat.le_succ_of_le hb1.size) (by omega) ?_)
          intro v5 w5 hown5 hb5
          have HO5:=Lib.hid hown5
          clear hown5
          go_wp2
          go_ret2
          exact ⟨_,rfl,by rw [HE.out,HSe.out];exact HO5.out,hb5⟩
end Go.Proofs.YtheeomjfpnijbaaGreatDoor
