/- Lemmas: Trim. -/
import Derived.Test.YtheeomjfpnijbaaGreatDoorCrcP
import Derived.Deep.DeepFit
import Derived.Deep.RegionWith
import Derived.Maps.AppendAt
import Derived.Laws.OwnMore
import Derived.Deep.OwnRows
set_option linter.unusedVariables false
namespace Go.Proofs.YtheeomjfpnijbaaGreatDoor
open Go.RowKit
def allZ (xs:List UInt8):Bool:=xs.all (· == 0)
theorem allZ_iff (xs:List UInt8):allZ xs=true ↔ ∀ i (h:i < xs.length),(xs[i]).toNat=0:=by
  unfold allZ
  rw [List.all_eq_true]
  constructor
  · intro h i hi
    have:=h xs[i] (List.getElem_mem hi)
    rw [beq_iff_eq] at this
    rw [this];rfl
  · intro h x hx
    obtain ⟨i,hi,rfl⟩:=List.getElem_of_mem hx
    rw [beq_iff_eq,← UInt8.toNat_inj]
    exact h i hi
set_option maxHeartbeats 400000 in
theorem noughts_any (p:Option Addr) (n c:Nat) (xs:List UInt8) (w:World) (hx:xs.length=n) (h1:Rd w p xs) (hm:n≤maxLen) :
    Calls Tryz.prog 255 #[.slice p n c] w fun e w'=>e=.returned (.bool (allZ xs))∧w=w':=by
  unfold maxLen at hm
  have HX:=Lib.hid hx
  clear hx
  go_enter Tryz.func255,Tryz.ntmps255
  go_wp2
  go_loop [7] (fun i=>∃ k:Nat,k≤n∧i=.int .i64 k∧Hid (∀ j (h:j < xs.length),j < k→(xs[j]).toNat=0)) (fun i=>n - (intOf i).toNat)
  case atStart=>exact ⟨0,Nat.zero_le _,rfl,Lib.hid (fun j h h'=>absurd h' (Nat.not_lt_zero _))⟩
  case round =>
    obtain ⟨k,hk,rfl,HZ⟩:=hrel
    by_cases hlt:k < n
    · have hkl:k < xs.length:=by rw [HX.out];exact hlt
      obtain ⟨b,o,rfl,k1⟩:=rd_cell h1 (k:=k) hkl
      unfold B8 at k1
      by_cases hz:(xs[k]).toNat=0
      · have hzb:(((xs[k]).toNat:Int) != 0)=false:=by rw [bne_eq_false_iff_eq];omega
        have HN:=Lib.hid (show ∀ j (h:j < xs.length),j < k+1→(xs[j]).toNat=0 from fun j h h'=>by
          rcases Nat.lt_or_ge j k with h2 | h2
          · exact HZ.out j h h2
          · obtain rfl:j=k:=by omega
            exact hz)
        clear hz
        go_wp2
        go_round
        case rel=>exact ⟨k+1,by omega,by go_num,HN⟩
        case measure=>simp [intOf];omega
      · have hzb:(((xs[k]).toNat:Int) != 0)=true:=by rw [bne_iff_ne];omega
        have e:allZ xs=false:=by
          rw [Bool.eq_false_iff]
          intro h
          exact hz ((allZ_iff xs).1 h k hkl)
        have HE:=Lib.hid e
        clear hz e
        go_wp2
        go_ret
        exact ⟨by rw [HE.out];rfl,rfl⟩
    · have e:allZ xs=true:=(allZ_iff xs).2 fun i h=>HZ.out i h (by have:=HX.out;omega)
      have HE:=Lib.hid e
      clear e
      go_wp2
      go_ret
      exact ⟨by rw [HE.out];rfl,rfl⟩
set_option maxHeartbeats 400000 in
theorem trimRight_any (p:Option Addr) (n c:Nat) (xs:List UInt8) (w:World) (hx:xs.length=n) (h1:Rd w p xs) (hc:n≤c) (hm:c≤maxLen) :
    Calls Tryz.prog 298 #[.slice p n c,.int .u8 0] w fun e w'=>(∃ k,e=.returned (.slice p k c)∧k≤n∧(allZ (xs.take k)=allZ xs))∧w=w':=by
  unfold maxLen at hm
  have HX:=Lib.hid hx
  clear hx
  go_enter Tryz.func298,Tryz.ntmps298
  go_wp2
  go_loop [0] (fun s=>∃ k:Nat,k≤n∧s=.slice p k c∧Hid (∀ j (h:j < xs.length),k≤j→(xs[j]).toNat=0)) (fun s=>match s with | .slice _ k _=>k | _=>0)
  case atStart=>exact ⟨n,Nat.le_refl _,rfl,Lib.hid (fun j h h'=>by have:=HX.out;omega)⟩
  case round =>
    obtain ⟨k,hk,rfl,HZ⟩:=hrel
    have HE:=Lib.hid (show allZ (xs.take k)=allZ xs from by
      rw [Bool.eq_iff_iff,allZ_iff,allZ_iff]
      constructor
      · intro h i hi
        rcases Nat.lt_or_ge i k with h2 | h2
        · have:=h i (by simp;omega)
          rw [List.getElem_take] at this
          exact this
        · exact HZ.out i hi h2
      · intro h i hi
        rw [List.getElem_take]
        exact h i _)
    by_cases h0:k=0
    · subst h0
      go_wp2
      go_ret
      exact ⟨⟨0,rfl,Nat.zero_le _,HE.out⟩,rfl⟩
    · obtain ⟨k,rfl⟩:∃ k',k=k'+1:=⟨k - 1,by omega⟩
      have hkl:k < xs.length:=by rw [HX.out];omega
      obtain ⟨b,o,rfl,k1⟩:=rd_cell h1 (k:=k) hkl
      unfold B8 at k1
      by_cases hz:(xs[k]).toNat=0
      · have hzb:(((xs[k]).toNat:Int) == 0)=true:=by rw [beq_iff_eq];omega
        have HN:=Lib.hid (show ∀ j (h:j < xs.length),k≤j→(xs[j]).toNat=0 from fun j h h'=>by
          rcases Nat.lt_or_ge k j with h2 | h2
          · exact HZ.out j h h2
          · obtain rfl:j=k:=by omega
            exact hz)
        clear hz
        go_wp2
        go_round
        case rel=>exact ⟨k,by omega,rfl,HN⟩
        case measure=>simp
      · have hzb:(((xs[k]).toNat:Int) == 0)=false:=by rw [beq_eq_false_iff_ne];omega
        clear hz
        go_wp2
        go_ret
        exact ⟨⟨k+1,rfl,hk,HE.out⟩,rfl⟩
theorem Rd.take {w:World} {p:Option Addr} {xs:List UInt8} (h:Rd w p xs) (k:Nat):Rd w p (xs.take k):=fun hne=>by
  have hpos:0 < xs.length:=by
    rcases xs with _ | ⟨x,xs⟩
    · simp [B8s] at hne
    · simp
  obtain ⟨b,o,e,hc⟩:=h.at hpos
  refine ⟨b,o,e,fun i v hv=>?_⟩
  have hi:i < k∧i < xs.length:=by
    have:=(List.getElem?_eq_some_iff.1 hv).1
    simp [B8s] at this
    omega
  rw [hc i hi.2,← hv]
  simp [B8s,hi.1,List.getElem?_eq_getElem hi.2]
theorem allZ_cons {x:UInt8} {xs:List UInt8}:allZ (x :: xs)=(x == 0 && allZ xs):=rfl
theorem Rd.tail {w:World} {b o:Nat} {x:UInt8} {xs:List UInt8} (h:Rd w (some ⟨b,o,none⟩) (x :: xs)):Rd w (some ⟨b,o+1,none⟩) xs:=by
  obtain ⟨b',o',e,hc⟩:=h.at (by simp)
  cases e
  refine fun hne=>⟨b,o+1,rfl,fun i v hv=>?_⟩
  have hi:i < xs.length:=by
    have:=(List.getElem?_eq_some_iff.1 hv).1
    simpa [B8s] using this
  have:=hc (i+1) (by simp;omega)
  rw [show o+1+i=o+(i+1) from by omega,this,← hv]
  simp [B8s,List.getElem?_eq_getElem hi]
def TrimQ (xs:List UInt8) (e:Ending):Prop:=∃ p k c,e=.returned (.slice p k c)∧(k=0 ↔ allZ xs=true)
set_option maxHeartbeats 400000 in
theorem trimLeft_any (p:Option Addr) (n c:Nat) (xs:List UInt8) (w:World) (hx:xs.length=n) (h1:Rd w p xs) (hc:n≤c) (hm:c≤maxLen) :
    Calls Tryz.prog 297 #[.slice p n c,.int .u8 0] w fun e w'=>TrimQ xs e∧w=w':=by
  unfold maxLen at hm
  have HX:=Lib.hid hx
  clear hx
  go_enter Tryz.func297,Tryz.ntmps297
  go_wp2
  go_loop [0] (fun s=>∃ (q:Option Addr) (k d:Nat) (ys:List UInt8),s=.slice q k d∧k≤d∧d≤c∧Hid (ys.length=k)∧Rd w q ys∧Hid (allZ ys=allZ xs)) (fun s=>match s with | .slice _ k _=>k | _=>0)
  case atStart=>exact ⟨p,n,c,xs,rfl,hc,Nat.le_refl _,HX,h1,Lib.hid rfl⟩
  case round =>
    obtain ⟨q,k,d,ys,rfl,hkd,hdc,HY,hr,HZ⟩:=hrel
    by_cases h0:k=0
    · subst h0
      obtain rfl:ys=[]:=List.eq_nil_of_length_eq_zero HY.out
      go_wp2
      go_ret
      exact ⟨⟨none,0,0,rfl,⟨fun _=>HZ.out.symm,fun _=>rfl⟩⟩,rfl⟩
    · obtain ⟨k,rfl⟩:∃ k',k=k'+1:=⟨k - 1,by omega⟩
      obtain ⟨y,ys,rfl⟩:∃ y ys',ys=y :: ys':=by
        rcases ys with _ | ⟨y,ys⟩
        · exact absurd HY.out (by simp)
        · exact ⟨y,ys,rfl⟩
      obtain ⟨b,o,rfl,k1⟩:=rd_cell hr (k:=0) (by simp)
      have k1:w.cell? ⟨b,o,none⟩=some (.int .u8 (y.toNat:Int)):=k1
      by_cases hz:y=0
      · have hzb:((y.toNat:Int) == 0)=true:=by rw [hz];rfl
        have HN:Hid (allZ ys=allZ xs):=Lib.hid (by rw [← HZ.out,allZ_cons,hz];rfl)
        have hl:Hid (ys.length=k):=Lib.hid (by have:=HY.out;simpa using this)
        have ht:=hr.tail
        by_cases hd1:d=1
        · have hk0:k=0:=by omega
          subst hk0
          subst hd1
          clear hz
          go_wp2
          go_round
          case rel=>exact ⟨_,0,0,ys,rfl,Nat.le_refl _,Nat.zero_le _,hl,by rw [List.eq_nil_of_length_eq_zero hl.out];exact Rd.nil _ _,HN⟩
          case measure=>simp
        · clear hz
          go_wp2
          go_round
          case rel=>exact ⟨_,k,d - 1,ys,rfl,by omega,by omega,hl,ht,HN⟩
          case measure=>simp
      · have hzb:((y.toNat:Int) == 0)=false:=by
          rw [beq_eq_false_iff_ne]
          intro h
          exact hz (UInt8.toNat_inj.1 (by simpa using h))
        have HF:Hid (allZ xs=false):=Lib.hid (by rw [← HZ.out,allZ_cons,show (y == 0)=false from by simpa using hz];rfl)
        clear hz
        go_wp2
        go_ret
        exact ⟨⟨_,k+1,d,rfl,⟨fun h=>by omega,fun h=>by rw [HF.out] at h;cases h⟩⟩,rfl⟩
set_option maxHeartbeats 400000 in
set_option maxRecDepth 20000 in
theorem trim_any (p:Option Addr) (n c:Nat) (xs:List UInt8) (w:World) (hx:xs.length=n) (h1:Rd w p xs) (hc:n≤c) (hm:c≤maxLen) :
    Calls Tryz.prog 288 #[.slice p n c,.string ⟨#[0]⟩] w fun e w'=>TrimQ xs e∧∃ j,w'=w.drewN j:=by
  have HM:=Lib.hid hm
  clear hm
  by_cases h0:n=0
  · subst h0
    obtain rfl:xs=[]:=List.eq_nil_of_length_eq_zero hx
    go_enter Tryz.func288,Tryz.ntmps288
    go_wp2
    go_ret
    exact ⟨⟨none,0,0,rfl,⟨fun _=>rfl,fun _=>rfl⟩⟩,0,rfl⟩
  · have HX:=Lib.hid hx
    have hn0:((n:Int) == 0)=false:=by rw [beq_eq_false_iff_ne];omega
    have K1:=Lib.hid h1
    have K0:=Lib.hid h0
    clear hx h1 h0
    go_enter Tryz.func288,Tryz.ntmps288
    have hb0:((({ data:=#[0] }:ByteArray)[0]'(by decide)).toNat:Int)=0:=rfl
    go_wp2_with fail
    go_region_with (first | (go_at_call 298;refine (trimRight_any p n c xs _ HX.out ?_ hc HM.out).mono ?_;exact K1.out;rintro e w' ⟨⟨k,rfl,hk,hz⟩,rfl⟩) | (go_at_call 297;refine (trimLeft_any p _ c (xs.take _) _ (by rw [List.length_take,HX.out];exact Nat.min_eq_left (by assumption)) ?_ (Nat.le_trans (by assumption) hc) HM.out).mono ?_;exact K1.out.take _;rintro e w' ⟨⟨p',k',c',rfl,hk'⟩,rfl⟩))
    all_goals go_wp2
    all_goals go_ret
    all_goals exact ⟨⟨_,_,_,rfl,by rw [hk',hz]⟩,1,rfl⟩
set_option maxHeartbeats 400000 in
theorem empty_any (p:Option Addr) (n c:Nat) (xs:List UInt8) (w:World) (hx:xs.length=n) (h1:Rd w p xs) (hc:n≤c) (hm:c≤maxLen) :
    Calls Tryz.prog 262 #[.slice p n c] w fun e w'=>e=.returned (.bool (allZ xs))∧∃ j,w'=w.drewN j:=by
  have HX:=Lib.hid hx
  have HM:=Lib.hid hm
  clear hx hm
  go_enter Tryz.func262,Tryz.ntmps262
  go_wp2_with fail
  refine (trim_any p n c xs _ HX.out h1 hc HM.out).mono ?_
  rintro e w' ⟨⟨p',k',c',rfl,hk'⟩,j,rfl⟩
  have e:allZ xs=((k':Int) == 0):=by
    rw [Bool.eq_iff_iff,← hk',beq_iff_eq];omega
  have HE:=Lib.hid e
  clear hk' e
  go_wp2
  go_ret
  exact ⟨by rw [HE.out];rfl,j,rfl⟩
end Go.Proofs.YtheeomjfpnijbaaGreatDoor
namespace Go.Proofs.YtheeomjfpnijbaaGreatDoor
open Go.RowKit
def leB:Nat→Nat→List UInt8
  | _,0=>[]
  | n,k+1=>UInt8.ofNat (n % 256) :: leB (n / 256) k
theorem leB_length:∀ k n,(leB n k).length=k
  | 0,_=>rfl
  | k+1,n=>by simp [leB,leB_length k]
theorem leB_snoc:∀ k n,leB n (k+1)=leB n k++[UInt8.ofNat (n / 256 ^ k % 256)]
  | 0,n=>by simp [leB]
  | k+1,n=>by
    rw [leB,leB_snoc k (n / 256),leB,Nat.div_div_eq_div_mul,Nat.pow_succ',List.cons_append]
theorem B8s_snoc (xs:List UInt8) (y:UInt8):B8s (xs++[y])=B8s xs++[B8 y]:=by simp [B8s]
theorem wp_app8 {ops:Array Oper} {rest:List Oper} {o:Oper} {a:Act} {Q:Exit→Act→World→Prop} {w0 W:World} {base n:Nat} (hgd:o.guard=none) (s x:Operand)
    (ho:o.op=.call { callee:=.builtin .append,args:=#[s,x],argTypes:=#[76,76] })
    (v yv:Value) (xs:List UInt8) (y:UInt8) (hy:yv=B8 y) (hs:a.eval s=v) (hx:a.eval x=.slice (some ⟨W.heap.size,0,none⟩) 1 1)
    (HO:W.ownsRow base 5 1 v n (B8s xs)) (HB:Below base w0 W) (hbase:base≤W.heap.size) (hl:n < 140737488355328)
    (h:∀ v1 w1,w1.ownsRow base 5 1 v1 (n+1) (B8s (xs++[y]))→Below base w0 w1→wpList Tryz.prog ops Q rest (a.put o.dst v1) w1) :
    wpList Tryz.prog ops Q (o :: rest) a (W.alloc (.cells #[yv] 5)):=by
  obtain ⟨i0,hi,hz0,hz1,hz2⟩:=info_parts info8
  subst hy
  refine wpList_append_own _ hgd s x 76 ho base 5 i0 (.int .u8 0) 1 1 Tryz.underlying76 hi hz0 hz1 hz2 rfl (by decide) v n (B8s xs) hs (HO.alloc _) ⟨W.heap.size,0,none⟩ 1 1 [B8 y] hx rfl
    (cell_one_new _ _ _) (by simp [B8,Value.oneCell']) (by simp only [maxLen];omega) (by omega) (by simp;omega) ?_
  intro v1 w1 hown hg _
  refine h v1 w1 (by rw [B8s_snoc];exact hown) ((HB.alloc hbase _).grown hg (by simp;omega) fun k hk=>?_)
  exact (HO.lt k hk).1
set_option maxHeartbeats 400000 in
set_option maxRecDepth 20000 in
theorem number_any (N k:Nat) (w:World) (hN:N < 18446744073709551616) (hk:k≤8) :
    Calls Tryz.prog 264 #[.int .u64 N,.int .i64 k] w fun e w'=>∃ v',e=.returned v'∧w'.ownsRow w.heap.size 5 1 v' k (B8s (leB N k))∧Below w.heap.size w w':=by
  have HN:=Lib.hid hN
  clear hN
  go_enter Tryz.func264,Tryz.ntmps264
  go_wp2
  go_loopw [0,5,7] (fun m v i wr=>∃ j M:Nat,j≤k∧i=.int .i64 j∧m=.int .u64 M∧Hid (M=N / 256 ^ j)∧Hid (wr.ownsRow w.heap.size 5 1 v j (B8s (leB N j)))∧Below w.heap.size w wr) (fun _ _ i _=>k - (intOf i).toNat)
  case atStart=>exact ⟨0,N,Nat.zero_le _,rfl,rfl,Lib.hid (by simp),Lib.hid (World.ownsRow_nil _ _ _ _),Below.refl _ _⟩
  case round =>
    obtain ⟨j,M,hj,rfl,rfl,HM,HO,hb⟩:=hrel
    by_cases hlt:j < k
    · go_wp2_with (at_builtin;refine wp_app8 (w0:=w) (base:=w.heap.size) (n:=j) rfl _ _ rfl _ _ (leB N j) (UInt8.ofNat (N / 256 ^ j % 256)) ?hy rfl rfl HO.out hb hb.size ?hl ?_)
      case hy=>rw [← HM.out];simp [B8]
      case hl=>omega
      intro v1 w1 hown1 hb1
      have HO1:=Lib.hid hown1
      clear hown1
      go_wp2
      go_roundw
      case rel=>exact ⟨j+1,M / 256,by omega,by go_num,by simp,Lib.hid (by rw [HM.out,Nat.div_div_eq_div_mul,Nat.pow_succ]),Lib.hid (by rw [leB_snoc];exact HO1.out),hb1⟩
      case measure=>simp [intOf];omega
    · obtain rfl:j=k:=by omega
      go_wp2
      go_ret
      exact ⟨_,rfl,HO.out,hb⟩
end Go.Proofs.YtheeomjfpnijbaaGreatDoor
namespace Go.Proofs.YtheeomjfpnijbaaGreatDoor
open Go.RowKit Go.Deep
def Zs (n:Nat):Array Value:=madeCells #[.int .u8 0] n
theorem Zs_list (n:Nat):(Zs n).toList=B8s (List.replicate n 0):=by
  unfold Zs
  rw [toList_madeCells_one]
  simp [B8s,B8]
theorem Zs_arr (n:Nat):Zs n=(B8s (List.replicate n 0)).toArray:=by
  rw [← Zs_list]
theorem make8 (m:Nat) (hm:m≤281474976710656) (W:World) :
    (Instr.makeSlice 76 (.int .i64 (m:Int)) (.int .i64 (m:Int))).run Tryz.prog W=.ok (.slice (some ⟨W.heap.size,0,none⟩) m m) (W.alloc (.cells (Zs m) 5)) :=
  run_make_row' 76 5 (.int .u8 0) 1 Tryz.underlying76 info8 rfl .i64 .i64 m (by omega) (by omega) W
def PartsRd (w:World) (p:Option Addr) (ps:List (List UInt8)):Prop :=
  ∀ k (h:k < ps.length),∃ b o q c,p=some ⟨b,o,none⟩∧w.cell? ⟨b,o+k,none⟩=some (.slice q (ps[k]).length c)∧Rd w q ps[k]
theorem flat_take_succ {ps:List (List UInt8)} {k:Nat} (hk:k < ps.length):(ps.take (k+1)).flatten=(ps.take k).flatten++ps[k]:=by
  rw [List.take_succ_eq_append_getElem hk,List.flatten_append]
  simp
theorem flat_take_le (ps:List (List UInt8)) (k:Nat):((ps.take k).flatten).length≤ps.flatten.length:=by
  have:ps.flatten=(ps.take k).flatten++(ps.drop k).flatten:=by rw [← List.flatten_append,List.take_append_drop]
  rw [this,List.length_append]
  omega
def padded (xs:List UInt8):List UInt8:=xs++List.replicate (128 - xs.length) 0
theorem padded_length {xs:List UInt8} (h:xs.length≤128):(padded xs).length=128:=by simp [padded];omega
set_option maxHeartbeats 400000 in
set_option maxRecDepth 20000 in
theorem fill_any (p:Option Addr) (n c:Nat) (ps:List (List UInt8)) (w:World) (hn:ps.length=n) (hn3:n≤9223372036854775807) (h:PartsRd w p ps) (hf:ps.flatten.length < 128) :
    Calls Tryz.prog 263 #[.slice p n c] w fun e w'=>∃ v',e=.returned v'∧w'.ownsRow w.heap.size 5 1 v' 128 (B8s (padded ps.flatten))∧Below w.heap.size w w':=by
  have HN:=Lib.hid hn
  have hmk:=make8 128 (by omega)
  have hmk':∀ W:World,(Instr.makeSlice 76 (.int .i64 128) (.int .i64 128)).run Tryz.prog W=.ok (.slice (some ⟨W.heap.size,0,none⟩) 128 128) (W.alloc (.cells (Zs 128) 5)):=hmk
  clear hn hmk
  go_enter Tryz.func263,Tryz.ntmps263
  go_wp2
  go_loopw [4,10] (fun t i wr=>∃ k at':Nat,k≤n∧i=.int .i64 k∧t=.int .i64 at'∧Hid (at'=(ps.take k).flatten.length)∧Hid (wr.heap[w.heap.size]?=some (.cells (B8s (padded (ps.take k).flatten)).toArray 5 (0,0)))∧Below w.heap.size w wr) (fun _ i _=>n - (intOf i).toNat)
  case atStart=>exact ⟨0,0,Nat.zero_le _,rfl,rfl,Lib.hid rfl,Lib.hid (by rw [heap_alloc_new,Zs_arr];rfl),(Below.refl _ w).alloc (Nat.le_refl _) _⟩
  case round =>
    obtain ⟨k,at',hk,rfl,rfl,HA,HC,hb⟩:=hrel
    by_cases hlt:k < n
    · have hkl:k < ps.length:=by rw [HN.out];exact hlt
      obtain ⟨b,o,q,cq,rfl,hc,hr⟩:=h k hkl
      have hc':=(hb.cell (cell_lt hc)).trans hc
      have hle:at'+(ps[k]).length < 128:=by
        have:=flat_take_le ps (k+1)
        rw [flat_take_succ hkl,List.length_append] at this
        have:=HA.out
        omega
      have HS:=Lib.hid (flat_take_succ hkl)
      have hrq:Rd wr q ps[k]:=hr.below hb
      have hlen:(padded (ps.take k).flatten).length=128:=padded_length (by have:=flat_take_le ps k;omega)
      have HQ:=Lib.hid hrq
      have HLen:=Lib.hid hlen
      clear hc hr hrq hlen
      have hmin:Hid ((B8s ps[k]).length=Nat.min (ps[k]).length (128 - at')):=Lib.hid (by rw [B8s_length];show _=min _ _;omega)
      have hsz8:(Tryz.prog.info? 5).map (·.size)=some 1:=by kernel_rfl
      go_wp2_with (with_reducible (refine wpList_copy_splice rfl (.tmp 17) (.tmp 18) 76 76 rfl 5 Tryz.underlying76 hsz8 _ _ _ _ _ _ rfl rfl w.heap.size at' (B8s (padded (ps.take k).flatten)) 5 HC.out (B8s ps[k]) hmin.out ?n2 ?n3 B8s_one w.heap.size w hb (Nat.le_refl _) ?_))
      case n2=>intro hp;rw [B8s_length] at hp;exact HQ.out.news hp
      case n3=>rw [B8s_length,B8s_length,HLen.out];omega
      intro w2 hh2 hb2
      have e1:splice (B8s (padded (ps.take k).flatten)) at' (B8s ps[k])=B8s (padded (ps.take (k+1)).flatten):=by
        have ha:=HA.out
        have hl:(ps.take k).flatten.length≤128:=by have:=flat_take_le ps k;omega
        rw [HS.out]
        unfold splice padded B8s
        generalize (ps.take k).flatten=xs at *
        generalize ps[k]=ys at *
        subst ha
        rw [← List.map_take,← List.map_drop,← List.map_append,← List.map_append]
        congr 1
        rw [List.take_left,List.length_map,List.length_append,List.append_assoc]
        congr 1
        congr 1
        rw [List.drop_append,List.drop_of_length_le (by omega),List.nil_append,List.drop_replicate]
        congr 1
        omega
      have H2:Hid (w2.heap[w.heap.size]?=some (.cells (B8s (padded (ps.take (k+1)).flatten)).toArray 5 (0,0))):=Lib.hid (by rw [hh2.out,e1])
      have HA2:Hid (at'+(ps[k]).length=(ps.take (k+1)).flatten.length):=Lib.hid (by rw [HS.out,List.length_append,HA.out])
      have hbl:=B8s_length ps[k]
      clear hh2 e1
      go_wp2
      go_roundw
      case rel=>exact ⟨k+1,at'+(ps[k]).length,by omega,by go_num,by go_num,HA2,H2,hb2⟩
      case measure=>simp [intOf];omega
    · obtain rfl:k=n:=by omega
      have e:ps.take k=ps:=List.take_of_length_le (by rw [HN.out];exact Nat.le_refl _)
      rw [e] at HC
      have hl:(padded ps.flatten).length=128:=padded_length (by omega)
      go_wp2
      go_ret
      refine ⟨_,rfl,⟨by rw [B8s_length,hl],.inr ⟨w.heap.size,128,_,rfl,Nat.le_refl _,HC.out,Nat.le_refl _,by decide,by simp [B8s_length,hl],?_⟩⟩,hb⟩
      show List.take (128 * 1) (B8s (padded ps.flatten))=_
      rw [List.take_of_length_le (by rw [B8s_length,hl];decide)]
end Go.Proofs.YtheeomjfpnijbaaGreatDoor
