/- Lemmas: PutP. -/
import Derived.Test.YtheeomjfpnijbaaGreatDoorEncodeP
import Derived.Deep.Upon
import Derived.Laws.AppendOwnNone
set_option linter.unusedVariables false
namespace Go.Proofs.YtheeomjfpnijbaaGreatDoor
open Go.RowKit
theorem own_slice {w:World} {base n:Nat} {v:Value} {xs:List UInt8} (h:w.ownsRow base 5 1 v n (B8s xs)):∃ p c,v=.slice p n c∧n≤c:=by
  rcases Nat.eq_zero_or_pos n with hn | hn
  · subst hn
    rcases h.2 with ⟨rfl,_⟩ | ⟨g,cap,cur,rfl,hb,hh,h1,_⟩
    · exact ⟨none,0,rfl,Nat.le_refl _⟩
    · exact ⟨_,cap,rfl,Nat.zero_le _⟩
  · obtain ⟨g,cap,cur,rfl,hb,hh,hx,hc,hm⟩:=own8 h hn
    exact ⟨_,cap,rfl,by omega⟩
theorem wp_appx {ops:Array Oper} {rest:List Oper} {o:Oper} {a:Act} {Q:Exit→Act→World→Prop} {w0 W:World} {base n m c:Nat} (hgd:o.guard=none) (s x:Operand)
    (ho:o.op=.call { callee:=.builtin .append,args:=#[s,x],argTypes:=#[76,76] })
    (v:Value) (xs ys:List UInt8) (p:Option Addr) (hs:a.eval s=v) (hx:a.eval x=.slice p m c) (hy:ys.length=m) (hr:Rd W p ys)
    (HO:W.ownsRow base 5 1 v n (B8s xs)) (HB:Below base w0 W) (hbase:base≤W.heap.size) (hl:n+m≤140737488355328)
    (h:∀ v1 w1,w1.ownsRow base 5 1 v1 (n+m) (B8s (xs++ys))→Below base w0 w1→wpList Tryz.prog ops Q rest (a.put o.dst v1) w1) :
    wpList Tryz.prog ops Q (o :: rest) a W:=by
  rcases Nat.eq_zero_or_pos m with hm | hm
  · subst hm
    obtain rfl:ys=[]:=List.eq_nil_of_length_eq_zero hy
    obtain ⟨i0,hi,hz0,hz1,hz2⟩:=info_parts info8
    obtain ⟨q,cq,rfl,hq⟩:=own_slice HO
    refine wpList_plain hgd fun K hK=>?_
    have hsrc:Src Tryz.prog i0.size 76 (.slice p 0 c) 0 [] W:=by
      cases p with
      | none=>exact Src.ofNil W Tryz.underlying76 c
      | some ad=>exact Src.ofSlice W Tryz.underlying76 ad 0 c [] (by simp) (fun j u hj=>by simp at hj) (fun u hu=>by cases hu)
    have hrun:=run_append_nothing (P:=Tryz.prog) W 76 76 o.type 5 i0 Tryz.underlying76 hi q n cq hq (.slice p 0 c) hsrc
    unfold Oper.wp
    simp [execOp,ho,resolve,invoke,builtin,hs,hx,hrun,Result.andThen]
    exact hK _ _ (h _ _ (by simpa using HO) HB)
  · exact wp_app8s hgd s x ho v xs ys p hs hx hy hr hm HO HB hbase hl h
def varN (n:Nat):List UInt8:=if n < 128 then [UInt8.ofNat n] else UInt8.ofNat (n % 128+128) :: varN (n / 128)
termination_by n
decreasing_by omega
theorem varN_small {n:Nat} (h:n < 128):varN n=[UInt8.ofNat n]:=by rw [varN,if_pos h]
theorem varN_big {n:Nat} (h:¬ n < 128):varN n=UInt8.ofNat (n % 128+128) :: varN (n / 128):=by rw [varN,if_neg h]
theorem varN_length:∀ k n,n < 128 ^ k→0 < k→(varN n).length≤k
  | 0,n,_,h=>by omega
  | k+1,n,hn,_=>by
    by_cases h:n < 128
    · rw [varN_small h];simp
    · rw [varN_big h]
      have hd:n / 128 < 128 ^ k:=by
        rw [Nat.pow_succ] at hn
        exact Nat.div_lt_of_lt_mul (by omega)
      have hk:0 < k:=by
        rcases Nat.eq_zero_or_pos k with rfl | hk
        · simp at hd;omega
        · exact hk
      have:=varN_length k (n / 128) hd hk
      simp
      exact this
theorem varN_le9 {n:Nat} (h:n < 9223372036854775808):(varN n).length≤9:=varN_length 9 n (by omega) (by omega)
theorem or128 (m:Nat):Value.int .u8 (bits .or .u8 (IntKind.u8.wrap (m:Int)) 128)=B8 (UInt8.ofNat (m % 128+128)):=by
  unfold B8
  congr 1
  have e1:IntKind.u8.wrap (m:Int)=((m % 256:Nat):Int):=by rw [IntKind.wrap_u8];omega
  rw [e1]
  have e2:bits .or .u8 ((m % 256:Nat):Int) 128=(((m % 256) ||| 128:Nat):Int):=by
    show IntKind.u8.wrap (((BitVec.ofInt 8 ((m % 256:Nat):Int) ||| BitVec.ofInt 8 ((128:Nat):Int)).toNat:Nat):Int)=_
    rw [BitVec.ofInt_natCast,BitVec.ofInt_natCast,BitVec.toNat_or,BitVec.toNat_ofNat,BitVec.toNat_ofNat,Nat.mod_eq_of_lt (a:=m % 256) (by omega),Nat.mod_eq_of_lt (a:=128) (by omega),IntKind.wrap_u8]
    have:(m % 256 ||| 128) < 256:=Nat.or_lt_two_pow (n:=8) (by omega) (by omega)
    omega
  rw [e2]
  have e3:(m % 256) ||| 128=m % 128+128:=by
    have h:∀ k:Fin 256,k.val ||| 128=k.val % 128+128:=by decide +kernel
    have:=h ⟨m % 256,by omega⟩
    simp only at this
    omega
  rw [e3,UInt8.toNat_ofNat_of_lt' (show m % 128+128 < UInt8.size by unfold UInt8.size;omega)]
theorem rem128 (m:Nat):Value.int .u8 ((m:Int) % 128+128)=B8 (UInt8.ofNat (m % 128+128)):=by
  unfold B8
  rw [UInt8.toNat_ofNat_of_lt' (show m % 128+128 < UInt8.size by unfold UInt8.size;omega)]
  rfl
theorem low8 (m:Nat) (h:m < 128):Value.int .u8 (m:Int)=B8 (UInt8.ofNat m):=by
  unfold B8
  rw [UInt8.toNat_ofNat_of_lt' (show m < UInt8.size by unfold UInt8.size;omega)]
set_option maxHeartbeats 400000 in
theorem clone2_any (p:Option Addr) (n c:Nat) (xs:List UInt8) (w:World) (hx:xs.length=n) (hbig:n≤140737488355328) (hr:Rd w p xs) :
    Calls Tryz.prog 226 #[.slice p n c] w fun e w'=>∃ v',e=.returned v'∧w'.ownsRow w.heap.size 5 1 v' n (B8s xs)∧Below w.heap.size w w':=by
  have q22:∀ (w:World) (a:Option Addr) (n c n' c':Nat),(binOp .eql 76 (.slice a n c) (.slice none n' c')).run Tryz.prog w=.ok (.bool a.isNone) w:=fun w a n c n' c'=>Lib.run_eql_slice_nil w _ _ a n c n' c' Tryz.underlying76
  cases p with
  | none =>
    obtain rfl:xs=[]:=by
      rcases xs with _ | ⟨x,xs⟩
      · rfl
      · obtain ⟨b,o,h,_⟩:=hr.at (by simp)
        cases h
    subst hx
    go_enter Tryz.func226,Tryz.ntmps226
    go_wp2
    go_ret
    exact ⟨_,rfl,World.ownsRow_nil _ _ _ _,Below.refl _ _⟩
  | some a =>
    have H:=Lib.hid hr
    have HX:=Lib.hid hx
    have hra:Hid (Rd (w.alloc (.cells #[] 5)) (some a) xs):=Lib.hid (hr.below ((Below.refl _ w).alloc (Nat.le_refl _) _))
    clear hr hx
    go_enter Tryz.func226,Tryz.ntmps226
    go_wp2_with (at_builtin;refine wp_appx (w0:=w) (base:=w.heap.size) (n:=0) rfl _ _ rfl _ [] xs _ rfl rfl HX.out hra.out (World.ownsRow_made w #[] 0 (Nat.le_refl _) (Nat.zero_le _) rfl) ((Below.refl _ w).alloc (Nat.le_refl _) _) (by simp) (by omega) ?_)
    intro v' w1 hown hb
    go_wp2
    go_ret
    exact ⟨v',rfl,by simpa using hown,hb⟩
def PutQ (xs:List UInt8) (N:Nat) (w w':World) (e:Ending):Prop :=
  ∃ v',e=.returned v'∧w'.ownsRow w.heap.size 5 1 v' (xs++varN N).length (B8s (xs++varN N))∧Below w.heap.size w w'
set_option maxHeartbeats 400000 in
set_option maxRecDepth 20000 in
theorem put_any (p:Option Addr) (n c:Nat) (xs:List UInt8) (N:Nat) (w:World) (hx:xs.length=n) (hbig:n+9≤140737488355328) (hN:N < 9223372036854775808) (hr:Rd w p xs) :
    Calls Tryz.prog 196 #[.slice p n c,.int .i64 N] w fun e w'=>PutQ xs N w w' e:=by
  have HX:=Lib.hid hx
  have HN:=Lib.hid hN
  have HB:=Lib.hid hbig
  clear hx hN
  go_enter Tryz.func196,Tryz.ntmps196
  go_wp2_with fail
  refine (clone2_any p n c xs _ HX.out (by omega) hr).mono ?_
  rintro e w1 ⟨v1,rfl,hown,hb⟩
  go_wp2_with fail
  have HO0:=Lib.hid hown
  clear hown
  go_loopw [1,5] (fun m v wr=>∃ (M:Nat) (ys:List UInt8),m=.int .i64 M∧M < 9223372036854775808∧Hid (ys++varN M=xs++varN N)∧Hid (wr.ownsRow w.heap.size 5 1 v ys.length (B8s ys))∧Below w.heap.size w wr) (fun m _ _=>(intOf m).toNat)
  case atStart=>exact ⟨N,xs,rfl,HN.out,Lib.hid rfl,Lib.hid (by rw [HX.out];exact HO0.out),hb⟩
  case round =>
    obtain ⟨M,ys,rfl,hM,HE,HO,hb⟩:=hrel
    have hlen:ys.length+(varN M).length=n+(varN N).length:=by
      have:=congrArg List.length HE.out
      rw [List.length_append,List.length_append,HX.out] at this
      exact this
    have h9:=varN_le9 HN.out
    by_cases hlt:M < 128
    · have hlt':(M:Int) < 128:=by omega
      have hd:decide ((M:Int) > 127)=false:=by simp;omega
      have hl1:(varN M).length=1:=by rw [varN_small hlt];rfl
      have HM:=Lib.hid hlt
      have HL:Hid (ys.length < 140737488355328):=Lib.hid (by have:=HB.out;omega)
      clear hlen h9 hl1 hlt hM HB
      go_wp2_with (at_builtin;refine wp_app8 (w0:=w) (base:=w.heap.size) (n:=ys.length) rfl (.tmp 20) (.tmp 23) rfl _ _ ys (UInt8.ofNat M) ?hy rfl rfl HO.out hb hb.size HL.out ?_)
      case hy=>exact (low8 M HM.out)
      intro v2 w2 hown2 hb2
      have HO2:=Lib.hid hown2
      clear hown2
      go_wp2
      go_ret
      exact ⟨_,rfl,by rw [← HE.out,varN_small HM.out,List.length_append];exact HO2.out,hb2⟩
    · have hd:decide ((M:Int) > 127)=true:=by simp;omega
      have hl1:0 < (varN (M / 128)).length:=by
        rw [varN];split <;> simp
      have HL:Hid (ys.length < 140737488355328):=Lib.hid (by
        rw [varN_big hlt] at hlen
        have:=HB.out
        simp at hlen
        omega)
      have HM:=Lib.hid hlt
      clear hlen h9 hl1 hlt
      obtain ⟨y,hy⟩:∃ y,y=UInt8.ofNat (M % 128+128):=⟨_,rfl⟩
      have HYV:=or128 M
      rw [← hy] at HYV
      have HY:=Lib.hid hy
      have HV:=Lib.hid HYV
      clear hy HYV
      go_wp2_with (at_builtin;refine wp_app8 (w0:=w) (base:=w.heap.size) (n:=ys.length) rfl (.tmp 14) (.tmp 18) rfl _ _ ys y ?hy rfl rfl HO.out hb hb.size HL.out ?_)
      case hy=>exact HV.out
      intro v2 w2 hown2 hb2
      have HO2:=Lib.hid hown2
      clear hown2
      go_wp2
      go_roundw
      case rel=>exact ⟨M / 128,ys++[y],by go_num,by omega,Lib.hid (by rw [← HE.out,varN_big HM.out,HY.out,List.append_assoc];rfl),Lib.hid (by rw [List.length_append];exact HO2.out),hb2⟩
      case measure=>have:=HM.out;simp [intOf];omega
end Go.Proofs.YtheeomjfpnijbaaGreatDoor
