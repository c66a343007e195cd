/- Lemmas: Put, WireP, Wire. -/
import Derived.Test.YtheeomjfpnijbaaGreatDoorPutPP
import Derived.Lib.AppendZeros
import Derived.Lib.AppendStr
set_option linter.unusedVariables false
section
namespace Go.Proofs.YtheeomjfpnijbaaGreatDoor
open Go.RowKit
set_option maxHeartbeats 400000 in
set_option maxRecDepth 20000 in
theorem refput_any (p:Option Addr) (n c:Nat) (xs:List UInt8) (N:Nat) (w:World) (hx:xs.length=n) (hbig:n+9≤140737488355328) (hN:N < 9223372036854775808) (hr:Rd w p xs) :
    Calls Tryz.prog 245 #[.slice p n c,.int .i64 N] w fun e w'=>PutQ xs N w w' e:=by
  have HX:=Lib.hid hx
  have HN:=Lib.hid hN
  have HB:=Lib.hid hbig
  have hra:Hid (Rd (w.alloc (.cells #[] 5)) p xs):=Lib.hid (hr.below ((Below.refl _ w).alloc (Nat.le_refl _) _))
  clear hx hN
  go_enter Tryz.func245,Tryz.ntmps245
  go_wp2_with (at_builtin;refine wp_appx (w0:=w) (base:=w.heap.size) (n:=0) rfl _ _ rfl _ [] xs _ rfl rfl HX.out hra.out (World.ownsRow_made w #[] 0 (Nat.le_refl _) (Nat.zero_le _) rfl) ((Below.refl _ w).alloc (Nat.le_refl _) _) (by simp) (by omega) ?_)
  intro v1 w1 hown hb
  go_wp2_with fail
  have HO0:=Lib.hid hown
  clear hown
  go_loopw [1,5] (fun m v wr=>∃ (M:Nat) (ys:List UInt8),m=.int .i64 M∧M < 9223372036854775808∧Hid (ys++varN M=xs++varN N)∧Hid (wr.ownsRow w.heap.size 5 1 v ys.length (B8s ys))∧Below w.heap.size w wr) (fun m _ _=>(intOf m).toNat)
  case atStart=>exact ⟨N,xs,rfl,HN.out,Lib.hid rfl,Lib.hid (by rw [HX.out];exact HO0.out),hb⟩
  case round =>
    obtain ⟨M,ys,rfl,hM,HE,HO,hb⟩:=hrel
    have hlen:ys.length+(varN M).length=n+(varN N).length:=by
      have:=congrArg List.length HE.out
      rw [List.length_append,List.length_append,HX.out] at this
      exact this
    have h9:=varN_le9 HN.out
    by_cases hlt:M < 128
    · have hlt':(M:Int) < 128:=by omega
      have hd:decide (128≤(M:Int))=false:=by simp;omega
      have hl1:(varN M).length=1:=by rw [varN_small hlt];rfl
      have HM:=Lib.hid hlt
      have HL:Hid (ys.length < 140737488355328):=Lib.hid (by have:=HB.out;omega)
      clear hlen h9 hl1 hlt hM HB
      go_wp2_with (at_builtin;refine wp_app8 (w0:=w) (base:=w.heap.size) (n:=ys.length) rfl (.tmp 22) (.tmp 25) rfl _ _ ys (UInt8.ofNat M) ?hy rfl rfl HO.out hb hb.size HL.out ?_)
      case hy=>exact (low8 M HM.out)
      intro v2 w2 hown2 hb2
      have HO2:=Lib.hid hown2
      clear hown2
      go_wp2
      go_ret
      exact ⟨_,rfl,by rw [← HE.out,varN_small HM.out,List.length_append];exact HO2.out,hb2⟩
    · have hd:decide (128≤(M:Int))=true:=by simp;omega
      have hl1:0 < (varN (M / 128)).length:=by
        rw [varN];split <;> simp
      have HL:Hid (ys.length < 140737488355328):=Lib.hid (by
        rw [varN_big hlt] at hlen
        have:=HB.out
        simp at hlen
        omega)
      have HM:=Lib.hid hlt
      clear hlen h9 hl1 hlt
      obtain ⟨y,hy⟩:∃ y,y=UInt8.ofNat (M % 128+128):=⟨_,rfl⟩
      have HYV:=rem128 M
      rw [← hy] at HYV
      have HY:=Lib.hid hy
      have HV:=Lib.hid HYV
      clear hy HYV
      go_wp2_with (at_builtin;refine wp_app8 (w0:=w) (base:=w.heap.size) (n:=ys.length) rfl (.tmp 13) (.tmp 18) rfl _ _ ys y ?hy rfl rfl HO.out hb hb.size HL.out ?_)
      case hy=>exact HV.out
      intro v2 w2 hown2 hb2
      have HO2:=Lib.hid hown2
      clear hown2
      go_wp2
      go_roundw
      case rel=>exact ⟨M / 128,ys++[y],by go_num,by omega,Lib.hid (by rw [← HE.out,varN_big HM.out,HY.out,List.append_assoc];rfl),Lib.hid (by rw [List.length_append];exact HO2.out),hb2⟩
      case measure=>have:=HM.out;simp [intOf];omega
end Go.Proofs.YtheeomjfpnijbaaGreatDoor
end
section
namespace Go.Proofs.YtheeomjfpnijbaaGreatDoor
open Go.RowKit
def strB (s:ByteArray):List UInt8:=s.data.toList
theorem strB_length (s:ByteArray):(strB s).length=s.size:=by simp [strB]
theorem strCells_eq (s:ByteArray):Lib.strCells s=B8s (strB s):=rfl
theorem wp_appstr {ops:Array Oper} {rest:List Oper} {o:Oper} {a:Act} {Q:Exit→Act→World→Prop} {w0 W:World} {base n:Nat} (hgd:o.guard=none) (s x:Operand)
    (ho:o.op=.call { callee:=.builtin .append,args:=#[s,x],argTypes:=#[76,9] })
    (v:Value) (xs:List UInt8) (t:ByteArray) (hs:a.eval s=v) (hx:a.eval x=.string t)
    (HO:W.ownsRow base 5 1 v n (B8s xs)) (HB:Below base w0 W) (hbase:base≤W.heap.size) (hl:n+t.size≤140737488355328)
    (h:∀ v1 w1,w1.ownsRow base 5 1 v1 (n+t.size) (B8s (xs++strB t))→Below base w0 w1→wpList Tryz.prog ops Q rest (a.put o.dst v1) w1) :
    wpList Tryz.prog ops Q (o :: rest) a W:=by
  obtain ⟨i0,hi,hz0,hz1,hz2⟩:=info_parts info8
  refine Lib.wpList_append_own_string W hgd s x 76 9 ho base 5 i0 Tryz.underlying76 Tryz.underlying9 hi hz0 hz1 hz2 v n (B8s xs) hs HO t hx (by simp only [maxLen];omega) hl hbase ?_
  intro v1 w1 hown hg _
  refine h v1 w1 (by rw [show B8s (xs++strB t)=B8s xs++Lib.strCells t from by rw [strCells_eq];simp [B8s]];exact hown) (HB.grown hg hbase fun k hk=>(HO.lt k hk).1)
def OwnQ (xs:List UInt8) (w w':World) (e:Ending):Prop :=
  ∃ v',e=.returned v'∧w'.ownsRow w.heap.size 5 1 v' xs.length (B8s xs)∧Below w.heap.size w w'
set_option maxHeartbeats 400000 in
set_option maxRecDepth 20000 in
theorem text_any (p:Option Addr) (n c:Nat) (xs:List UInt8) (t:ByteArray) (w:World) (hx:xs.length=n) (hbig:n+9+t.size≤140737488355328) (hr:Rd w p xs) :
    Calls Tryz.prog 135 #[.slice p n c,.string t] w fun e w'=>OwnQ (xs++varN t.size++strB t) w w' e:=by
  have HX:=Lib.hid hx
  have HB:=Lib.hid hbig
  clear hx hbig
  go_enter Tryz.func135,Tryz.ntmps135
  go_wp2_with fail
  refine (put_any p n c xs t.size w HX.out (by have:=HB.out;omega) (by have:=HB.out;omega) hr).mono ?_
  rintro e w1 ⟨v1,rfl,hown,hb⟩
  have HO:=Lib.hid hown
  have HL:Hid ((xs++varN t.size).length+t.size≤140737488355328):=Lib.hid (by
    have:=varN_le9 (n:=t.size) (by have:=HB.out;omega)
    rw [List.length_append,HX.out]
    have:=HB.out
    omega)
  have HE:Hid ((xs++varN t.size).length+t.size=(xs++varN t.size++strB t).length):=Lib.hid (by rw [List.length_append (bs:=strB t),strB_length])
  clear hown
  obtain ⟨ys,hys⟩:∃ ys,ys=xs++varN t.size:=⟨_,rfl⟩
  rw [← hys] at HO HL HE
  have HYS:=Lib.hid hys
  clear hys
  go_wp2_with (at_builtin;refine wp_appstr (w0:=w) (base:=w.heap.size) (n:=ys.length) rfl (.tmp 8) (.tmp 9) rfl _ ys t rfl rfl HO.out hb hb.size HL.out ?_)
  intro v2 w2 hown2 hb2
  have HO2:=Lib.hid hown2
  clear hown2
  go_wp2
  go_ret
  exact ⟨_,rfl,by rw [← HYS.out,← HE.out];exact HO2.out,hb2⟩
end Go.Proofs.YtheeomjfpnijbaaGreatDoor
namespace Go.Proofs.YtheeomjfpnijbaaGreatDoor
open Go.RowKit
theorem infoP8:∃ i,Tryz.prog.info? 5=some i∧i.zero=some (.int .u8 0)∧i.size=1∧i.bytes=1:=by
  obtain ⟨i0,hi,hz0,hz1,hz2⟩:=info_parts info8
  exact ⟨i0,hi,hz0,hz1,hz2⟩
theorem run_appg (W:World) (ty:TypeId) (base n m c:Nat) (v:Value) (xs ys:List UInt8) (ad:Addr) (HO:W.ownsRow base 5 1 v n (B8s xs)) (hy:ys.length=m) (hm:0 < m) (hnews:∀ j u,(B8s ys)[j]?=some u→W.cell? (ad.add j)=some u) (hl:n+m≤140737488355328) (hbase:base≤W.heap.size) :
    ∃ v' w',(Builtin.append_ #[76,76] ty #[v,.slice (some ad) m c]).run Tryz.prog W=.ok v' w'∧w'.ownsRow base 5 1 v' (n+m) (B8s (xs++ys))∧W.grownBy w' v.ownBlock∧(v'.ownBlock=v.ownBlock ∨ v'.ownBlock=some W.heap.size):=by
  obtain ⟨i,hi,hz,h1,h2⟩:=infoP8
  have hyl:(B8s ys).length=m * 1:=by rw [B8s_length,hy,Nat.mul_one]
  have hyi:(B8s ys).length=m * i.size:=by rw [h1];exact hyl
  obtain ⟨v',w',hr,ho,hg,-⟩:=run_append_own (P:=Tryz.prog) W base 76 ty 5 i (.int .u8 0) 1 1 Tryz.underlying76 hi hz h1 h2 rfl (by decide) v n (B8s xs) HO ad m c (B8s ys) hyl hnews B8s_one (by simp only [maxLen];omega) (by omega) hbase
  refine ⟨v',w',hr,by rw [show B8s (xs++ys)=B8s xs++B8s ys from by simp [B8s]];exact ho,hg,?_⟩
  rcases HO.2 with ⟨rfl,rfl⟩ | ⟨g,cap,cur,rfl,hbg,hgg,hnc,hcm,hcs,htake⟩
  · have e:=run_append_nil (P:=Tryz.prog) W 76 ty 5 i (.int .u8 0) Tryz.underlying76 hi hz ad m c (B8s ys) hyi hnews hm (by omega) (by rw [h2];omega)
    rw [hr] at e
    cases e
    exact .inr rfl
  · by_cases hroom:n+m≤cap
    · have e:=run_append_room (P:=Tryz.prog) W 76 ty 5 i Tryz.underlying76 hi g n cap cur hgg ad m c (B8s ys) hyi hnews B8s_one hroom (by rw [h1,hyl,hcs];omega)
      rw [hr] at e
      cases e
      exact .inl rfl
    · have e:=run_append_grow (P:=Tryz.prog) W 76 ty 5 i (.int .u8 0) Tryz.underlying76 hi hz ⟨g,0,none⟩ n cap (B8s xs) (by rw [h1];exact HO.1) (fun j u hj=>HO.cells (g:=g) rfl j u hj) ad m c (B8s ys) hyi hnews (by omega) (by omega) (growslice_fits (by omega) (by rw [h2];omega))
      rw [hr] at e
      cases e
      exact .inr rfl
theorem wp_appg {ops:Array Oper} {rest:List Oper} {o:Oper} {a:Act} {Q:Exit→Act→World→Prop} {W:World} {base n m c:Nat} (hgd:o.guard=none) (s x:Operand)
    (ho:o.op=.call { callee:=.builtin .append,args:=#[s,x],argTypes:=#[76,76] })
    (v:Value) (xs ys:List UInt8) (p:Option Addr) (hs:a.eval s=v) (hx:a.eval x=.slice p m c) (hy:ys.length=m) (hr:Rd W p ys) (hm0:0 < m)
    (HO:W.ownsRow base 5 1 v n (B8s xs)) (hbase:base≤W.heap.size) (hl:n+m≤140737488355328)
    (h:∀ v1 w1,w1.ownsRow base 5 1 v1 (n+m) (B8s (xs++ys))→W.grownBy w1 v.ownBlock→(v1.ownBlock=v.ownBlock ∨ v1.ownBlock=some W.heap.size)→wpList Tryz.prog ops Q rest (a.put o.dst v1) w1) :
    wpList Tryz.prog ops Q (o :: rest) a W:=by
  obtain ⟨ad,rfl,hn⟩:=hr.news (by omega)
  obtain ⟨v',w',hrun,h2,h3,h4⟩:=run_appg W o.type base n m c v xs ys ad HO hy hm0 hn hl hbase
  refine wpList_plain hgd fun K hK=>?_
  unfold Oper.wp execOp
  simp only [ho,resolve,invoke,builtin,Sem.run_bind,Sem.run_pure,Result.andThen_ok,List.map_toArray,List.map_cons,List.map_nil,hs,hx,hrun]
  exact hK _ _ (h v' w' h2 h3 h4)
end Go.Proofs.YtheeomjfpnijbaaGreatDoor
end
section
namespace Go.Proofs.YtheeomjfpnijbaaGreatDoor
open Go.RowKit
set_option maxHeartbeats 400000 in
set_option maxRecDepth 20000 in
theorem reftext_any (p:Option Addr) (n c:Nat) (xs:List UInt8) (t:ByteArray) (w:World) (hx:xs.length=n) (hbig:n+9+t.size≤140737488355328) (hr:Rd w p xs) :
    Calls Tryz.prog 188 #[.slice p n c,.string t] w fun e w'=>OwnQ (xs++varN t.size++strB t) w w' e:=by
  have HX:=Lib.hid hx
  have HB:=Lib.hid hbig
  clear hx hbig
  go_enter Tryz.func188,Tryz.ntmps188
  go_wp2_with fail
  refine (refput_any p n c xs t.size w HX.out (by have:=HB.out;omega) (by have:=HB.out;omega) hr).mono ?_
  rintro e w1 ⟨v1,rfl,hown,hb⟩
  have HO:=Lib.hid hown
  have HL:Hid ((xs++varN t.size).length+t.size≤140737488355328):=Lib.hid (by
    have:=varN_le9 (n:=t.size) (by have:=HB.out;omega)
    rw [List.length_append,HX.out]
    have:=HB.out
    omega)
  have HE:Hid ((xs++varN t.size).length+t.size=(xs++varN t.size++strB t).length):=Lib.hid (by rw [List.length_append (bs:=strB t),strB_length])
  clear hown
  obtain ⟨ys,hys⟩:∃ ys,ys=xs++varN t.size:=⟨_,rfl⟩
  rw [← hys] at HO HL HE
  have HYS:=Lib.hid hys
  clear hys
  go_wp2_with (at_builtin;refine wp_appstr (w0:=w) (base:=w.heap.size) (n:=ys.length) rfl (.tmp 8) (.tmp 9) rfl _ ys t rfl rfl HO.out hb hb.size HL.out ?_)
  intro v2 w2 hown2 hb2
  have HO2:=Lib.hid hown2
  clear hown2
  go_wp2
  go_ret
  exact ⟨_,rfl,by rw [← HYS.out,← HE.out];exact HO2.out,hb2⟩
end Go.Proofs.YtheeomjfpnijbaaGreatDoor
end
