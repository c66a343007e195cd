/- Lemmas: RefApart. -/
import Derived.Test.YtheeomjfpnijbaaGreatDoorApartP
set_option linter.unusedVariables false
namespace Go.Proofs.YtheeomjfpnijbaaGreatDoor
open Go.RowKit
def atI (xs:List UInt8) (k:Nat):Int:=match xs[k]? with | some x=>(x.toNat:Int) | none=>-1
theorem atI_eq (xs ys:List UInt8) (k:Nat):atI xs k=atI ys k ↔ xs[k]?=ys[k]?:=by
  unfold atI
  rcases xs[k]? with _ | x <;> rcases ys[k]? with _ | y
  · exact ⟨fun _=>rfl,fun _=>rfl⟩
  · refine ⟨fun h=>?_,fun h=>by cases h⟩
    have h':(-1:Int)=(y.toNat:Int):=h
    omega
  · refine ⟨fun h=>?_,fun h=>by cases h⟩
    have h':(x.toNat:Int)=(-1:Int):=h
    omega
  · refine ⟨fun h=>?_,fun h=>by cases h;rfl⟩
    have h':(x.toNat:Int)=(y.toNat:Int):=h
    rw [UInt8.toNat_inj.1 (Int.ofNat_inj.1 h')]
set_option maxHeartbeats 400000 in
theorem at_any (p:Option Addr) (n c k:Nat) (xs:List UInt8) (w:World) (hx:xs.length=n) (h1:Rd w p xs) (hbig:n≤maxLen) :
    Calls Tryz.prog 186 #[.slice p n c,.int .i64 k] w fun e w'=>e=.returned (.int .i64 (atI xs k))∧w=w':=by
  unfold maxLen at hbig
  by_cases hk:k < n
  · obtain ⟨b,o,rfl,k1⟩:=rd_cell h1 (k:=k) (by omega)
    have e:atI xs k=((xs[k]'(by omega)).toNat:Int):=by unfold atI;rw [List.getElem?_eq_getElem (by omega)]
    rw [e]
    unfold B8 at k1
    have ub:=(xs[k]'(by omega)).toNat_lt
    generalize (xs[k]'(by omega)).toNat=u at *
    clear e hx h1
    go_enter Tryz.func186,Tryz.ntmps186
    go_wp2
    go_ret
    exact ⟨rfl,rfl⟩
  · have e:atI xs k=-1:=by unfold atI;rw [List.getElem?_eq_none (by omega)]
    rw [e]
    clear e hx h1
    go_enter Tryz.func186,Tryz.ntmps186
    go_wp2
    go_ret
    exact ⟨rfl,rfl⟩
def Scan (xs ys:List UInt8) (k:Nat) (f l:Int):Prop :=
  (f=-1∧l=-1∧∀ i:Nat,i < k→xs[i]?=ys[i]?) ∨
  (∃ a b:Nat,f=a∧l=b∧a≤b∧b < k∧xs[a]? ≠ ys[a]?∧xs[b]? ≠ ys[b]?∧(∀ i:Nat,i < a→xs[i]?=ys[i]?)∧∀ i:Nat,b < i→i < k→xs[i]?=ys[i]?)
theorem Scan.same {xs ys:List UInt8} {k:Nat} {f l:Int} (h:Scan xs ys k f l) (e:xs[k]?=ys[k]?):Scan xs ys (k+1) f l:=by
  rcases h with ⟨h1,h2,h3⟩ | ⟨a,b,h1,h2,h3,h4,h5,h6,h7,h8⟩
  · refine .inl ⟨h1,h2,fun i hi=>?_⟩
    rcases Nat.lt_or_ge i k with h | h
    · exact h3 i h
    · obtain rfl:i=k:=by omega
      exact e
  · refine .inr ⟨a,b,h1,h2,h3,by omega,h5,h6,h7,fun i hi hk=>?_⟩
    rcases Nat.lt_or_ge i k with h | h
    · exact h8 i hi h
    · obtain rfl:i=k:=by omega
      exact e
theorem Scan.first {xs ys:List UInt8} {k:Nat} {f l:Int} (h:Scan xs ys k f l) (e:xs[k]? ≠ ys[k]?) (hf:f < 0):Scan xs ys (k+1) k k:=by
  rcases h with ⟨h1,h2,h3⟩ | ⟨a,b,h1,h2,h3,h4,h5,h6,h7,h8⟩
  · exact .inr ⟨k,k,rfl,rfl,Nat.le_refl _,by omega,e,e,h3,fun i hi hk=>by omega⟩
  · omega
theorem Scan.next {xs ys:List UInt8} {k:Nat} {f l:Int} (h:Scan xs ys k f l) (e:xs[k]? ≠ ys[k]?) (hf:¬ f < 0):Scan xs ys (k+1) f k:=by
  rcases h with ⟨h1,h2,h3⟩ | ⟨a,b,h1,h2,h3,h4,h5,h6,h7,h8⟩
  · omega
  · exact .inr ⟨a,k,h1,rfl,by omega,by omega,h5,e,h7,fun i hi hk=>by omega⟩
theorem Scan.bd {xs ys:List UInt8} {k:Nat} {f l:Int} (h:Scan xs ys k f l):-1≤f∧f≤k∧-1≤l∧l≤k - 1∧f≤l:=by
  rcases h with ⟨h1,h2,h3⟩ | ⟨a,b,h1,h2,h3,h4,h5,h6,h7,h8⟩ <;> omega
theorem Scan.parts {xs ys:List UInt8} {k:Nat} {f l:Int} (h:Scan xs ys k f l) (hx:xs.length≤k) (hy:ys.length≤k) :
    (f < 0→Parts xs ys 0 0)∧(¬ f < 0→∃ a b:Nat,f=a∧l - f+1=b∧Parts xs ys a b):=by
  rcases h with ⟨h1,h2,h3⟩ | ⟨a,b,h1,h2,h3,h4,h5,h6,h7,h8⟩
  · refine ⟨fun _=>.inl ⟨rfl,rfl,fun i=>?_⟩,fun h=>by omega⟩
    rcases Nat.lt_or_ge i k with h | h
    · exact h3 i h
    · rw [List.getElem?_eq_none (by omega),List.getElem?_eq_none (by omega)]
  · refine ⟨fun h=>by omega,fun _=>⟨a,b - a+1,h1,by omega,.inr ⟨by omega,h5,by rwa [show a+(b - a+1) - 1=b from by omega],h7,fun i hi=>?_⟩⟩⟩
    rcases Nat.lt_or_ge i k with h | h
    · exact h8 i (by omega) h
    · rw [List.getElem?_eq_none (by omega),List.getElem?_eq_none (by omega)]
set_option maxHeartbeats 1000000 in
theorem refapart_any (p q:Option Addr) (n c m d:Nat) (xs ys:List UInt8) (w:World) (hx:xs.length=n) (hy:ys.length=m) (h1:Rd w p xs) (h2:Rd w q ys) (hbig:n≤maxLen) (hbig2:m≤maxLen) :
    Calls Tryz.prog 126 #[.slice p n c,.slice q m d] w fun e w'=>(∃ a b:Nat,e=.returned (.tuple #[.int .i64 a,.int .i64 b])∧Parts xs ys a b)∧w=w':=by
  have hb1:n≤9223372036854775807:=hbig
  have hb2:m≤9223372036854775807:=hbig2
  have HX:=Lib.hid hx
  have HY:=Lib.hid hy
  clear hx hy
  obtain ⟨M,hM,hlt⟩:∃ M,max n m=M∧((n < m∧Hid (m=M)) ∨ (¬ n < m∧Hid (n=M))):=⟨max n m,rfl,by
    rcases Nat.lt_or_ge n m with h | h
    · exact .inl ⟨h,Lib.hid (by omega)⟩
    · exact .inr ⟨by omega,Lib.hid (by omega)⟩⟩
  have hMb:M≤9223372036854775807:=by omega
  have HM:=Lib.hid hM
  clear hM
  rcases hlt with ⟨hlt,HE⟩ | ⟨hlt,HE⟩
  all_goals
    go_enter Tryz.func126,Tryz.ntmps126
    go_wp2
    first | rw [show ((m:Nat):Int)=((M:Nat):Int) from by rw [HE.out]] | rw [show ((n:Nat):Int)=((M:Nat):Int) from by rw [HE.out]]
    go_loop [6,7,14] (fun f l i=>∃ (k:Nat) (f' l':Int),k≤M∧i=.int .i64 k∧f=.int .i64 f'∧l=.int .i64 l'∧Hid (Scan xs ys k f' l')) (fun _ _ i=>M - (intOf i).toNat)
    case atStart=>exact ⟨0,-1,-1,Nat.zero_le _,rfl,rfl,rfl,Lib.hid (.inl ⟨rfl,rfl,fun i h=>by omega⟩)⟩
    case round =>
      obtain ⟨k,f',l',hk,rfl,rfl,rfl,HS⟩:=hrel
      have hbd:=HS.out.bd
      by_cases hlt:k < M
      · by_cases he:xs[k]?=ys[k]?
        · have he':=Lib.hid ((atI_eq xs ys k).2 he)
          have hE:=Lib.hid he
          clear he
          go_wp2_with fail
          refine (at_any p n c k xs _ HX.out h1 hbig).mono ?_
          rintro e w' ⟨rfl,rfl⟩
          go_wp2_with fail
          refine (at_any q m d k ys _ HY.out h2 hbig2).mono ?_
          rintro e w' ⟨rfl,rfl⟩
          rw [he'.out]
          go_wp2
          go_round
          case rel=>exact ⟨k+1,f',l',by omega,by go_num,rfl,rfl,Lib.hid (HS.out.same hE.out)⟩
          case measure=>simp [intOf];omega
        · have he':(atI xs k != atI ys k)=true:=by rw [bne_iff_ne];exact fun h=>he ((atI_eq xs ys k).1 h)
          have hE:=Lib.hid he
          clear he
          by_cases hf:f' < 0
          · go_wp2_with fail
            refine (at_any p n c k xs _ HX.out h1 hbig).mono ?_
            rintro e w' ⟨rfl,rfl⟩
            go_wp2_with fail
            refine (at_any q m d k ys _ HY.out h2 hbig2).mono ?_
            rintro e w' ⟨rfl,rfl⟩
            go_wp2
            go_round
            case rel=>exact ⟨k+1,k,k,by omega,by go_num,rfl,rfl,Lib.hid (HS.out.first hE.out hf)⟩
            case measure=>simp [intOf];omega
          · go_wp2_with fail
            refine (at_any p n c k xs _ HX.out h1 hbig).mono ?_
            rintro e w' ⟨rfl,rfl⟩
            go_wp2_with fail
            refine (at_any q m d k ys _ HY.out h2 hbig2).mono ?_
            rintro e w' ⟨rfl,rfl⟩
            go_wp2
            go_round
            case rel=>exact ⟨k+1,f',k,by omega,by go_num,rfl,rfl,Lib.hid (HS.out.next hE.out (by omega))⟩
            case measure=>simp [intOf];omega
      · have HP:=Lib.hid (HS.out.parts (by have:=HX.out;have:=HM.out;omega) (by have:=HY.out;have:=HM.out;omega))
        by_cases hf:f' < 0
        · go_wp2
          go_ret2
          exact ⟨⟨0,0,ret_two rfl rfl,HP.out.1 hf⟩,rfl⟩
        · have b1:0≤l' - f'+1:=by omega
          have b2:l' - f'+1≤9223372036854775807:=by omega
          go_wp2
          go_ret2
          obtain ⟨a,b,e1,e2,e3⟩:=HP.out.2 (by omega)
          exact ⟨⟨a,b,ret_two e1 e2,e3⟩,rfl⟩
end Go.Proofs.YtheeomjfpnijbaaGreatDoor
