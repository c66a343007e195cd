/- Lemmas: Apart. -/
import Derived.Test.YtheeomjfpnijbaaGreatDoorBaseP
import Derived.Deep.DeepFit
set_option linter.unusedVariables false
namespace Go.Proofs.YtheeomjfpnijbaaGreatDoor
open Go.RowKit
theorem rd_cell {w:World} {p:Option Addr} {xs:List UInt8} (h:Rd w p xs) {k:Nat} (hk:k < xs.length) :
    ∃ b o,p=some ⟨b,o,none⟩∧w.cell? ⟨b,o+k,none⟩=some (B8 xs[k]):=by
  obtain ⟨b,o,e,hc⟩:=h.at (by omega)
  exact ⟨b,o,e,hc k hk⟩
set_option maxHeartbeats 400000 in
theorem same_no (a1 a2:Addr) (p q:Option Addr) (n c m d:Nat) (k:Nat) (w:World)
    (c1:w.cell? a1=some (.slice p n c)) (c2:w.cell? a2=some (.slice q m d)) (h:¬ (k < n∧k < m)) :
    Calls Tryz.prog 133 #[.int .i64 k,.pointer (some a1),.pointer (some a2)] w fun e w'=>e=.returned (.bool false)∧∃ j,w'=w.drewN j:=by
  by_cases hn:(k:Int) < (n:Int)
  · have hm:¬ (k:Int) < (m:Int):=by omega
    have hd:decide (k < m)=false:=by simp;omega
    clear h
    go_enter Tryz.func133,Tryz.ntmps133
    go_wp2
    go_quiet (fail)
    go_wp2
    go_ret
    exact ⟨rfl,_,rfl⟩
  · have hd:decide (k < n)=false:=by simp;omega
    clear h
    go_enter Tryz.func133,Tryz.ntmps133
    go_wp2
    go_quiet (fail)
    go_wp2
    go_ret
    exact ⟨rfl,_,rfl⟩
set_option maxHeartbeats 400000 in
theorem same_yes (a1 a2:Addr) (p q:Option Addr) (n c m d:Nat) (k:Nat) (xs ys:List UInt8) (w:World)
    (c1:w.cell? a1=some (.slice p n c)) (c2:w.cell? a2=some (.slice q m d)) (hx:xs.length=n) (hy:ys.length=m) (h1:Rd w p xs) (h2:Rd w q ys) (hn:k < n) (hm:k < m) (hbig:n≤maxLen) (hbig2:m≤maxLen) :
    Calls Tryz.prog 133 #[.int .i64 k,.pointer (some a1),.pointer (some a2)] w fun e w'=>e=.returned (.bool (xs[k]? == ys[k]?))∧∃ j,w'=w.drewN j:=by
  obtain ⟨b,o,rfl,k1⟩:=rd_cell h1 (k:=k) (by omega)
  obtain ⟨b',o',rfl,k2⟩:=rd_cell h2 (k:=k) (by omega)
  have e:(xs[k]? == ys[k]?)=(((xs[k]'(by omega)).toNat:Int) == ((ys[k]'(by omega)).toNat:Int)):=by
    rw [List.getElem?_eq_getElem (by omega),List.getElem?_eq_getElem (by omega),Bool.eq_iff_iff]
    simp [← UInt8.toNat_inj]
    try omega
  rw [e]
  unfold B8 at k1 k2
  unfold maxLen at hbig hbig2
  generalize ((xs[k]'(by omega)).toNat:Int)=u at *
  generalize ((ys[k]'(by omega)).toNat:Int)=v at *
  have i0:(0:Int)≤(k:Int):=by omega
  have i1:(k:Int) < (n:Int):=by omega
  have i2:(k:Int) < (m:Int):=by omega
  clear hx hy h1 h2 e
  go_enter Tryz.func133,Tryz.ntmps133
  go_wp2
  go_quiet (fail)
  go_wp2
  go_ret
  exact ⟨rfl,_,rfl⟩
theorem same_any (a1 a2:Addr) (p q:Option Addr) (n c m d:Nat) (k:Nat) (xs ys:List UInt8) (w:World)
    (c1:w.cell? a1=some (.slice p n c)) (c2:w.cell? a2=some (.slice q m d)) (hx:xs.length=n) (hy:ys.length=m) (h1:Rd w p xs) (h2:Rd w q ys) (hk:k < max n m) (hbig:n≤maxLen) (hbig2:m≤maxLen) :
    Calls Tryz.prog 133 #[.int .i64 k,.pointer (some a1),.pointer (some a2)] w fun e w'=>e=.returned (.bool (xs[k]? == ys[k]?))∧∃ j,w'=w.drewN j:=by
  by_cases h:k < n∧k < m
  · exact same_yes a1 a2 p q n c m d k xs ys w c1 c2 hx hy h1 h2 h.1 h.2 hbig hbig2
  · have e:(xs[k]? == ys[k]?)=false:=by
      rcases Nat.lt_or_ge k n with hn | hn
      · rw [List.getElem?_eq_getElem (by omega),List.getElem?_eq_none (by omega)];rfl
      · rw [List.getElem?_eq_none (by omega),List.getElem?_eq_getElem (by omega)];rfl
    rw [e]
    exact same_no a1 a2 p q n c m d k w c1 c2 h
def Parts (xs ys:List UInt8) (a b:Nat):Prop :=
  (a=0∧b=0∧∀ i:Nat,xs[i]?=ys[i]?) ∨
  (0 < b∧xs[a]? ≠ ys[a]?∧xs[a+b - 1]? ≠ ys[a+b - 1]?∧(∀ i:Nat,i < a→xs[i]?=ys[i]?)∧∀ i:Nat,a+b≤i→xs[i]?=ys[i]?)
theorem drew_cell (w:World) (j:Nat) (a:Addr):(w.drewN j).cell? a=w.cell? a:=rfl
set_option maxHeartbeats 1000000 in
theorem apart_any (p q:Option Addr) (n c m d:Nat) (xs ys:List UInt8) (w:World) (hx:xs.length=n) (hy:ys.length=m) (h1:Rd w p xs) (h2:Rd w q ys) (hbig:n≤maxLen) (hbig2:m≤maxLen) :
    Calls Tryz.prog 93 #[.slice p n c,.slice q m d] w fun e w'=>(∃ a b:Nat,e=.returned (.tuple #[.int .i64 a,.int .i64 b])∧Parts xs ys a b)∧Below w.heap.size w w':=by
  have hb1:n≤9223372036854775807:=hbig
  have hb2:m≤9223372036854775807:=hbig2
  have HX:=Lib.hid hx
  have HY:=Lib.hid hy
  clear hx hy
  obtain ⟨M,hM,hlt⟩:∃ M,max n m=M∧((n < m∧Hid (m=M)) ∨ (¬ n < m∧Hid (n=M))):=⟨max n m,rfl,by
    rcases Nat.lt_or_ge n m with h | h
    · exact .inl ⟨h,Lib.hid (by omega)⟩
    · exact .inr ⟨by omega,Lib.hid (by omega)⟩⟩
  have hMb:M≤9223372036854775807:=by omega
  have HM:=Lib.hid hM
  clear hM
  have h1':=Lib.hid h1
  have h2':=Lib.hid h2
  clear h1 h2
  have nW:∃ W,(w.alloc (Obj.cells #[Value.slice p n c] 76)).alloc (Obj.cells #[Value.slice q m d] 76)=W:=⟨_,rfl⟩
  obtain ⟨W,hW⟩:=nW
  have hbW:Below w.heap.size w W:=by rw [← hW];exact ((Below.refl _ w).alloc (Nat.le_refl _) _).alloc (by simp) _
  have cW1:∀ j,(W.drewN j).cell? ⟨w.heap.size,0,none⟩=some (.slice p n c):=by intro j;rw [drew_cell,← hW];simp
  have cW2:∀ j,(W.drewN j).cell? ⟨w.heap.size+1,0,none⟩=some (.slice q m d):=by intro j;rw [drew_cell,← hW];simp
  have HW:=Lib.hid hW
  clear hW
  have hbW':∀ j,Below w.heap.size w (W.drewN j):=fun j=>⟨hbW.os,hbW.tape,hbW.output,hbW.size,hbW.block⟩
  have r1:∀ j,Hid (Rd (W.drewN j) p xs):=fun j=>Lib.hid (h1'.out.below (hbW' j))
  have r2:∀ j,Hid (Rd (W.drewN j) q ys):=fun j=>Lib.hid (h2'.out.below (hbW' j))
  rcases hlt with ⟨hlt,HE⟩ | ⟨hlt,HE⟩
  all_goals
    go_enter Tryz.func93,Tryz.ntmps93
    go_wp2
    go_quiet (fail)
    go_wp2
    rw [HW.out]
    first | rw [show ((m:Nat):Int)=((M:Nat):Int) from by rw [HE.out]] | rw [show ((n:Nat):Int)=((M:Nat):Int) from by rw [HE.out]]
    go_loopw [7] (fun f wr=>(∃ k:Nat,k≤M∧f=.int .i64 k∧Hid (∀ i:Nat,i < k→xs[i]?=ys[i]?))∧∃ j,wr=W.drewN j) (fun f _=>M - (intOf f).toNat)
    case atStart=>exact ⟨⟨0,Nat.zero_le _,rfl,Lib.hid (fun i h=>absurd h (Nat.not_lt_zero _))⟩,_,rfl⟩
    case round =>
      obtain ⟨⟨k,hk,rfl,hsame⟩,j,rfl⟩:=hrel
      by_cases hlt:k < M
      · go_wp2_with fail
        refine (same_any _ _ p q n c m d k xs ys _ (cW1 _) (cW2 _) HX.out HY.out (r1 _).out (r2 _).out (by rw [HM.out];exact hlt) hbig hbig2).mono ?_
        rintro e w' ⟨rfl,j',rfl⟩
        obtain ⟨sb,hsb⟩:∃ sb,(xs[k]? == ys[k]?)=sb:=⟨_,rfl⟩
        rw [hsb]
        have HSB:=Lib.hid hsb
        clear hsb
        cases sb
        · have hstop:Hid (k < M→xs[k]? ≠ ys[k]?):=Lib.hid (fun _ e=>by have:=HSB.out;rw [e] at this;simp at this)
          clear HSB
          go_wp2
          go_loopw [8] (fun f wr=>(∃ t:Nat,k≤t∧t≤M∧f=.int .i64 t∧Hid (∀ i:Nat,t≤i→xs[i]?=ys[i]?))∧∃ j,wr=W.drewN j) (fun f _=>(intOf f).toNat)
          case atStart=>exact ⟨⟨M,hk,Nat.le_refl _,rfl,Lib.hid (fun i h=>by
            have e1:=HM.out
            have e2:=HX.out
            have e3:=HY.out
            rw [List.getElem?_eq_none (by omega),List.getElem?_eq_none (by omega)])⟩,_,rfl⟩
          case round =>
            obtain ⟨⟨t,ht1,ht2,rfl,htail⟩,j,rfl⟩:=hrel
            by_cases hlt2:k < t
            · obtain ⟨t,rfl⟩:∃ t',t=t'+1:=⟨t - 1,by omega⟩
              go_wp2_with fail
              go_fit (same_any _ _ p q n c m d t xs ys _ (cW1 _) (cW2 _) HX.out HY.out (r1 _).out (r2 _).out (by rw [HM.out];omega) hbig hbig2)
              rintro e w' ⟨rfl,j',rfl⟩
              obtain ⟨sb,hsb⟩:∃ sb,(xs[t]? == ys[t]?)=sb:=⟨_,rfl⟩
              rw [hsb]
              have HSB:=Lib.hid hsb
              clear hsb
              cases sb
              · go_wp2
                go_ret2
                refine ⟨⟨k,t+1 - k,ret_two rfl (by omega),.inr ⟨by omega,hstop.out (by omega),?_,hsame.out,fun i hi=>htail.out i (by omega)⟩⟩,hbW' _⟩
                intro e
                rw [show k+(t+1 - k) - 1=t from by omega] at e
                have:=HSB.out
                rw [e] at this
                simp at this
              · go_wp2
                go_roundw
                case rel=>exact ⟨⟨t,by omega,by omega,by go_num,Lib.hid (fun i hi=>by
                  rcases Nat.lt_or_ge t i with h | h
                  · exact htail.out i h
                  · obtain rfl:i=t:=by omega
                    simpa using HSB.out)⟩,_,rfl⟩
                case measure=>simp [intOf]
            · have htk:(t:Int)=k:=by omega
              go_wp2
              go_ret2
              refine ⟨⟨0,0,ret_two rfl rfl,.inl ⟨rfl,rfl,fun i=>?_⟩⟩,hbW' _⟩
              rcases Nat.lt_or_ge i k with h | h
              · exact hsame.out i h
              · exact htail.out i (by omega)
        · go_wp2
          go_roundw
          case rel=>exact ⟨⟨k+1,by omega,by go_num,Lib.hid (fun i hi=>by
            rcases Nat.lt_or_ge i k with h | h
            · exact hsame.out i h
            · obtain rfl:i=k:=by omega
              simpa using HSB.out)⟩,_,rfl⟩
          case measure=>simp [intOf];omega
      · have hstop:Hid (k < M→xs[k]? ≠ ys[k]?):=Lib.hid (fun h=>absurd h hlt)
        go_wp2
        go_loopw [8] (fun f wr=>(∃ t:Nat,k≤t∧t≤M∧f=.int .i64 t∧Hid (∀ i:Nat,t≤i→xs[i]?=ys[i]?))∧∃ j,wr=W.drewN j) (fun f _=>(intOf f).toNat)
        case atStart=>exact ⟨⟨M,hk,Nat.le_refl _,rfl,Lib.hid (fun i h=>by
          have e1:=HM.out
          have e2:=HX.out
          have e3:=HY.out
          rw [List.getElem?_eq_none (by omega),List.getElem?_eq_none (by omega)])⟩,_,rfl⟩
        case round =>
          obtain ⟨⟨t,ht1,ht2,rfl,htail⟩,j,rfl⟩:=hrel
          by_cases hlt2:k < t
          · exfalso;omega
          · have htk:(t:Int)=k:=by omega
            go_wp2
            go_ret2
            refine ⟨⟨0,0,ret_two rfl rfl,.inl ⟨rfl,rfl,fun i=>?_⟩⟩,hbW' _⟩
            rcases Nat.lt_or_ge i k with h | h
            · exact hsame.out i h
            · exact htail.out i (by omega)
end Go.Proofs.YtheeomjfpnijbaaGreatDoor
