/- Lemmas: PageMath. -/
import Derived.Test.YtheeomjfpnijbaaGreatDoorDecodeP
set_option linter.unusedVariables false
namespace Go.Proofs.YtheeomjfpnijbaaGreatDoor
open Go.RowKit
theorem leV_leB:∀ k n,n < 256 ^ k→leV (leB n k)=n
  | 0,n,h=>by simp at h;subst h;rfl
  | k+1,n,h=>by
    rw [leB,leV,leV_leB k (n / 256) (by rw [Nat.pow_succ] at h;omega)]
    simp
    omega
theorem sector_take {l:Nat} {load:List UInt8} (h:load.length=112):(sector l load).take 124=body l load:=by
  unfold sector
  rw [List.take_left' (by rw [body_length,h])]
theorem sector_drop {l:Nat} {load:List UInt8} (h:load.length=112):(sector l load).drop 124=leB (sumN (body l load)) 4:=by
  unfold sector
  rw [List.drop_left' (by rw [body_length,h])]
theorem sector_not_zero (l:Nat) (load:List UInt8):allZ (sector l load)=false:=by
  rw [Bool.eq_false_iff]
  intro h
  have:=(allZ_iff _).1 h 0 (by simp [sector,body])
  simp [sector,body] at this
theorem decL_sector {l:Nat} {load:List UInt8} (h:load.length=112) (hl:l≤4611686018427387904):decL (sector l load)=l:=by
  unfold decL
  have e:((sector l load).drop 4).take 8=leB l 8:=by
    unfold sector body
    rw [List.append_assoc,List.append_assoc,List.drop_left' (by rfl),List.take_left' (leB_length 8 l)]
  rw [e]
  exact leV_leB 8 l (by omega)
theorem decP_sector {l:Nat} {load:List UInt8} (h:load.length=112):decP (sector l load)=load:=by
  unfold decP sector body
  rw [List.append_assoc,List.drop_left' (by simp [leB_length]),List.take_left' h]
theorem dec_enc {l:Nat} {load:List UInt8} (h:load.length=112) (hl:l≤4611686018427387904) :
    decE (encV l load)=0∧decL (encV l load)=l∧decP (encV l load)=load:=by
  by_cases hz:l=0∧allZ load=true
  · obtain ⟨rfl,hz⟩:=hz
    have e:encV 0 load=List.replicate 128 0:=by unfold encV;rw [if_pos ⟨rfl,hz⟩]
    have hzz:allZ (List.replicate 128 0)=true:=by decide
    rw [e]
    refine ⟨?_,decL_zero hzz (by simp),?_⟩
    · unfold decE;rw [if_neg (by simp),if_pos hzz]
    · rw [decP_zero hzz (by simp),allZ_replicate hz,h]
  · have e:encV l load=sector l load:=by unfold encV;rw [if_neg hz]
    rw [e]
    refine ⟨?_,decL_sector h hl,decP_sector h⟩
    unfold decE
    rw [if_neg (by rw [sector_length h];decide),if_neg (by rw [sector_not_zero];decide),if_neg (by rw [sector_take h,sector_drop h];exact fun h=>h rfl),if_neg (by rw [decL_sector h hl];omega),
      if_neg (by rw [decL_sector h hl,decP_sector h,e];exact fun h=>h rfl)]
end Go.Proofs.YtheeomjfpnijbaaGreatDoor
