/- Lemmas: Decode. -/
import Derived.Test.YtheeomjfpnijbaaGreatDoorEncodeP
set_option linter.unusedVariables false
namespace Go.Proofs.YtheeomjfpnijbaaGreatDoor
open Go.RowKit
def leV:List UInt8→Nat
  | []=>0
  | x :: xs=>x.toNat+256 * leV xs
theorem leV_lt:∀ xs:List UInt8,leV xs < 256 ^ xs.length
  | []=>by decide
  | x :: xs=>by
    have:=leV_lt xs
    have:=x.toNat_lt
    rw [leV,List.length_cons,Nat.pow_succ]
    omega
theorem leV_snoc:∀ (xs:List UInt8) (x:UInt8),leV (xs++[x])=leV xs+x.toNat * 256 ^ xs.length
  | [],x=>by simp [leV]
  | y :: xs,x=>by
    have e:256 * (x.toNat * 256 ^ xs.length)=x.toNat * 256 ^ (xs.length+1):=by
      rw [Nat.pow_succ,Nat.mul_comm (256 ^ xs.length) 256,← Nat.mul_assoc,← Nat.mul_assoc,Nat.mul_comm 256]
    rw [List.cons_append,leV,leV_snoc xs x,leV,List.length_cons,Nat.mul_add,e]
    omega
def decL (bs:List UInt8):Nat:=leV ((bs.drop 4).take 8)
def decP (bs:List UInt8):List UInt8:=(bs.drop 12).take 112
noncomputable def decE (bs:List UInt8):Nat :=
  if bs.length ≠ 128 then 5 else if allZ bs=true then 0 else if leB (sumN (bs.take 124)) 4 ≠ bs.drop 124 then 13
  else if decL bs > 4611686018427387904 then 5 else if encV (decL bs) (decP bs) ≠ bs then 5 else 0
def DecQ (bs:List UInt8) (w w':World) (e:Ending):Prop :=
  (decE bs=0∧∃ v',e=.returned (.tuple #[.int .i64 (decL bs),v',.int .i64 0])∧w'.ownsRow w.heap.size 5 1 v' 112 (B8s (decP bs))) ∨
  (decE bs ≠ 0∧e=.returned (.tuple #[.int .i64 0,.slice none 0 0,.int .i64 (decE bs)]))
theorem leV_zero:∀ n,leV (List.replicate n 0)=0
  | 0=>rfl
  | n+1=>by rw [List.replicate_succ,leV,leV_zero n];rfl
theorem allZ_replicate {bs:List UInt8} (h:allZ bs=true):bs=List.replicate bs.length 0:=by
  rw [allZ_iff] at h
  refine List.ext_getElem (by simp) fun i h1 h2=>?_
  rw [List.getElem_replicate]
  exact UInt8.toNat_inj.1 (h i h1)
theorem decL_zero {bs:List UInt8} (h:allZ bs=true) (hl:bs.length=128):decL bs=0:=by
  rw [allZ_replicate h,hl]
  unfold decL
  rw [List.drop_replicate,List.take_replicate,leV_zero]
theorem decP_zero {bs:List UInt8} (h:allZ bs=true) (hl:bs.length=128):decP bs=List.replicate 112 0:=by
  rw [allZ_replicate h,hl]
  unfold decP
  rw [List.drop_replicate,List.take_replicate]
  rfl
theorem own_cap {w:World} {base n cap:Nat} {p:Option Addr} {xs:List UInt8} (h:w.ownsRow base 5 1 (.slice p n cap) n (B8s xs)) (hn:0 < n):n≤cap∧cap≤maxLen:=by
  obtain ⟨g,cap',cur,e,_,_,_,h1,h2⟩:=own8 h hn
  cases e
  exact ⟨by omega,h2⟩
theorem own_mono {w:World} {base base':Nat} {e:TypeId} {size n:Nat} {v:Value} {xs:List Value} (h:w.ownsRow base e size v n xs) (hb:base'≤base):w.ownsRow base' e size v n xs:=by
  refine ⟨h.1,?_⟩
  rcases h.2 with h2 | ⟨g,cap,cur,a,b,c⟩
  · exact .inl h2
  · exact .inr ⟨g,cap,cur,a,by omega,c⟩
theorem own_later {w w':World} {base:Nat} {e:TypeId} {size n:Nat} {v:Value} {xs:List Value} (h:w.ownsRow base e size v n xs) (hb:Below w.heap.size w w'):w'.ownsRow base e size v n xs:=by
  refine ⟨h.1,?_⟩
  rcases h.2 with h2 | ⟨g,cap,cur,a,b,c,d⟩
  · exact .inl h2
  · exact .inr ⟨g,cap,cur,a,b,(hb.block g (heap_lt c)).trans c,d⟩
theorem pow256 (k:Nat):(256:Nat) ^ k=2 ^ (8 * k):=by rw [Nat.pow_mul]
theorem shl_lt {u k:Nat} (hk:k < 8) (hu:u < 256):u * 2 ^ (8 * k) < 2 ^ 64:=by
  have h1:2 ^ (8 * k)≤2 ^ 56:=Nat.pow_le_pow_right (by decide) (by omega)
  have h2:u * 2 ^ (8 * k)≤255 * 2 ^ 56:=Nat.mul_le_mul (by omega) h1
  have h3:255 * 2 ^ 56 < 2 ^ 64:=by decide
  exact Nat.lt_of_le_of_lt h2 h3
theorem wrap_u64_nat {n:Nat} (h:n < 2 ^ 64):IntKind.u64.wrap ((n:Nat):Int)=n:=by
  have h':n < 18446744073709551616:=h
  simp [IntKind.wrap,IntKind.bits,IntKind.signed]
  omega
theorem or_step {L u k:Nat} (hk:k < 8) (hL:L < 256 ^ k) (hu:u < 256) :
    bits .or .u64 (L:Int) (IntKind.u64.wrap ((u:Int) * 2 ^ (8 * k)))=((L+u * 256 ^ k:Nat):Int):=by
  have e1:((u:Int) * 2 ^ (8 * k))=((u * 2 ^ (8 * k):Nat):Int):=by simp
  have hs:=shl_lt hk hu
  rw [pow256] at hL ⊢
  have hL64:L < 2 ^ 64:=Nat.lt_trans hL (Nat.pow_lt_pow_right (by decide) (by omega))
  rw [e1,wrap_u64_nat hs,(bits_nat .u64 64 (by decide) (fun n h0 h1=>by
    obtain ⟨m,rfl⟩:=Int.eq_ofNat_of_zero_le h0
    exact wrap_u64_nat (by exact_mod_cast h1)) L _ hL64 hs).2,Nat.or_comm,Nat.mul_comm u,← Nat.two_pow_add_eq_or_of_lt hL,Nat.add_comm]
theorem leV_take {ys:List UInt8} {k:Nat} (hk:k < ys.length):leV (ys.take (k+1))=leV (ys.take k)+(ys[k]).toNat * 256 ^ k:=by
  rw [List.take_succ_eq_append_getElem hk,leV_snoc,List.length_take,Nat.min_eq_left (by omega)]
theorem leV_take_lt (ys:List UInt8) (k:Nat):leV (ys.take k) < 256 ^ k:=by
  have h:=leV_lt (ys.take k)
  exact Nat.lt_of_lt_of_le h (Nat.pow_le_pow_right (by decide) (by simp;omega))
set_option maxHeartbeats 1000000 in
set_option maxRecDepth 20000 in
theorem decode_any (p:Option Addr) (n c:Nat) (bs:List UInt8) (w:World) (hx:bs.length=n) (hr:Rd w p bs) (hc:n≤c) (hm:c≤maxLen) (hT:Halves w) :
    Calls Tryz.prog 254 #[.slice p n c] w fun e w'=>DecQ bs w w' e∧Below w.heap.size w w':=by
  have HX:=Lib.hid hx
  have HM:=Lib.hid hm
  have HT:=Lib.hid hT
  have hmk:∀ W:World,(Instr.makeSlice 76 (.int .i64 112) (.int .i64 112)).run Tryz.prog W=.ok (.slice (some ⟨W.heap.size,0,none⟩) 112 112) (W.alloc (.cells (Zs 112) 5)):=make8 112 (by omega)
  by_cases h128:n=128
  · have H128:=Lib.hid h128
    obtain rfl:n=128:=h128
    clear hx hm hT
    go_enter Tryz.func254,Tryz.ntmps254
    go_wp2_with fail
    refine (empty_any p 128 c bs _ HX.out hr hc HM.out).mono ?_
    rintro e w1 ⟨rfl,j,rfl⟩
    by_cases hz:allZ bs=true
    · have HZ:=Lib.hid hz
      rw [hz]
      clear hz
      go_wp2_with fail
      go_region
      all_goals go_wp2
      all_goals go_ret3
      all_goals
        refine ⟨.inl ⟨?_,.slice (some ⟨w.heap.size,0,none⟩) 112 112,?_,?_⟩,?_⟩
        · unfold decE
          rw [if_neg (by rw [HX.out];decide),if_pos HZ.out]
        · rw [decL_zero HZ.out HX.out];rfl
        · rw [decP_zero HZ.out HX.out,Zs_arr]
          exact own8_mk (cur:=[]) (Nat.le_refl _) (by rw [List.append_nil];exact heap_alloc_new w _) (by simp) rfl (by decide)
        · exact (below_drewN' _ _).alloc (Nat.le_refl _) _
    · have hzf:allZ bs=false:=by simpa using hz
      have HZ:=Lib.hid hzf
      rw [hzf]
      clear hz hzf
      have hx:=HX.out
      obtain ⟨b0,o0,rfl,hcell0⟩:=hr.at (by rw [hx];decide)
      have hT1:Halves (w.drewN j):=HT.out
      have hS:Rd (w.drewN j) (some ⟨b0,o0,none⟩) (bs.take 124):=(hr.drewN j).take 124
      have hD:Rd (w.drewN j) (some ⟨b0,o0+124,none⟩) (bs.drop 124):=by
        have:=(hr.drewN j).sub 124 4
        rwa [List.take_of_length_le (by simp [hx])] at this
      have hlS:Hid ((bs.take 124).length=124):=Lib.hid (by simp [hx])
      have hlD:Hid ((bs.drop 124).length=4):=Lib.hid (by simp [hx])
      have hSl:=sumN_lt (bs.take 124)
      obtain ⟨S,hSe⟩:∃ S,sumN (bs.take 124)=S:=⟨_,rfl⟩
      rw [hSe] at hSl
      have HSe:=Lib.hid hSe
      have hwr:IntKind.u64.wrap ((S:Nat):Int)=S:=wrap_u64_small hSl
      have HSl:=Lib.hid hSl
      have hcap:(124:Int)≤(c:Int):=by omega
      have hcne:(c=124)=False:=eq_false (by omega)
      have HR:=Lib.hid hr
      have HD:=Lib.hid hD
      have HS:=Lib.hid hS
      clear hSe hSl hcell0 hx hr hD hS
      go_wp2_with fail
      go_region_law (first | (go_simp;go_at_call 222;refine (sum_any (some ⟨b0,o0,none⟩) 124 c (bs.take 124) _ hlS.out ?_ (by unfold maxLen;decide) ?_).mono ?_;exact HS.out;exact hT1;rw [HSe.out];rintro e w' ⟨rfl,rfl⟩) | (go_simp;go_at_call 264;refine (number_any S 4 _ (by have:=HSl.out;omega) (by omega)).mono ?_;rintro e w4 ⟨v4,rfl,hown4,hb4⟩;obtain ⟨p4,cap4,rfl,hr4,hx4,_,_⟩:=own_rd hown4;have HR4:=Lib.hid hr4;have HX4:=Lib.hid hx4;have HB4:Hid (Below w.heap.size w w4):=Lib.hid (below_of_drewN (below_of_drew hb4));have HD4:=Lib.hid (HD.out.below (below_of_drew hb4));clear hown4 hb4 hr4 hx4) | (go_simp;go_at_call 33;refine (equal_any _ (some ⟨b0,o0+124,none⟩) 4 _ 4 (c - 124) (leB S 4) (bs.drop 124) _ HX4.out hlD.out HR4.out HD4.out).mono ?_;rintro e w' ⟨rfl,rfl⟩))
      have hRw:=Lib.hid (HR.out.below HB4.out)
      have hTw:=Lib.hid (HT.out.below HB4.out)
      by_cases heq:leB S 4=bs.drop 124
      · have hqb:(leB S 4 == bs.drop 124)=true:=by rw [beq_iff_eq];exact heq
        have HQ:=Lib.hid heq
        rw [hqb]
        clear heq hqb
        go_wp2
        go_loop [5,28] (fun v i=>∃ k:Nat,k≤8∧i=.int .i64 k∧v=.int .u64 ((leV ((bs.drop 4).take k):Nat):Int)) (fun _ i=>8 - (intOf i).toNat)
        case atStart=>exact ⟨0,by omega,rfl,rfl⟩
        case round =>
          obtain ⟨k,hk,rfl,rfl⟩:=hrel
          by_cases hlt:k < 8
          · have hkl:4+k < bs.length:=by rw [HX.out];omega
            obtain ⟨b1,o1,hbo,k1⟩:=rd_cell hRw.out (k:=4+k) hkl
            cases hbo
            unfold B8 at k1
            have hu:=(bs[4+k]).toNat_lt
            have hs:=leV_take (ys:=bs.drop 4) (k:=k) (by simp;omega)
            rw [List.getElem_drop] at hs
            have hLl:=leV_take_lt (bs.drop 4) k
            generalize (bs[4+k]).toNat=u at *
            generalize leV ((bs.drop 4).take k)=L at *
            have HSt:=Lib.hid hs
            have HO:=Lib.hid (or_step hlt hLl hu)
            have e1:((4:Int)+(k:Int)).toNat=4+k:=by omega
            clear hs hLl
            go_wp2
            go_round
            case rel=>exact ⟨k+1,by omega,by go_num,by rw [HO.out,HSt.out]⟩
            case measure=>simp [intOf];omega
          · obtain rfl:k=8:=by omega
            have HL:Hid (leV ((bs.drop 4).take 8)=decL bs):=Lib.hid rfl
            rw [HL.out]
            by_cases hbig:decL bs > 4611686018427387904
            · have hgt:(4611686018427387904:Int) < (decL bs:Int):=by omega
              have HE:Hid (decE bs=5):=Lib.hid (by
                unfold decE
                rw [if_neg (by rw [HX.out];decide),if_neg (by rw [HZ.out];decide),if_neg (by rw [HSe.out];exact fun h=>h HQ.out),if_pos hbig])
              clear hbig
              go_wp2
              go_ret3
              exact ⟨.inr ⟨by rw [HE.out];decide,by rw [HE.out];rfl⟩,HB4.out⟩
            · have hgt:(decL bs:Int)≤4611686018427387904:=by omega
              have hP:Rd w4 (some ⟨b0,o0+12,none⟩) (decP bs):=hRw.out.sub 12 112
              have hPl:(decP bs).length=112:=by unfold decP;have:=HX.out;simp;omega
              have HPl:=Lib.hid hPl
              clear hbig hPl
              go_wp2_with fail
              refine (clone_any (some ⟨b0,o0+12,none⟩) 112 (c - 12) (decP bs) _ HPl.out (by omega) hP).mono ?_
              rintro e w5 ⟨v5,rfl,hown5,hb5⟩
              obtain ⟨p5,cap5,rfl,hr5,hx5,_,_⟩:=own_rd hown5
              have hb05:Below w.heap.size w w5:=HB4.out.trans (hb5.mono HB4.out.size)
              have hc5:112≤cap5∧cap5≤maxLen:=own_cap hown5 (by omega)
              go_wp2_with fail
              refine (encode_ok (decL bs) p5 112 cap5 (decP bs) _ hx5 hr5 hc5.1 hc5.2 (hTw.out.below hb5) ⟨by omega,by omega,rfl⟩).mono ?_
              rintro e w6 ⟨v6,rfl,hown6,hb6⟩
              obtain ⟨p6,cap6,rfl,hr6,hx6,_,_⟩:=own_rd hown6
              have hb06:Below w.heap.size w w6:=hb05.trans (hb6.mono hb05.size)
              have hrb:Rd w6 (some ⟨b0,o0,none⟩) bs:=HR.out.below hb06
              have HX6:=Lib.hid hx6
              have HO5:Hid (w6.ownsRow w.heap.size 5 1 (.slice p5 112 cap5) 112 (B8s (decP bs))):=Lib.hid (own_later (own_mono hown5 HB4.out.size) hb6)
              clear hown5 hown6 hx5 hx6 hb5 hb6
              go_wp2_with fail
              refine (equal_any p6 (some ⟨b0,o0,none⟩) 128 cap6 128 c _ bs _ HX6.out HX.out hr6 hrb).mono ?_
              rintro e w7 ⟨rfl,rfl⟩
              by_cases hsame:encV (decL bs) (decP bs)=bs
              · have HE:Hid (decE bs=0):=Lib.hid (by
                  unfold decE
                  rw [if_neg (by rw [HX.out];decide),if_neg (by rw [HZ.out];decide),if_neg (by rw [HSe.out];exact fun h=>h HQ.out),if_neg (by omega),if_neg (fun h=>h hsame)])
                have hsb:(encV (decL bs) (decP bs) == bs)=true:=by rw [beq_iff_eq];exact hsame
                rw [hsb]
                clear hsame hsb
                go_wp2
                go_ret3
                exact ⟨.inl ⟨HE.out,_,rfl,HO5.out⟩,hb06⟩
              · have HE:Hid (decE bs=5):=Lib.hid (by
                  unfold decE
                  rw [if_neg (by rw [HX.out];decide),if_neg (by rw [HZ.out];decide),if_neg (by rw [HSe.out];exact fun h=>h HQ.out),if_neg (by omega),if_pos hsame])
                have hsb:(encV (decL bs) (decP bs) == bs)=false:=by rw [beq_eq_false_iff_ne];exact hsame
                rw [hsb]
                clear hsame hsb
                go_wp2
                go_ret3
                exact ⟨.inr ⟨by rw [HE.out];decide,by rw [HE.out];rfl⟩,hb06⟩
      · have hqb:(leB S 4 == bs.drop 124)=false:=by rw [beq_eq_false_iff_ne];exact heq
        have HE:Hid (decE bs=13):=Lib.hid (by
          unfold decE
          rw [if_neg (by rw [HX.out];decide),if_neg (by rw [HZ.out];decide),if_pos (by rw [HSe.out];exact heq)])
        rw [hqb]
        clear heq hqb
        go_wp2
        go_ret3
        exact ⟨.inr ⟨by rw [HE.out];decide,by rw [HE.out];rfl⟩,HB4.out⟩
  · have hb:((n:Int) != 128)=true:=by rw [bne_iff_ne];omega
    have HE:Hid (decE bs=5):=Lib.hid (by unfold decE;rw [if_pos (by rw [hx];exact h128)])
    clear h128 hx hm hT
    go_enter Tryz.func254,Tryz.ntmps254
    go_wp2
    go_ret3
    exact ⟨.inr ⟨by rw [HE.out];decide,by rw [HE.out];rfl⟩,Below.refl _ _⟩
end Go.Proofs.YtheeomjfpnijbaaGreatDoor
namespace Go.Proofs.YtheeomjfpnijbaaGreatDoor
open Go.RowKit
theorem add_step {L u k:Nat} (hk:k < 8) (hL:L < 256 ^ k) (hu:u < 256) :
    IntKind.u64.wrap ((L:Int)+IntKind.u64.wrap ((u:Int) * 2 ^ (8 * k)))=((L+u * 256 ^ k:Nat):Int):=by
  have e1:((u:Int) * 2 ^ (8 * k))=((u * 2 ^ (8 * k):Nat):Int):=by simp
  have hs:=shl_lt hk hu
  have h3:L+u * 256 ^ k < 2 ^ 64:=by
    have h4:u * 256 ^ k≤255 * 256 ^ k:=Nat.mul_le_mul (by omega) (Nat.le_refl _)
    have h5:256 * 256 ^ k≤2 ^ 64:=by
      rw [← Nat.pow_succ',pow256]
      exact Nat.pow_le_pow_right (by decide) (by omega)
    omega
  rw [e1,wrap_u64_nat hs]
  rw [← pow256]
  have e2:(L:Int)+((u * 256 ^ k:Nat):Int)=((L+u * 256 ^ k:Nat):Int):=by simp
  rw [e2]
  exact wrap_u64_nat h3
theorem sum_bytes {bs:List UInt8} {S:Nat} (hl:bs.length=128) (hS:S < 4294967296) :
    leB S 4=bs.drop 124 ↔ ((bs[124]).toNat=S % 256∧(bs[125]).toNat=S / 256 % 256∧(bs[126]).toNat=S / 65536 % 256∧(bs[127]).toNat=S / 16777216 % 256):=by
  have e1:S / 256 / 256=S / 65536:=by omega
  have e2:S / 65536 / 256=S / 16777216:=by omega
  have e:bs.drop 124=[bs[124],bs[125],bs[126],bs[127]]:=by
    refine List.ext_getElem (by simp [hl]) fun i h1 h2=>?_
    rw [List.getElem_drop]
    match i,h2 with
    | 0,_=>rfl
    | 1,_=>rfl
    | 2,_=>rfl
    | 3,_=>rfl
  have k:∀ (x:UInt8) (m:Nat),UInt8.ofNat (m % 256)=x ↔ x.toNat=m % 256:=fun x m=>by
    rw [← UInt8.toNat_inj]
    simp
    omega
  rw [e]
  simp only [leB,List.cons.injEq,and_true,k,e1,e2]
set_option maxHeartbeats 2000000 in
set_option maxRecDepth 20000 in
theorem refdecode_any (p:Option Addr) (n c:Nat) (bs:List UInt8) (w:World) (hx:bs.length=n) (hr:Rd w p bs) (hc:n≤c) (hm:c≤maxLen) :
    Calls Tryz.prog 212 #[.slice p n c] w fun e w'=>DecQ bs w w' e∧Below w.heap.size w w':=by
  have HX:=Lib.hid hx
  have HM:=Lib.hid hm
  have hmk:∀ W:World,(Instr.makeSlice 76 (.int .i64 112) (.int .i64 112)).run Tryz.prog W=.ok (.slice (some ⟨W.heap.size,0,none⟩) 112 112) (W.alloc (.cells (Zs 112) 5)):=make8 112 (by omega)
  by_cases h128:n=128
  · obtain rfl:n=128:=h128
    clear hx hm
    go_enter Tryz.func212,Tryz.ntmps212
    go_wp2_with fail
    refine (noughts_any p 128 c bs _ HX.out hr (Nat.le_trans hc HM.out)).mono ?_
    rintro e w1 ⟨rfl,rfl⟩
    by_cases hz:allZ bs=true
    · have HZ:=Lib.hid hz
      rw [hz]
      clear hz
      go_wp2_with fail
      go_region
      all_goals go_wp2
      all_goals go_ret3
      all_goals
        refine ⟨.inl ⟨?_,.slice (some ⟨w.heap.size,0,none⟩) 112 112,?_,?_⟩,?_⟩
        · unfold decE
          rw [if_neg (by rw [HX.out];decide),if_pos HZ.out]
        · rw [decL_zero HZ.out HX.out];rfl
        · rw [decP_zero HZ.out HX.out,Zs_arr]
          exact own8_mk (cur:=[]) (Nat.le_refl _) (by rw [List.append_nil];exact heap_alloc_new w _) (by simp) rfl (by decide)
        · exact (below_drewN' (B:=w.heap.size) w 1).alloc (Nat.le_refl _) _
    · have hzf:allZ bs=false:=by simpa using hz
      have HZ:=Lib.hid hzf
      rw [hzf]
      clear hz hzf
      have hx:=HX.out
      obtain ⟨b0,o0,rfl,hcell0⟩:=hr.at (by rw [hx];decide)
      have k124:=hcell0 124 (by omega)
      have k125:=hcell0 125 (by omega)
      have k126:=hcell0 126 (by omega)
      have k127:=hcell0 127 (by omega)
      have hS:Rd w (some ⟨b0,o0,none⟩) (bs.take 124):=hr.take 124
      have hlS:Hid ((bs.take 124).length=124):=Lib.hid (by simp [hx])
      have hcap:(124:Int)≤(c:Int):=by omega
      have HR:=Lib.hid hr
      have HS:=Lib.hid hS
      clear hr hS hcell0
      go_wp2_with fail
      refine (refsum_any (some ⟨b0,o0,none⟩) 124 c (bs.take 124) _ hlS.out HS.out (by unfold maxLen;decide)).mono ?_
      rintro e w1 ⟨rfl,rfl⟩
      have hSl:=sumN_lt (bs.take 124)
      obtain ⟨S,hSe⟩:∃ S,sumN (bs.take 124)=S:=⟨_,rfl⟩
      rw [hSe] at hSl ⊢
      have HSe:=Lib.hid hSe
      have HQ:=Lib.hid (sum_bytes (S:=S) hx hSl)
      have hE13:¬ leB S 4=bs.drop 124→Hid (decE bs=13):=fun heq=>Lib.hid (by
        unfold decE
        rw [if_neg (by rw [HX.out];decide),if_neg (by rw [HZ.out];decide),if_pos (by rw [HSe.out];exact heq)])
      have HE13:=Lib.hid hE13
      have hw8:IntKind.u8.wrap ((S:Nat):Int)=(S:Int) % 256:=IntKind.wrap_u8 _
      unfold B8 at k124 k125 k126 k127
      generalize (bs[124]'(by omega)).toNat=x0 at *
      generalize (bs[125]'(by omega)).toNat=x1 at *
      generalize (bs[126]'(by omega)).toNat=x2 at *
      generalize (bs[127]'(by omega)).toNat=x3 at *
      clear hSe hSl hx hE13
      by_cases g0:x0=S % 256
      · by_cases g1:x1=S / 256 % 256
        · by_cases g2:x2=S / 65536 % 256
          · by_cases g3:x3=S / 16777216 % 256
            · have HQ2:=Lib.hid (HQ.out.2 ⟨g0,g1,g2,g3⟩)
              have t0:((x0:Int) != (S:Int) % 256)=false:=by rw [bne_eq_false_iff_eq];omega
              have t1:((x1:Int) != (S:Int) / 256 % 256)=false:=by rw [bne_eq_false_iff_eq];omega
              have t2:((x2:Int) != (S:Int) / 65536 % 256)=false:=by rw [bne_eq_false_iff_eq];omega
              have t3:((x3:Int) != (S:Int) / 16777216 % 256)=false:=by rw [bne_eq_false_iff_eq];omega
              clear g0 g1 g2 g3
              go_wp2
              go_loop [6,53] (fun v i=>∃ k:Nat,k≤8∧i=.int .i64 k∧v=.int .u64 ((leV ((bs.drop 4).take k):Nat):Int)) (fun _ i=>8 - (intOf i).toNat)
              case atStart=>exact ⟨0,by omega,rfl,rfl⟩
              case round =>
                obtain ⟨k,hk,rfl,rfl⟩:=hrel
                by_cases hlt:k < 8
                · have hkl:4+k < bs.length:=by rw [HX.out];omega
                  obtain ⟨b1,o1,hbo,k1⟩:=rd_cell HR.out (k:=4+k) hkl
                  cases hbo
                  unfold B8 at k1
                  have hu:=(bs[4+k]).toNat_lt
                  have hs:=leV_take (ys:=bs.drop 4) (k:=k) (by simp;omega)
                  rw [List.getElem_drop] at hs
                  have hLl:=leV_take_lt (bs.drop 4) k
                  generalize (bs[4+k]).toNat=u at *
                  generalize leV ((bs.drop 4).take k)=L at *
                  have HSt:=Lib.hid hs
                  have HO:=Lib.hid (add_step hlt hLl hu)
                  have e1:((4:Int)+(k:Int)).toNat=4+k:=by omega
                  clear hs hLl
                  go_wp2
                  go_round
                  case rel=>exact ⟨k+1,by omega,by go_num,by rw [HO.out,HSt.out]⟩
                  case measure=>simp [intOf];omega
                · obtain rfl:k=8:=by omega
                  have HL:Hid (leV ((bs.drop 4).take 8)=decL bs):=Lib.hid rfl
                  rw [HL.out]
                  by_cases hbig:decL bs > 4611686018427387904
                  · have hgt:(4611686018427387904:Int) < (decL bs:Int):=by omega
                    have HE:Hid (decE bs=5):=Lib.hid (by
                      unfold decE
                      rw [if_neg (by rw [HX.out];decide),if_neg (by rw [HZ.out];decide),if_neg (by rw [HSe.out];exact fun h=>h HQ2.out),if_pos hbig])
                    clear hbig
                    go_wp2
                    go_ret3
                    exact ⟨.inr ⟨by rw [HE.out];decide,by rw [HE.out];rfl⟩,Below.refl _ _⟩
                  · have hgt:(decL bs:Int)≤4611686018427387904:=by omega
                    have hP:Rd w (some ⟨b0,o0+12,none⟩) (decP bs):=HR.out.sub 12 112
                    have hPl:(decP bs).length=112:=by unfold decP;have:=HX.out;simp;omega
                    have HPl:=Lib.hid hPl
                    have hPn:Rd (w.alloc (.cells #[] 5)) (some ⟨b0,o0+12,none⟩) (decP bs):=hP.below ((Below.refl _ _).alloc (Nat.le_refl _) _)
                    clear hbig hPl
                    go_wp2_with (at_builtin;refine wp_app8s (w0:=w) (base:=w.heap.size) (n:=0) (m:=112) (c:=c - 12) rfl _ _ rfl _ [] (decP bs) _ rfl rfl HPl.out hPn (by omega) (World.ownsRow_made w #[] 0 (Nat.le_refl _) (Nat.zero_le _) rfl) ((Below.refl _ _).alloc (Nat.le_refl _) _) (by simp) (by omega) ?_)
                    intro v5 w5 hown5 hb05
                    obtain ⟨p5,cap5,rfl,hr5,hx5,_,_⟩:=own_rd hown5
                    have hc5:112≤cap5∧cap5≤maxLen:=own_cap hown5 (by omega)
                    have HX5:=Lib.hid hx5
                    have HO5:=Lib.hid hown5
                    clear hown5 hx5
                    go_wp2_with fail
                    refine (refencode_ok (decL bs) p5 112 cap5 (decP bs) _ HX5.out hr5 hc5.1 hc5.2 ⟨by omega,by omega,rfl⟩).mono ?_
                    rintro e w6 ⟨v6,rfl,hown6,hb6⟩
                    obtain ⟨p6,cap6,rfl,hr6,hx6,_,_⟩:=own_rd hown6
                    have hb06:Below w.heap.size w w6:=hb05.trans (hb6.mono hb05.size)
                    have hrb:Rd w6 (some ⟨b0,o0,none⟩) bs:=HR.out.below hb06
                    have HO6:Hid (w6.ownsRow w.heap.size 5 1 (.slice p5 112 cap5) 112 (B8s (decP bs))):=Lib.hid (own_later HO5.out hb6)
                    have c1:=hr6.convert hx6 cap6 _ _ _ Tryz.underlying76 Tryz.underlying5 Tryz.underlying9
                    have c2:=hrb.convert HX.out c _ _ _ Tryz.underlying76 Tryz.underlying5 Tryz.underlying9
                    clear hown6 hx6 hb6 hr6 hrb
                    by_cases hsame:encV (decL bs) (decP bs)=bs
                    · have HE:Hid (decE bs=0):=Lib.hid (by
                        unfold decE
                        rw [if_neg (by rw [HX.out];decide),if_neg (by rw [HZ.out];decide),if_neg (by rw [HSe.out];exact fun h=>h HQ2.out),if_neg (by omega),if_neg (fun h=>h hsame)])
                      have hsb:(encV (decL bs) (decP bs) == bs)=true:=by rw [beq_iff_eq];exact hsame
                      clear hsame
                      go_wp2
                      go_ret3
                      exact ⟨.inl ⟨HE.out,_,rfl,HO6.out⟩,hb06⟩
                    · have HE:Hid (decE bs=5):=Lib.hid (by
                        unfold decE
                        rw [if_neg (by rw [HX.out];decide),if_neg (by rw [HZ.out];decide),if_neg (by rw [HSe.out];exact fun h=>h HQ2.out),if_neg (by omega),if_pos hsame])
                      have hsb:(encV (decL bs) (decP bs) == bs)=false:=by rw [beq_eq_false_iff_ne];exact hsame
                      clear hsame
                      go_wp2
                      go_ret3
                      exact ⟨.inr ⟨by rw [HE.out];decide,by rw [HE.out];rfl⟩,hb06⟩
            · have HE:=HE13.out (fun hh=>g3 (by have h:=HQ.out.1 hh;exact h.2.2.2))
              have t0:((x0:Int) != (S:Int) % 256)=false:=by rw [bne_eq_false_iff_eq];omega
              have t1:((x1:Int) != (S:Int) / 256 % 256)=false:=by rw [bne_eq_false_iff_eq];omega
              have t2:((x2:Int) != (S:Int) / 65536 % 256)=false:=by rw [bne_eq_false_iff_eq];omega
              have t3:((x3:Int) != (S:Int) / 16777216 % 256)=true:=by rw [bne_iff_ne];omega
              clear g0 g1 g2 g3
              go_wp2
              go_ret3
              exact ⟨.inr ⟨by rw [HE.out];decide,by rw [HE.out];rfl⟩,Below.refl _ _⟩
          · have HE:=HE13.out (fun hh=>g2 (by have h:=HQ.out.1 hh;exact h.2.2.1))
            have t0:((x0:Int) != (S:Int) % 256)=false:=by rw [bne_eq_false_iff_eq];omega
            have t1:((x1:Int) != (S:Int) / 256 % 256)=false:=by rw [bne_eq_false_iff_eq];omega
            have t2:((x2:Int) != (S:Int) / 65536 % 256)=true:=by rw [bne_iff_ne];omega
            clear g0 g1 g2
            go_wp2
            go_ret3
            exact ⟨.inr ⟨by rw [HE.out];decide,by rw [HE.out];rfl⟩,Below.refl _ _⟩
        · have HE:=HE13.out (fun hh=>g1 (by have h:=HQ.out.1 hh;exact h.2.1))
          have t0:((x0:Int) != (S:Int) % 256)=false:=by rw [bne_eq_false_iff_eq];omega
          have t1:((x1:Int) != (S:Int) / 256 % 256)=true:=by rw [bne_iff_ne];omega
          clear g0 g1
          go_wp2
          go_ret3
          exact ⟨.inr ⟨by rw [HE.out];decide,by rw [HE.out];rfl⟩,Below.refl _ _⟩
      · have HE:=HE13.out (fun hh=>g0 (by have h:=HQ.out.1 hh;exact h.1))
        have t0:((x0:Int) != (S:Int) % 256)=true:=by rw [bne_iff_ne];omega
        clear g0
        go_wp2
        go_ret3
        exact ⟨.inr ⟨by rw [HE.out];decide,by rw [HE.out];rfl⟩,Below.refl _ _⟩
  · have hb:((n:Int) != 128)=true:=by rw [bne_iff_ne];omega
    have HE:Hid (decE bs=5):=Lib.hid (by unfold decE;rw [if_pos (by rw [hx];exact h128)])
    clear h128 hx hm
    go_enter Tryz.func212,Tryz.ntmps212
    go_wp2
    go_ret3
    exact ⟨.inr ⟨by rw [HE.out];decide,by rw [HE.out];rfl⟩,Below.refl _ _⟩
end Go.Proofs.YtheeomjfpnijbaaGreatDoor
