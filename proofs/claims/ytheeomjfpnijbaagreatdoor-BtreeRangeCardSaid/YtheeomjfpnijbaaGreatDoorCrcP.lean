/- Lemmas: Crc. -/
import Derived.Test.YtheeomjfpnijbaaGreatDoorBaseP
import Derived.Outline
set_option linter.unusedVariables false
namespace Go.Proofs.YtheeomjfpnijbaaGreatDoor
open Go.RowKit
def X32 (a b:Nat):Nat:=(a % 4294967296) ^^^ (b % 4294967296)
def D16 (a:Nat):Nat:=a / 16
def M16 (a:Nat):Nat:=a % 16
def D2 (a:Nat):Nat:=a / 2
def tab (i:Nat):Nat:=[0x00000000,0x1db71064,0x3b6e20c8,0x26d930ac,0x76dc4190,0x6b6b51f4,0x4db26158,0x5005713c,
    0xedb88320,0xf00f9344,0xd6d6a3e8,0xcb61b38c,0x9b64c2b0,0x86d3d2d4,0xa00ae278,0xbdbdf21c].getD i 0
theorem bits_xor32 (a b:Nat):bits .xor .u32 (a:Int) (b:Int)=((X32 a b:Nat):Int):=by
  have h:((a % 4294967296) ^^^ (b % 4294967296)) < 4294967296:=Nat.xor_lt_two_pow (n:=32) (Nat.mod_lt _ (by decide)) (Nat.mod_lt _ (by decide))
  simp only [bits,IntKind.bits,BitVec.ofInt_natCast,X32,IntKind.wrap_u32]
  show (((a % 4294967296) ^^^ (b % 4294967296):Nat):Int) % 4294967296=_
  omega
theorem bits_and15 (a:Nat):bits .and .u32 (a:Int) 15=((M16 a:Nat):Int):=by
  have e:((15:Int))=((15:Nat):Int):=rfl
  rw [e]
  simp only [bits,IntKind.bits,BitVec.ofInt_natCast,M16,IntKind.wrap_u32]
  show (((a % 4294967296) &&& 15:Nat):Int) % 4294967296=_
  have:(a % 4294967296) &&& 15=a % 16:=by
    rw [show (15:Nat)=2 ^ 4 - 1 from rfl,Nat.and_two_pow_sub_one_eq_mod]
    omega
  rw [this]
  omega
theorem bits_and1 (a:Nat):bits .and .u32 (a:Int) 1=((a % 2:Nat):Int):=by
  have e:((1:Int))=((1:Nat):Int):=rfl
  rw [e]
  simp only [bits,IntKind.bits,BitVec.ofInt_natCast,IntKind.wrap_u32]
  show (((a % 4294967296) &&& 1:Nat):Int) % 4294967296=_
  have:(a % 4294967296) &&& 1=a % 2:=by
    rw [show (1:Nat)=2 ^ 1 - 1 from rfl,Nat.and_two_pow_sub_one_eq_mod]
    omega
  rw [this]
  omega
theorem X32_lt (a b:Nat):X32 a b < 4294967296:=Nat.xor_lt_two_pow (n:=32) (Nat.mod_lt _ (by decide)) (Nat.mod_lt _ (by decide))
theorem X32_eq {a b:Nat} (ha:a < 4294967296) (hb:b < 4294967296):X32 a b=a ^^^ b:=by
  unfold X32;rw [Nat.mod_eq_of_lt ha,Nat.mod_eq_of_lt hb]
theorem tab_lt (i:Nat):tab i < 4294967296:=by
  unfold tab
  rcases Nat.lt_or_ge i 16 with h | h
  · revert i;decide
  · rw [List.getD_eq_getElem?_getD,List.getElem?_eq_none (by simpa using h)];decide
def nibN (c:Nat):Nat:=X32 (tab (M16 c)) (D16 c)
def byteN (c u:Nat):Nat:=nibN (nibN (X32 c u))
def crcN (l:List UInt8):Nat:=l.foldl (fun c x=>byteN c x.toNat) 4294967295
def sumN (l:List UInt8):Nat:=X32 (crcN l) 4294967295
def bitN (c:Nat):Nat:=if c % 2=1 then X32 (D2 c) 3988292384 else D2 c
def bitsN:Nat→Nat→Nat
  | 0,c=>c
  | n+1,c=>bitN (bitsN n c)
def byteB (c u:Nat):Nat:=bitsN 8 (X32 c u)
theorem byteN_lt (c u:Nat):byteN c u < 4294967296:=X32_lt _ _
theorem crcN_lt (l:List UInt8):crcN l < 4294967296:=by
  unfold crcN
  rcases List.eq_nil_or_concat l with rfl | ⟨l',x,rfl⟩
  · decide
  · rw [List.concat_eq_append,List.foldl_append];exact byteN_lt _ _
theorem sumN_lt (l:List UInt8):sumN l < 4294967296:=X32_lt _ _
theorem crcN_snoc (l:List UInt8) (x:UInt8):crcN (l++[x])=byteN (crcN l) x.toNat:=by simp [crcN]
theorem bitN_xor {a b:Nat} (ha:a < 4294967296) (hb:b < 4294967296):bitN (a ^^^ b)=bitN a ^^^ bitN b:=by
  have hd:∀ a,a < 4294967296→D2 a < 4294967296:=fun a h=>by unfold D2;omega
  have h2:(a ^^^ b) / 2=(a / 2) ^^^ (b / 2):=by
    have:=Nat.shiftRight_xor_distrib (a:=a) (b:=b) (i:=1)
    simpa [Nat.shiftRight_succ] using this
  have hm:(a ^^^ b) % 2=(a % 2+b % 2) % 2:=by
    have:=Nat.testBit_xor a b 0
    simp only [Nat.testBit_zero] at this
    have h1:=Nat.mod_two_eq_zero_or_one a
    have h3:=Nat.mod_two_eq_zero_or_one b
    have h4:=Nat.mod_two_eq_zero_or_one (a ^^^ b)
    rcases h1 with h1 | h1 <;> rcases h3 with h3 | h3 <;> rcases h4 with h4 | h4 <;> simp [h1,h3,h4] at this ⊢
  have hx:(a ^^^ b) < 4294967296:=Nat.xor_lt_two_pow (n:=32) ha hb
  unfold bitN
  rw [hm,show D2 (a ^^^ b)=D2 a ^^^ D2 b from h2]
  have e1:=X32_eq (hd _ ha) (show 3988292384 < 4294967296 by decide)
  have e2:=X32_eq (hd _ hb) (show 3988292384 < 4294967296 by decide)
  have e3:=X32_eq (Nat.xor_lt_two_pow (n:=32) (hd _ ha) (hd _ hb)) (show 3988292384 < 4294967296 by decide)
  have h1:=Nat.mod_two_eq_zero_or_one a
  have h3:=Nat.mod_two_eq_zero_or_one b
  rcases h1 with h1 | h1 <;> rcases h3 with h3 | h3 <;> rw [h1,h3]
  · rfl
  · rw [if_pos rfl,if_neg (by decide),if_pos rfl,e3,e2,Nat.xor_assoc]
  · rw [if_pos rfl,if_pos rfl,if_neg (by decide),e3,e1,Nat.xor_assoc,Nat.xor_comm (D2 b),← Nat.xor_assoc]
  · rw [if_neg (by decide),if_pos rfl,if_pos rfl,e1,e2,Nat.xor_assoc,Nat.xor_comm (D2 b),← Nat.xor_assoc 3988292384,Nat.xor_self,Nat.zero_xor]
theorem bitN_lt {a:Nat} (ha:a < 4294967296):bitN a < 4294967296:=by
  unfold bitN;split
  · exact X32_lt _ _
  · unfold D2;omega
theorem bitsN_lt {a:Nat} (ha:a < 4294967296):∀ n,bitsN n a < 4294967296
  | 0=>ha
  | n+1=>bitN_lt (bitsN_lt ha n)
theorem bitsN_xor {a b:Nat} (ha:a < 4294967296) (hb:b < 4294967296):∀ n,bitsN n (a ^^^ b)=bitsN n a ^^^ bitsN n b
  | 0=>rfl
  | n+1=>by
    show bitN (bitsN n (a ^^^ b))=_
    rw [bitsN_xor ha hb n,bitN_xor (bitsN_lt ha n) (bitsN_lt hb n)]
    rfl
theorem bitsN_shift (q:Nat):∀ n,bitsN n (2 ^ n * q)=q:=by
  intro n
  induction n generalizing q with
  | zero=>simp [bitsN]
  | succ n ih =>
    show bitN (bitsN n (2 ^ (n+1) * q))=q
    rw [Nat.pow_succ,Nat.mul_assoc,ih (2 * q)]
    unfold bitN D2
    rw [if_neg (by omega)]
    omega
theorem tab_bits:∀ i,i < 16→bitsN 4 i=tab i:=by decide
theorem nib_bits {c:Nat} (hc:c < 4294967296):nibN c=bitsN 4 c:=by
  have e:c=(2 ^ 4 * (c / 16)) ^^^ (c % 16):=by
    have h:=Nat.two_pow_add_eq_or_of_lt (i:=4) (b:=c % 16) (by omega) (c / 16)
    have h2:2 ^ 4 * (c / 16) ||| c % 16=2 ^ 4 * (c / 16) ^^^ c % 16:=by
      refine Nat.eq_of_testBit_eq fun i=>?_
      rw [Nat.testBit_or,Nat.testBit_xor]
      rcases Nat.lt_or_ge i 4 with hi | hi
      · have:(2 ^ 4 * (c / 16)).testBit i=false:=by rw [Nat.testBit_two_pow_mul];simp;omega
        rw [this];simp
      · have:(c % 16).testBit i=false:=Nat.testBit_lt_two_pow (Nat.lt_of_lt_of_le (Nat.mod_lt c (show 0 < 16 by decide)) (Nat.pow_le_pow_right (show 0 < 2 by decide) hi))
        rw [this];simp
    rw [← h2,← h]
    omega
  have h1:2 ^ 4 * (c / 16) < 4294967296:=by omega
  have h3:c % 16 < 4294967296:=by omega
  rw [e,bitsN_xor h1 h3,bitsN_shift,tab_bits _ (by omega),← e]
  unfold nibN M16 D16
  rw [X32_eq (tab_lt _) (by omega),Nat.xor_comm]
theorem bitsN_add (c:Nat) (n:Nat):∀ m,bitsN (m+n) c=bitsN m (bitsN n c)
  | 0=>by rw [Nat.zero_add];rfl
  | m+1=>by
    rw [Nat.succ_add]
    show bitN (bitsN (m+n) c)=_
    rw [bitsN_add c n m]
    rfl
theorem byte_bits (c u:Nat):byteN c u=byteB c u:=by
  unfold byteN byteB
  rw [show (8:Nat)=4+4 from rfl,bitsN_add,nib_bits (X32_lt c u),nib_bits (bitsN_lt (X32_lt c u) 4)]
end Go.Proofs.YtheeomjfpnijbaaGreatDoor
namespace Go.Proofs.YtheeomjfpnijbaaGreatDoor
open Go.RowKit
theorem rd_cell {w:World} {p:Option Addr} {xs:List UInt8} (h:Rd w p xs) {k:Nat} (hk:k < xs.length) :
    ∃ b o,p=some ⟨b,o,none⟩∧w.cell? ⟨b,o+k,none⟩=some (B8 xs[k]):=by
  obtain ⟨b,o,e,hc⟩:=h.at (by omega)
  exact ⟨b,o,e,hc k hk⟩
def Halves (w:World):Prop:=∀ i:Nat,w.cell? ⟨0,M16 i,none⟩=some (.int .u32 ((tab (M16 i):Nat):Int))
theorem Halves.below {w w':World} (h:Halves w) (hb:Below w.heap.size w w'):Halves w':=fun i=>(hb.cell (cell_lt (h i))).trans (h i)
theorem Halves.drewN {w:World} (h:Halves w) (n:Nat):Halves (w.drewN n):=h
theorem crc_take {xs:List UInt8} {k:Nat} (hk:k < xs.length):crcN (xs.take (k+1))=byteN (crcN (xs.take k)) (xs[k]).toNat:=by
  rw [List.take_succ_eq_append_getElem hk,crcN_snoc]
set_option maxHeartbeats 400000 in
theorem sum_any (p:Option Addr) (n c:Nat) (xs:List UInt8) (w:World) (hx:xs.length=n) (h1:Rd w p xs) (hm:n≤maxLen) (hT:Halves w) :
    Calls Tryz.prog 222 #[.slice p n c] w fun e w'=>e=.returned (.int .u32 (sumN xs))∧w=w':=by
  unfold maxLen at hm
  have hT':∀ i:Nat,w.cell? ⟨0,M16 i,none⟩=some (.int .u32 ((tab (M16 i):Nat):Int)):=hT
  clear hT
  have bx:=bits_xor32
  have ba:=bits_and15
  have bd:∀ a:Nat,(a:Int) / 16=((D16 a:Nat):Int):=fun a=>by unfold D16;omega
  have bm:∀ a:Nat,((M16 a:Nat):Int) < 16:=fun a=>by unfold M16;omega
  have b1:∀ a b:Nat,((X32 a b:Nat):Int)≤4294967295:=fun a b=>by have:=X32_lt a b;omega
  have HX:=Lib.hid hx
  clear hx
  go_enter Tryz.func222,Tryz.ntmps222
  go_wp2
  go_loop [3,8] (fun v i=>∃ k:Nat,k≤n∧i=.int .i64 k∧v=.int .u32 ((crcN (xs.take k):Nat):Int)) (fun _ i=>n - (intOf i).toNat)
  case atStart=>exact ⟨0,Nat.zero_le _,rfl,rfl⟩
  case round =>
    obtain ⟨k,hk,rfl,rfl⟩:=hrel
    have hcl:=crcN_lt (xs.take k)
    by_cases hlt:k < n
    · have hkl:k < xs.length:=by rw [HX.out];exact hlt
      obtain ⟨b,o,rfl,k1⟩:=rd_cell h1 (k:=k) hkl
      have HC:=Lib.hid (crc_take hkl)
      have hu:=(xs[k]).toNat_lt
      unfold B8 at k1
      generalize (xs[k]).toNat=u at *
      generalize crcN (xs.take k)=c0 at *
      have hu2:(u:Int) % 4294967296=u:=by omega
      clear hcl hu
      go_wp2
      go_round
      case rel=>exact ⟨k+1,by omega,by go_num,by rw [HC.out];rfl⟩
      case measure=>simp [intOf];omega
    · have e:xs.take k=xs:=List.take_of_length_le (by rw [HX.out];omega)
      rw [e] at hcl ⊢
      go_wp2
      go_ret
      refine ⟨?_,rfl⟩
      have e2:bits .xor .u32 IntKind.u32.max ((crcN xs:Nat):Int)=((sumN xs:Nat):Int):=by
        rw [show (IntKind.u32.max:Int)=((4294967295:Nat):Int) from rfl,bits_xor32]
        unfold sumN X32
        rw [Nat.xor_comm]
      exact congrArg (fun z=>Ending.returned (.int .u32 z)) e2
set_option maxHeartbeats 1000000 in
theorem refsum_any (p:Option Addr) (n c:Nat) (xs:List UInt8) (w:World) (hx:xs.length=n) (h1:Rd w p xs) (hm:n≤maxLen) :
    Calls Tryz.prog 256 #[.slice p n c] w fun e w'=>e=.returned (.int .u32 (sumN xs))∧w=w':=by
  unfold maxLen at hm
  have bx:=bits_xor32
  have ba:=bits_and1
  have bd:∀ a:Nat,(a:Int) / 2=((D2 a:Nat):Int):=fun a=>by unfold D2;omega
  have b1:∀ a b:Nat,((X32 a b:Nat):Int)≤4294967295:=fun a b=>by have:=X32_lt a b;omega
  have bp:∀ a:Nat,bits .xor .u32 (a:Int) 3988292384=((X32 a 3988292384:Nat):Int):=fun a=>bits_xor32 a 3988292384
  have bq:∀ a:Nat,bits .xor .u32 (a:Int) 4294967295=((X32 a 4294967295:Nat):Int):=fun a=>bits_xor32 a 4294967295
  have HX:=Lib.hid hx
  clear hx
  go_enter Tryz.func256,Tryz.ntmps256
  go_wp2
  go_loop [3,9] (fun v i=>∃ k:Nat,k≤n∧i=.int .i64 k∧v=.int .u32 ((crcN (xs.take k):Nat):Int)) (fun _ i=>n - (intOf i).toNat)
  case atStart=>exact ⟨0,Nat.zero_le _,rfl,rfl⟩
  case round =>
    obtain ⟨k,hk,rfl,rfl⟩:=hrel
    have hcl:=crcN_lt (xs.take k)
    by_cases hlt:k < n
    · have hkl:k < xs.length:=by rw [HX.out];exact hlt
      obtain ⟨b,o,rfl,k1⟩:=rd_cell h1 (k:=k) hkl
      have HC:=Lib.hid (crc_take hkl)
      have hu:=(xs[k]).toNat_lt
      unfold B8 at k1
      generalize (xs[k]).toNat=u at *
      generalize crcN (xs.take k)=c0 at *
      have hu2:(u:Int) % 4294967296=u:=by omega
      clear hcl hu
      go_wp2
      go_loop [3,17] (fun v i=>∃ (j c1:Nat),j≤8∧i=.int .i64 j∧v=.int .u32 (c1:Int)∧Hid (c1=bitsN j (X32 c0 u))∧c1 < 4294967296) (fun _ i=>8 - (intOf i).toNat)
      case atStart=>exact ⟨0,_,by omega,rfl,rfl,Lib.hid rfl,X32_lt _ _⟩
      case round =>
        obtain ⟨j,c1,hj,rfl,rfl,HB,hl1⟩:=hrel
        by_cases hj8:j < 8
        · rcases Nat.mod_two_eq_zero_or_one c1 with h2 | h2
          · have hz:(((c1 % 2:Nat):Int) == 1)=false:=by rw [beq_eq_false_iff_ne];omega
            have HN:=Lib.hid (show D2 c1=bitsN (j+1) (X32 c0 u) from by show _=bitN (bitsN j _);rw [← HB.out];unfold bitN;rw [if_neg (by omega)])
            have HL:Hid (D2 c1 < 4294967296):=Lib.hid (by unfold D2;omega)
            clear h2
            go_wp2
            go_round
            case rel=>exact ⟨j+1,D2 c1,by omega,by go_num,rfl,HN,HL.out⟩
            case measure=>simp [intOf];omega
          · have hz:(((c1 % 2:Nat):Int) == 1)=true:=by rw [beq_iff_eq];omega
            have HN:=Lib.hid (show X32 (D2 c1) 3988292384=bitsN (j+1) (X32 c0 u) from by show _=bitN (bitsN j _);rw [← HB.out];unfold bitN;rw [if_pos h2])
            clear h2
            go_wp2
            go_round
            case rel=>exact ⟨j+1,_,by omega,by go_num,rfl,HN,X32_lt _ _⟩
            case measure=>simp [intOf];omega
        · obtain rfl:j=8:=by omega
          go_wp2
          go_round
          case rel=>exact ⟨k+1,by omega,by go_num,by rw [HC.out,byte_bits,byteB,← HB.out]⟩
          case measure=>simp [intOf];omega
    · have e:xs.take k=xs:=List.take_of_length_le (by rw [HX.out];omega)
      rw [e] at hcl ⊢
      go_wp2
      go_ret
      exact ⟨rfl,rfl⟩
end Go.Proofs.YtheeomjfpnijbaaGreatDoor
