/- Lemmas: LogSector, LogAppend, LogForce. -/
import Derived.Test.YtheeomjfpnijbaaGreatDoorLogZeroP
import Derived.Test.YtheeomjfpnijbaaGreatDoorZWi
import Derived.Test.YtheeomjfpnijbaaGreatDoorStateDP
set_option linter.unusedVariables false
section
namespace Go.Proofs.YtheeomjfpnijbaaGreatDoor
open Go.RowKit Go.Deep
theorem make8I (m:Nat) (hm:m≤281474976710656) (W:World) :
    (Instr.makeSlice 76 (.int .i64 (m:Int)) (.int .i64 (m:Int))).run Tryz.prog W=.ok (.slice (some ⟨W.heap.size,0,none⟩) m m) (W.alloc (.cells (Zs m) 5)):=make8 m hm W
def littleR (N j k:Nat):List UInt8:=leB N j++zeros (k - j)
theorem littleR_set {N j k:Nat} (h:j < k):(B8s (littleR N j k)).set j (B8 (UInt8.ofNat (N / 256 ^ j % 256)))=B8s (littleR N (j+1) k):=by
  unfold littleR B8s
  rw [leB_snoc]
  have e:k - j=(k - (j+1))+1:=by omega
  rw [e]
  unfold zeros
  rw [List.replicate_succ,List.map_append,List.map_append,List.map_append,List.map_cons,List.set_append_right _ _ (by simp [leB_length])]
  simp [leB_length]
set_option maxRecDepth 20000 in
set_option maxHeartbeats 1000000 in
theorem little_any (N k:Nat) (w:World) (hN:N < 18446744073709551616) (hk:k≤8) :
    Calls Tryz.prog 221 #[.int .u64 N,.int .i64 k] w fun e w'=>∃ v',e=.returned v'∧w'.ownsRow w.heap.size 5 1 v' k (B8s (leB N k))∧Below w.heap.size w w':=by
  have HN:=Lib.hid hN
  have hmk:=make8I k (by omega)
  clear hN
  go_enter Tryz.func221,Tryz.ntmps221
  go_wp2
  go_loopw [11] (fun i wr=>∃ j:Nat,j≤k∧i=.int .i64 j∧Hid (wr.heap[w.heap.size]?=some (.cells (B8s (littleR N j k)).toArray 5 (0,0)))∧Hid (Below w.heap.size w wr)) (fun i _=>k - (intOf i).toNat)
  case atStart=>exact ⟨0,Nat.zero_le _,rfl,Lib.hid (by rw [heap_alloc_new,Zs_arr];rfl),Lib.hid ((Below.refl _ w).alloc (Nat.le_refl _) _)⟩
  case round =>
    obtain ⟨j,hj,rfl,HH,HB⟩:=hrel
    by_cases hlt:j < k
    · have kc:wr.cell? ⟨w.heap.size,j,none⟩=some (.int .u8 0):=by
        simp only [World.cell?,HH.out]
        have e0:(littleR N j k)[j]?=some 0:=by
          unfold littleR zeros
          rw [List.getElem?_append_right (by rw [leB_length];exact Nat.le_refl _),leB_length,List.getElem?_replicate,if_pos (by omega)]
        have:(B8s (littleR N j k))[j]?=some (.int .u8 0):=by
          unfold B8s
          rw [List.getElem?_map,e0]
          rfl
        simpa using this
      have kf:=frozenC (i:=j) HH.out
      have hv:Value.int .u8 ((N:Int) / 2 ^ (8 * j) % 256)=B8 (UInt8.ofNat (N / 256 ^ j % 256)):=by
        have e:(2:Int) ^ (8 * j)=((256 ^ j:Nat):Int):=by rw [Int.pow_mul];norm_cast
        rw [e]
        simp [B8]
      have HV:=Lib.hid hv
      clear hv
      go_wp2_with fail
      go_roundw
      case rel =>
        refine ⟨j+1,by omega,by go_num,Lib.hid ?_,Lib.hid (HB.out.setCell (Nat.le_refl _) _)⟩
        rw [HV.out,heap_setCell_same wr w.heap.size j _ _ _ HH.out,← littleR_set hlt]
        simp
      case measure=>simp [intOf];omega
    · obtain rfl:j=k:=by omega
      go_wp2
      go_ret
      have hh:=HH.out
      unfold littleR at hh
      rw [Nat.sub_self] at hh
      simp only [zeros,List.replicate_zero,List.append_nil] at hh
      refine ⟨_,rfl,⟨by rw [B8s_length,leB_length,Nat.mul_one],.inr ⟨w.heap.size,j,_,rfl,Nat.le_refl _,hh,Nat.le_refl _,by unfold maxLen;omega,by simp [B8s_length,leB_length,Nat.mul_one],?_⟩⟩,HB.out⟩
      show List.take (j * 1) (B8s (leB N j))=_
      rw [List.take_of_length_le (by rw [B8s_length,leB_length];omega)]
def padTo (m:Nat) (xs:List UInt8):List UInt8:=xs++zeros (m - xs.length)
theorem padTo_length {m:Nat} {xs:List UInt8} (h:xs.length≤m):(padTo m xs).length=m:=by simp [padTo,zeros];omega
set_option maxHeartbeats 1000000 in
set_option maxRecDepth 20000 in
theorem join_any (m:Nat) (p:Option Addr) (n c:Nat) (ps:List (List UInt8)) (w:World) (hn:ps.length=n) (hn3:n≤1000000000) (h:PartsRd w p ps) (hf:ps.flatten.length≤m) (h0:0 < m) (hm:m≤1000000) (hlt:∀ k,k < ps.length→(ps.take k).flatten.length < m) :
    Calls Tryz.prog 220 #[.int .i64 m,.slice p n c] w fun e w'=>∃ v',e=.returned v'∧w'.ownsRow w.heap.size 5 1 v' m (B8s (padTo m ps.flatten))∧Below w.heap.size w w':=by
  have HN:=Lib.hid hn
  have hmk:=make8I m (by omega)
  have HLT:=Lib.hid hlt
  have HF:=Lib.hid hf
  clear hn hlt hf
  go_enter Tryz.func220,Tryz.ntmps220
  go_wp2
  go_loopw [6,13] (fun t i wr=>∃ k at':Nat,k≤n∧i=.int .i64 k∧t=.int .i64 at'∧Hid (at'=(ps.take k).flatten.length)∧Hid (wr.heap[w.heap.size]?=some (.cells (B8s (padTo m (ps.take k).flatten)).toArray 5 (0,0)))∧Below w.heap.size w wr) (fun _ i _=>n - (intOf i).toNat)
  case atStart=>exact ⟨0,0,Nat.zero_le _,rfl,rfl,Lib.hid rfl,Lib.hid (by rw [heap_alloc_new,Zs_arr];rfl),(Below.refl _ w).alloc (Nat.le_refl _) _⟩
  case round =>
    obtain ⟨k,at',hk,rfl,rfl,HA,HC,hb⟩:=hrel
    by_cases hlt:k < n
    · have hkl:k < ps.length:=by rw [HN.out];exact hlt
      obtain ⟨b,o,q,cq,rfl,hc,hr⟩:=h k hkl
      have hc':=(hb.cell (cell_lt hc)).trans hc
      have hle1:at'+(ps[k]).length≤m:=by
        have:=flat_take_le ps (k+1)
        rw [flat_take_succ hkl,List.length_append] at this
        have:=HA.out
        have:=HF.out
        omega
      have hle2:at' < m:=by rw [HA.out];exact HLT.out k hkl
      have HS:=Lib.hid (flat_take_succ hkl)
      have hrq:Rd wr q ps[k]:=hr.below hb
      have hlen:(padTo m (ps.take k).flatten).length=m:=padTo_length (by have:=flat_take_le ps k;have:=HF.out;omega)
      have HQ:=Lib.hid hrq
      have HLen:=Lib.hid hlen
      clear hc hr hrq hlen
      have hmin:Hid ((B8s ps[k]).length=Nat.min (ps[k]).length (m - at')):=Lib.hid (by rw [B8s_length];show _=min _ _;omega)
      have hsz8:(Tryz.prog.info? 5).map (·.size)=some 1:=by kernel_rfl
      have hne:(at'=m)=False:=eq_false (by omega)
      go_wp2_with (with_reducible (refine wpList_copy_splice rfl (.tmp 20) (.tmp 21) 76 76 rfl 5 Tryz.underlying76 hsz8 _ _ _ _ _ _ rfl rfl w.heap.size at' (B8s (padTo m (ps.take k).flatten)) 5 HC.out (B8s ps[k]) hmin.out ?n2 ?n3 B8s_one w.heap.size w hb (Nat.le_refl _) ?_))
      case n2=>intro hp;rw [B8s_length] at hp;exact HQ.out.news hp
      case n3=>rw [B8s_length,B8s_length,HLen.out];omega
      intro w2 hh2 hb2
      have e1:splice (B8s (padTo m (ps.take k).flatten)) at' (B8s ps[k])=B8s (padTo m (ps.take (k+1)).flatten):=by
        have ha:=HA.out
        have hl:(ps.take k).flatten.length≤m:=by have:=flat_take_le ps k;have:=HF.out;omega
        rw [HS.out]
        unfold splice padTo B8s zeros
        generalize (ps.take k).flatten=xs at *
        generalize ps[k]=ys at *
        subst ha
        rw [← List.map_take,← List.map_drop,← List.map_append,← List.map_append]
        congr 1
        rw [List.take_left,List.length_map,List.length_append,List.append_assoc]
        congr 1
        congr 1
        rw [List.drop_append,List.drop_of_length_le (by omega),List.nil_append,List.drop_replicate]
        congr 1
        omega
      have H2:Hid (w2.heap[w.heap.size]?=some (.cells (B8s (padTo m (ps.take (k+1)).flatten)).toArray 5 (0,0))):=Lib.hid (by rw [hh2.out,e1])
      have HA2:Hid (at'+(ps[k]).length=(ps.take (k+1)).flatten.length):=Lib.hid (by rw [HS.out,List.length_append,HA.out])
      have hbl:=B8s_length ps[k]
      clear hh2 e1 hne
      go_wp2
      go_roundw
      case rel=>exact ⟨k+1,at'+(ps[k]).length,by omega,by go_num,by go_num,HA2,H2,hb2⟩
      case measure=>simp [intOf];omega
    · obtain rfl:k=n:=by omega
      have e:ps.take k=ps:=List.take_of_length_le (by rw [HN.out];exact Nat.le_refl _)
      rw [e] at HC
      have hl:(padTo m ps.flatten).length=m:=padTo_length HF.out
      go_wp2
      go_ret
      refine ⟨_,rfl,⟨by rw [B8s_length,hl,Nat.mul_one],.inr ⟨w.heap.size,m,_,rfl,Nat.le_refl _,HC.out,Nat.le_refl _,by unfold maxLen;omega,by simp [B8s_length,hl,Nat.mul_one],?_⟩⟩,hb⟩
      show List.take (m * 1) (B8s (padTo m ps.flatten))=_
      rw [List.take_of_length_le (by rw [B8s_length,hl];omega)]
def lbody (place first:Nat) (load:List UInt8):List UInt8:=[0x4c,UInt8.ofNat load.length]++leB place 2++leB first 8++load
def lsec (place first:Nat) (load:List UInt8):List UInt8:=padTo 124 (lbody place first load)++leB (sumN (padTo 124 (lbody place first load))) 4
theorem lbody_length (place first:Nat) (load:List UInt8):(lbody place first load).length=12+load.length:=by
  simp [lbody,leB_length]
  omega
theorem lsec_length {place first:Nat} {load:List UInt8} (h:load.length≤112):(lsec place first load).length=128:=by
  rw [lsec,List.length_append,padTo_length (by rw [lbody_length];omega),leB_length]
theorem wrapU {n:Nat} (h:n < 18446744073709551616):IntKind.u64.wrap (n:Int)=n:=by
  simp [IntKind.wrap,IntKind.bits,IntKind.signed]
  omega
theorem parts4 {w W0 W:World} {p q2 q8:Option Addr} {n c c2 c8 place first:Nat} {xs:List UInt8} (h0:W.cell? ⟨W0.heap.size,0,none⟩=some (.slice (some ⟨w.heap.size,0,none⟩) 2 2)) (h1:W.cell? ⟨W0.heap.size,1,none⟩=some (.slice q2 2 c2)) (h2:W.cell? ⟨W0.heap.size,2,none⟩=some (.slice q8 8 c8)) (h3:W.cell? ⟨W0.heap.size,3,none⟩=some (.slice p n c))
    (k0:W.cell? ⟨w.heap.size,0,none⟩=some (.int .u8 76)) (k1:W.cell? ⟨w.heap.size,1,none⟩=some (.int .u8 n)) (hx:xs.length=n) (hn:n≤112) (r2:Rd W q2 (leB place 2)) (r8:Rd W q8 (leB first 8)) (r:Rd W p xs) :
    PartsRd W (some ⟨W0.heap.size,0,none⟩) [[0x4c,UInt8.ofNat xs.length],leB place 2,leB first 8,xs]:=by
  intro k hk
  match k,hk with
  | 0,_ =>
    refine ⟨_,_,_,2,rfl,h0,fun _=>⟨w.heap.size,0,rfl,fun i v hv=>?_⟩⟩
    have hi:i < 2:=by have:=(List.getElem?_eq_some_iff.1 hv).1;simpa [B8s] using this
    match i,hi with
    | 0,_=>rw [k0,← hv];rfl
    | 1,_ =>
      rw [k1,← hv,hx]
      simp [B8s,B8]
      omega
  | 1,_=>exact ⟨_,_,q2,c2,rfl,by simpa [leB_length] using h1,r2⟩
  | 2,_=>exact ⟨_,_,q8,c8,rfl,by simpa [leB_length] using h2,r8⟩
  | 3,_=>exact ⟨_,_,p,c,rfl,by simpa [hx] using h3,r⟩
set_option maxHeartbeats 1000000 in
set_option maxRecDepth 20000 in
theorem sector_any (place first:Nat) (p:Option Addr) (n c:Nat) (xs:List UInt8) (w:World) (hx:xs.length=n) (hr:Rd w p xs) (hn:n≤112) (hp:place < 65536) (hf:first < 9223372036854775808) (hT:Halves w) :
    Calls Tryz.prog 160 #[.int .i64 place,.int .i64 first,.slice p n c] w fun e w'=>∃ v',e=.returned v'∧w'.ownsRow w.heap.size 5 1 v' 128 (B8s (lsec place first xs))∧Below w.heap.size w w':=by
  have HX:=Lib.hid hx
  have HR:=Lib.hid hr
  have HT:=Lib.hid hT
  have HF:=Lib.hid hf
  have HP:=Lib.hid hp
  have hwp:=wrapU (n:=place) (by omega)
  have hwf:=wrapU (n:=first) (by omega)
  clear hx hr hT hf hp
  go_enter Tryz.func160,Tryz.ntmps160
  go_wp2_with fail
  have HB0:=Lib.hid ((Below.refl w.heap.size w).alloc (Nat.le_refl _) (.cells #[.int .u8 76,.int .u8 n] 5))
  have k0:(w.alloc (.cells #[.int .u8 76,.int .u8 n] 5)).cell? ⟨w.heap.size,0,none⟩=some (.int .u8 76):=cellNew rfl
  have k1:(w.alloc (.cells #[.int .u8 76,.int .u8 n] 5)).cell? ⟨w.heap.size,1,none⟩=some (.int .u8 n):=cellNew rfl
  have HK:=Lib.hid (And.intro k0 k1)
  clear k0 k1
  refine (little_any place 2 _ (by have:=HP.out;omega) (by omega)).mono ?_
  rintro e w1 ⟨v2,rfl,ho2,hb1⟩
  obtain ⟨q2,c2,rfl,hr2,hx2,-,-⟩:=own_rd ho2
  have HR2:=Lib.hid hr2
  have HB1:=Lib.hid hb1
  clear ho2 hr2 hx2 hb1
  go_wp2_with fail
  refine (little_any first 8 _ (by have:=HF.out;omega) (by omega)).mono ?_
  rintro e w2 ⟨v8,rfl,ho8,hb2⟩
  obtain ⟨q8,c8,rfl,hr8,hx8,-,-⟩:=own_rd ho8
  have HR8:=Lib.hid hr8
  have HB2:=Lib.hid hb2
  clear ho8 hr8 hx8 hb2
  go_wp2_with fail
  have HB3:Hid (Below w.heap.size w (w2.alloc (.cells #[.slice (some ⟨w.heap.size,0,none⟩) 2 2,.slice q2 2 c2,.slice q8 8 c8,.slice p n c] 76))):=Lib.hid (by
    have h:=chainC (chainC HB0.out HB1.out) HB2.out
    exact h.alloc h.size _)
  refine (join_any 124 _ 4 4 [[0x4c,UInt8.ofNat xs.length],leB place 2,leB first 8,xs] _ rfl (by omega) (parts4 (w:=w) (W0:=w2) (p:=p) (q2:=q2) (q8:=q8) (n:=n) (c:=c) (c2:=c2) (c8:=c8) (cellNew rfl) (cellNew rfl) (cellNew rfl) (cellNew rfl) ?a0 ?a1 HX.out hn ?a2 ?a3 ?a4) (by simp [leB_length,HX.out];omega) (by omega) (by omega) (fun k hk=>?a5)).mono ?_
  case a0=>exact keepC (below_alloc (chainC HB1.out HB2.out) _) HK.out.1
  case a1=>exact keepC (below_alloc (chainC HB1.out HB2.out) _) HK.out.2
  case a2=>exact HR2.out.below (below_alloc HB2.out _)
  case a3=>exact HR8.out.below (below_alloc (Below.refl _ _) _)
  case a4=>exact HR.out.below HB3.out
  case a5 =>
    have:k=0 ∨ k=1 ∨ k=2 ∨ k=3:=by simp at hk;omega
    rcases this with rfl | rfl | rfl | rfl <;> simp [leB_length]
  rintro e w3 ⟨v3,rfl,ho3,hb3⟩
  have e4:[[0x4c,UInt8.ofNat xs.length],leB place 2,leB first 8,xs].flatten=lbody place first xs:=by simp [lbody]
  rw [e4] at ho3
  have HB4:=Lib.hid (chainC HB3.out hb3)
  have HT4:=Lib.hid (HT.out.below HB4.out)
  have HO3:=Lib.hid (own_mono ho3 HB3.out.size)
  obtain ⟨q3,c3,rfl,hr3,hx3,-,-⟩:=own_rd ho3
  have HR3:=Lib.hid hr3
  have HX3:=Lib.hid hx3
  clear ho3 hr3 hx3 hb3 e4
  go_wp2_with fail
  refine (sum_any q3 124 c3 _ _ HX3.out HR3.out (by unfold maxLen;omega) HT4.out).mono ?_
  rintro e w5 ⟨rfl,rfl⟩
  have hSl:=sumN_lt (padTo 124 (lbody place first xs))
  obtain ⟨S,hSe⟩:∃ S,sumN (padTo 124 (lbody place first xs))=S:=⟨_,rfl⟩
  rw [hSe] at hSl
  rw [hSe]
  have HSe:=Lib.hid hSe
  have hwS:=wrapU (n:=S) (by omega)
  have HSl:=Lib.hid hSl
  clear hSe hSl hwp hwf
  go_wp2_with fail
  refine (little_any S 4 _ (by have:=HSl.out;omega) (by omega)).mono ?_
  rintro e w6 ⟨v4,rfl,ho4,hb6⟩
  obtain ⟨q4,c4,rfl,hr4,hx4,-,-⟩:=own_rd ho4
  have HR4:=Lib.hid hr4
  have HX4:=Lib.hid hx4
  have HB6:=Lib.hid (chainC HB4.out hb6)
  have HO6:=Lib.hid (own_upd HO3.out (Upd.of_below' hb6 (fun _=>False)) (fun k hk=>hk.elim))
  clear ho4 hr4 hx4 hb6
  go_wp2_with (at_builtin;refine wp_appx (w0:=w) (base:=w.heap.size) (n:=124) (m:=4) rfl (.tmp 21) (.tmp 25) rfl _ (padTo 124 (lbody place first xs)) (leB S 4) q4 rfl rfl HX4.out HR4.out HO6.out HB6.out HB6.out.size (by omega) ?_)
  intro v7 w7 ho7 hb7
  have HO7:=Lib.hid ho7
  clear ho7
  go_wp2
  go_ret
  refine ⟨_,rfl,?_,hb7⟩
  unfold lsec
  rw [HSe.out]
  exact HO7.out
end Go.Proofs.YtheeomjfpnijbaaGreatDoor
end
section
namespace Go.Proofs.YtheeomjfpnijbaaGreatDoor
open Go.RowKit Go.Deep
theorem own_sl {w:World} {base n:Nat} {e:TypeId} {v:Value} {xs:List Value} {k:Nat} (h:w.ownsRow base e k v n xs):∃ q c,v=.slice q n c:=by
  rcases h.2 with ⟨rfl,h0⟩ | ⟨g,cap,cur,rfl,-⟩
  · exact ⟨none,0,by rw [h0]⟩
  · exact ⟨_,_,rfl⟩
theorem lnone_any {w:World} {B bl bd fro sectors first last forced durable:Nat} {sv:Value} {xs:List UInt8} (h:LogAt w B bl bd fro sectors first last forced durable sv xs) :
    Calls Tryz.prog 158 #[.pointer (some ⟨bl,0,none⟩)] w fun e w'=>e=.returned (.bool false)∧w'=w:=by
  obtain ⟨k0,-⟩:=h.load
  clear h
  go_enter Tryz.func158,Tryz.ntmps158
  go_wp2
  go_ret
  exact ⟨rfl,rfl⟩
set_option maxRecDepth 20000 in
theorem room_any {w:World} {B bl bd fro sectors first last forced durable:Nat} {sv:Value} {xs:List UInt8} (h:LogAt w B bl bd fro sectors first last forced durable sv xs) (hs:sectors≤4096) (hx:xs.length≤sectors * 112) :
    Calls Tryz.prog 134 #[.pointer (some ⟨bl,0,none⟩)] w fun e w'=>e=.returned (.int .i64 (sectors * 112 - xs.length:Nat))∧∃ j,w'=w.drewN j:=by
  obtain ⟨-,-,k2,-,-,-,k6,-⟩:=h.load
  obtain ⟨q,c,rfl⟩:=own_sl h.own
  have H:=Lib.hid h
  clear h
  obtain ⟨n,hn⟩:∃ n,n=xs.length:=⟨_,rfl⟩
  rw [← hn] at k6 hx ⊢
  obtain ⟨R,hR⟩:∃ R,R=sectors * 112 - n:=⟨_,rfl⟩
  have hw:IntKind.i64.wrap ((sectors:Int) * 112)=((sectors * 112:Nat):Int):=by rw [IntKind.wrap_i64];omega
  have HRR:Hid (((sectors:Int) * 112 - (n:Int))=(R:Int)):=Lib.hid (by omega)
  have hw2:IntKind.i64.wrap ((sectors:Int) * 112 - (n:Int))=(R:Int):=by rw [IntKind.wrap_i64];omega
  rw [← hR]
  have HN:=Lib.hid hn
  have HX:=Lib.hid hx
  have HS:=Lib.hid hs
  clear hn hR hx hs
  go_enter Tryz.func134,Tryz.ntmps134
  go_wp2_with fail
  refine (lnone_any H.out).mono ?_
  rintro e w1 ⟨rfl,rfl⟩
  go_wp2_with fail
  go_quiet (fail)
  go_wp2
  go_returns
  exact ⟨rfl,_,rfl⟩
def textV (rec:List UInt8):List UInt8:=varN rec.length++rec
theorem textV_length (rec:List UInt8):(textV rec).length=(varN rec.length).length+rec.length:=by simp [textV]
theorem varN_pos (n:Nat):0 < (varN n).length:=by rw [varN];split <;> simp
def AppendQ (w:World) (B bl bd fro sectors first last forced durable:Nat) (sv:Value) (xs rec:List UInt8) (e:Ending) (w':World):Prop :=
  (sectors * 112 < xs.length+(textV rec).length∧e=.returned (.tuple #[.int .i64 0,.int .i64 4])∧Below w.heap.size w w') ∨
  (xs.length+(textV rec).length≤sectors * 112∧∃ sv',e=.returned (.tuple #[.int .i64 (last+1:Nat),.int .i64 0])∧LogAt w' B bl bd fro sectors first (last+1) forced durable sv' (xs++textV rec) ∧
    (sv'.ownBlock=sv.ownBlock ∨ ∃ g,sv'.ownBlock=some g∧w.heap.size≤g∧g < w'.heap.size)∧Upd (fun k=>k=bl ∨ some k=sv.ownBlock) w w')
theorem append_end {w w3 w4:World} {B bl bd fro sectors first last forced durable:Nat} {sv sv':Value} {xs T:List UInt8} (h:LogAt w B bl bd fro sectors first last forced durable sv xs) (hb:Below w.heap.size w w3) (ho:w4.ownsRow B 5 1 sv' (xs.length+T.length) (B8s (xs++T))) (hg:w3.grownBy w4 sv.ownBlock) (hv:sv'.ownBlock=sv.ownBlock ∨ sv'.ownBlock=some w3.heap.size) (hbl:bl < w.heap.size) :
    LogAt ((w4.setCell ⟨bl,6,none⟩ sv').setCell ⟨bl,4,none⟩ (.int .i64 (last+1:Nat))) B bl bd fro sectors first (last+1) forced durable sv' (xs++T) ∧
    (sv'.ownBlock=sv.ownBlock ∨ ∃ g,sv'.ownBlock=some g∧w.heap.size≤g∧g < ((w4.setCell ⟨bl,6,none⟩ sv').setCell ⟨bl,4,none⟩ (.int .i64 (last+1:Nat))).heap.size)∧Upd (fun k=>k=bl ∨ some k=sv.ownBlock) w ((w4.setCell ⟨bl,6,none⟩ sv').setCell ⟨bl,4,none⟩ (.int .i64 (last+1:Nat))):=by
  have hne:some bl ≠ sv.ownBlock:=own_ne h.own h.cells (by decide)
  have h3:=(hb.block bl hbl).trans h.cells
  have h4:w4.heap[bl]?=_:=(hg.block bl (Array.getElem?_eq_some_iff.1 h3).1 (fun e=>hne e)).trans h3
  have ht4:Typed w4 bl 267:=⟨_,h4⟩
  have hb':Below w.heap.size w w3:=hb
  have hu:Upd (fun k=>k=bl ∨ some k=sv.ownBlock) w w4:=⟨hg.os.trans hb.os,hg.tape.trans hb.tape,hg.output.trans hb.output,Nat.le_trans hb.size hg.size,fun k hk hn=>(hg.block k (Nat.lt_of_lt_of_le hk hb.size) (fun e=>hn (.inr e))).trans (hb.block k hk)⟩
  have ho5:(w4.setCell ⟨bl,6,none⟩ sv').ownsRow B 5 1 sv' (xs.length+T.length) (B8s (xs++T)):=own_updB ho (Upd.setC w4 bl 6 _) (fun k hk _ ht=>by subst hk;exact absurd (ht.one ht4) (by decide))
  have h5:=heap_setCell_same w4 bl 6 _ _ sv' h4
  have ht5:Typed (w4.setCell ⟨bl,6,none⟩ sv') bl 267:=⟨_,h5⟩
  have h6:=heap_setCell_same (w4.setCell ⟨bl,6,none⟩ sv') bl 4 _ _ (.int .i64 (last+1:Nat)) h5
  refine ⟨⟨h6.trans rfl,by rw [List.length_append];exact own_updB ho5 (Upd.setC _ bl 4 _) (fun k hk _ ht=>by subst hk;exact absurd (ht.one ht5) (by decide))⟩,?_,(hu.trans' (Upd.setC w4 bl 6 sv') (fun j _ hj=>.inl hj)).trans' (Upd.setC _ bl 4 _) (fun j _ hj=>.inl hj)⟩
  rcases hv with e | e
  · exact .inl e
  · refine .inr ⟨_,e,hb.size,?_⟩
    rcases ho.2 with ⟨rfl,-⟩ | ⟨g,cap,cur,rfl,-,hgg,-⟩
    · cases e
    · have:g=w3.heap.size:=by cases e;rfl
      subst this
      simpa using (Array.getElem?_eq_some_iff.1 hgg).1
set_option maxRecDepth 20000 in
set_option maxHeartbeats 1000000 in
theorem append_any (w:World) (B bl bd fro sectors first last forced durable:Nat) (sv:Value) (xs rec:List UInt8) (p:Option Addr) (n c:Nat) (h:LogAt w B bl bd fro sectors first last forced durable sv xs) (hs:sectors≤4096) (hx:xs.length≤sectors * 112) (hB:B≤w.heap.size) (hl:last < 4611686018427387904) (hrec:rec.length=n) (h0:0 < n) (h1:n≤2000) (hr:Rd w p rec) :
    Calls Tryz.prog 197 #[.pointer (some ⟨bl,0,none⟩),.slice p n c] w (AppendQ w B bl bd fro sectors first last forced durable sv xs rec):=by
  have H:=Lib.hid h
  have HS:=Lib.hid hs
  have HX:=Lib.hid hx
  have HB:=Lib.hid hB
  have HL:=Lib.hid hl
  have HREC:=Lib.hid hrec
  have HR:=Lib.hid hr
  have hcv:=fun W (hr:Rd W p rec)=>hr.convert hrec c _ _ _ Tryz.underlying76 Tryz.underlying5 Tryz.underlying9
  have hc0:=hcv w hr
  have hd0:((n:Int) == 0)=false:=by rw [beq_eq_false_iff_ne];omega
  have hd1:decide ((n:Int) > 2000)=false:=decide_eq_false (by omega)
  obtain ⟨t,ht⟩:∃ t:ByteArray,t=⟨rec.toArray⟩:=⟨_,rfl⟩
  rw [← ht] at hc0
  have hts:t.size=n:=by rw [ht];exact (by simpa using hrec:rec.toArray.size=n)
  have htb:strB t=rec:=by rw [ht];simp [strB]
  have HTS:=Lib.hid hts
  have HTB:=Lib.hid htb
  have H1:=Lib.hid h1
  clear h hs hx hB hl hrec hr hcv ht hts htb h1 h0
  go_enter Tryz.func197,Tryz.ntmps197
  go_wp2_with fail
  refine (lnone_any H.out).mono ?_
  rintro e w1 ⟨rfl,rfl⟩
  go_wp2_with fail
  refine (text_any none 0 0 [] t w1 rfl (by have:=HTS.out;have:=H1.out;omega) (Rd.nil _ _)).mono ?_
  rintro e w2 ⟨v2,rfl,ho2,hb2⟩
  obtain ⟨T,hT⟩:∃ T,T=textV rec:=⟨_,rfl⟩
  have hTe:[]++varN t.size++strB t=T:=by rw [hT,HTS.out,HTB.out,textV,HREC.out,List.nil_append]
  rw [hTe] at ho2
  obtain ⟨m,hm⟩:∃ m,m=T.length:=⟨_,rfl⟩
  rw [← hm] at ho2
  obtain ⟨q2,c2,rfl,hr2,hx2,-,-⟩:=own_rd ho2
  have HT:=Lib.hid hT
  have HM:=Lib.hid hm
  have HR2:=Lib.hid hr2
  have HB2:=Lib.hid hb2
  have HM0:Hid (0 < m∧m≤3000):=Lib.hid (by
    have:=varN_pos rec.length
    have h9:=varN_le9 (n:=rec.length) (by rw [HREC.out];have:=H1.out;omega)
    have:=H1.out
    rw [hm,hT,textV_length,HREC.out] at *
    omega)
  have HL2:=Lib.hid (H.out.below hb2)
  clear hTe hT hm ho2 hr2 hx2 hb2 hc0
  go_wp2_with fail
  refine (room_any HL2.out HS.out HX.out).mono ?_
  rintro e w3 ⟨rfl,j,rfl⟩
  obtain ⟨R,hR⟩:∃ R,R=sectors * 112 - xs.length:=⟨_,rfl⟩
  rw [← hR]
  have HRR:=Lib.hid hR
  clear hR
  have HB3:Hid (Below w1.heap.size w1 (w2.drewN j)):=Lib.hid (drewN_below HB2.out j)
  have HL3:=Lib.hid (H.out.below HB3.out)
  have HR3:=Lib.hid (HR2.out.drewN j)
  by_cases hfit:m≤R
  · have hd:decide ((m:Int) > (R:Int))=false:=decide_eq_false (by omega)
    have hd':decide (R < m)=false:=decide_eq_false (by omega)
    have k4:=HL3.out.load.2.2.2.2.1
    have hdl:decide ((last:Int) ≥ 4611686018427387904)=false:=decide_eq_false (by have:=HL.out;omega)
    have hdl':decide (4611686018427387904≤last)=false:=decide_eq_false (by have:=HL.out;omega)
    have HFIT:=Lib.hid hfit
    clear hfit
    have k6:=HL3.out.load.2.2.2.2.2.2.1
    obtain ⟨q,c6,hsv⟩:=own_sl HL3.out.own
    have HSV:=Lib.hid hsv
    have hlw:bl < w1.heap.size:=cell_lt (H.out.load.1)
    have hlw':bl < w2.heap.size:=Nat.lt_of_lt_of_le hlw HB2.out.size
    rw [hsv] at k6
    go_wp2_with (at_builtin;refine wp_appg (W:=w2.drewN j) (base:=B) (n:=xs.length) (m:=m) rfl (.tmp 37) (.tmp 38) rfl (.slice q xs.length c6) xs T q2 rfl rfl HM.out.symm HR3.out HM0.out.1 (by rw [← HSV.out];exact HL3.out.own) (by have:=HB.out;have:=HB2.out.size;simp;omega) (by have:=HM0.out;have:=HX.out;have:=HS.out;omega) ?_)
    intro v4 w4 ho4 hg4 hv4
    rw [← HSV.out] at hg4 hv4
    rw [HM.out] at ho4
    obtain ⟨q4,c4,rfl⟩:=own_sl ho4
    obtain ⟨l4,hl4⟩:∃ l4,l4=xs.length+T.length:=⟨_,rfl⟩
    obtain ⟨C,hC⟩:∃ C,C=last+1:=⟨_,rfl⟩
    have hend:=append_end H.out HB3.out ho4 hg4 hv4 hlw
    rw [← hC,← hl4] at hend
    rw [← hl4] at hv4
    have h4:w4.heap[bl]?=_:=(hg4.block bl hlw' (fun e=>own_ne HL3.out.own HL3.out.cells (by decide) e)).trans HL3.out.cells
    have k44:(w4.setCell ⟨bl,6,none⟩ (.slice q4 l4 c4)).cell? ⟨bl,4,none⟩=some (.int .i64 last):=by
      simp [World.cell?,heap_setCell_same w4 bl 6 _ _ (.slice q4 l4 c4) h4]
    have f46:w4.frozen? ⟨bl,6,none⟩=false:=frozenC h4
    have f44:(w4.setCell ⟨bl,6,none⟩ (.slice q4 l4 c4)).frozen? ⟨bl,4,none⟩=false:=frozenC (heap_setCell_same w4 bl 6 _ _ (.slice q4 l4 c4) h4)
    have k45:((w4.setCell ⟨bl,6,none⟩ (.slice q4 l4 c4)).setCell ⟨bl,4,none⟩ (.int .i64 C)).cell? ⟨bl,4,none⟩=some (.int .i64 C):=World.cell?_setCell_same _ _ _ k44
    have k40:w4.cell? ⟨bl,6,none⟩=some sv:=by simp [World.cell?,h4]
    have hw:wrap64 ((last:Int)+1)=(C:Int):=by have:=HL.out;rw [wrap64];omega
    have hw':IntKind.i64.wrap ((last:Int)+1)=(C:Int):=by have:=HL.out;rw [IntKind.wrap_i64];omega
    have HEND:=Lib.hid hend
    have hm4:l4=xs.length+m:=by rw [hl4,HM.out]
    have HC:=Lib.hid hC
    clear hend h4 ho4 hg4 hv4 hsv k6 k4 hC hd hd' hdl hdl' hd0 hd1
    rw [← hl4]
    clear hl4 hm4
    go_wp2
    go_returns
    unfold AppendQ
    have he:=HEND.out
    rw [HT.out] at he
    refine .inr ⟨?_,_,by rw [HC.out];rfl,by rw [← HC.out];exact he.1,he.2.1,he.2.2⟩
    have:=HFIT.out
    have:=HRR.out
    have:=HX.out
    have h9:=HM.out
    rw [HT.out] at h9
    omega
  · have hd:decide ((m:Int) > (R:Int))=true:=decide_eq_true (by omega)
    have hd':decide (R < m)=true:=decide_eq_true (by omega)
    have HFIT:=Lib.hid hfit
    clear hfit
    go_wp2_with fail
    go_returns
    unfold AppendQ
    refine .inl ⟨?_,rfl,HB3.out⟩
    have:=HFIT.out
    have:=HRR.out
    have:=HX.out
    have h9:=HM.out
    rw [HT.out] at h9
    omega
end Go.Proofs.YtheeomjfpnijbaaGreatDoor
end
section
namespace Go.Proofs.YtheeomjfpnijbaaGreatDoor
open Go.RowKit Go.Shelf
def FL (N:Zone) (w:World) (k:Nat):Prop:=N.B≤k∧(Typed w k 90 ∨ RowT N w k ∨ Typed w k 159 ∨ Typed w k 267)
theorem fl_same {N:Zone} (w w':World) (k:Nat) (h:w'.heap[k]?=w.heap[k]?) (ht:FL N w' k):FL N w k:=by
  obtain ⟨hb,ht⟩:=ht
  refine ⟨hb,?_⟩
  rcases ht with ht | ht | ht | ht
  · exact .inl (typed_same w w' k h ht)
  · exact .inr (.inl (rowt_same w w' k h ht))
  · exact .inr (.inr (.inl (typed_same w w' k h ht)))
  · exact .inr (.inr (.inr (typed_same w w' k h ht)))
theorem FL.trans {N:Zone} {a b c:World} (h:Upd (FL N a) a b) (k:Upd (FL N b) b c):Upd (FL N a) a c:=Upd.same (R:=FL N) fl_same h k
theorem FL.of_ds {N:Zone} {w w':World} (hu:Upd (DS N w) w w'):Upd (FL N w) w w':=hu.mono fun k _ hk=>by
  obtain ⟨hb,h | h | h⟩:=hk
  · exact ⟨hb,.inl h⟩
  · exact ⟨hb,.inr (.inl h)⟩
  · exact ⟨hb,.inr (.inr (.inl h))⟩
theorem FL.of_below {N:Zone} {w w':World} (h:Below w.heap.size w w'):Upd (FL N w) w w':=Upd.of_below' h _
theorem St.more {w:World} {N:Zone} {bd bl n c c':Nat} {D:Nat→List UInt8} {L:LogV} (h:St w N bd bl n c D L) (hc:c≤c'):St w N bd bl n c' D L:=by
  obtain ⟨⟨S,P,a,b,c,d⟩,r⟩:=h
  exact { disk:=⟨S,P,a,b,by omega,d⟩,log:=by assumption,lown:=by assumption,llow:=by assumption,lok:=by assumption,no:=by assumption,halves:=by assumption,hlow:=by assumption,base:=by assumption }
def chunk (xs:List UInt8) (i:Nat):List UInt8:=(xs.drop (i * 112)).take 112
theorem chunk_length (xs:List UInt8) (i:Nat):(chunk xs i).length=min 112 (xs.length - i * 112):=by simp [chunk]
def forceD (L:LogV) (D:Nat→List UInt8) (j:Nat):Nat→List UInt8:=fun i=>if L.fro+L.durable / 112≤i∧i < L.fro+j∧(i - L.fro) * 112 < L.xs.length then lsec (i - L.fro) L.first (chunk L.xs (i - L.fro)) else D i
def forceF (L:LogV) (D:Nat→List UInt8):Nat→List UInt8:=fun i=>if L.fro+L.durable / 112≤i∧(i - L.fro) * 112 < L.xs.length then lsec (i - L.fro) L.first (chunk L.xs (i - L.fro)) else D i
theorem forceD_start (L:LogV) (D:Nat→List UInt8):forceD L D (L.durable / 112)=D:=by
  funext i
  unfold forceD
  rw [if_neg (by omega)]
theorem forceD_next {L:LogV} {D:Nat→List UInt8} {j:Nat} (h0:L.durable / 112≤j) (h1:j * 112 < L.xs.length):updD (forceD L D j) (L.fro+j) (lsec j L.first (chunk L.xs j))=forceD L D (j+1):=by
  funext i
  unfold updD forceD
  by_cases h:i=L.fro+j
  · subst h
    have e:L.fro+j - L.fro=j:=by omega
    rw [if_pos rfl,if_pos ⟨by omega,by omega,by rw [e];exact h1⟩,e]
  · rw [if_neg h]
    by_cases h2:L.fro+L.durable / 112≤i∧i < L.fro+j∧(i - L.fro) * 112 < L.xs.length
    · rw [if_pos h2,if_pos ⟨h2.1,by omega,h2.2.2⟩]
    · rw [if_neg h2,if_neg (fun h3=>h2 ⟨h3.1,by omega,h3.2.2⟩)]
theorem forceD_end {L:LogV} {D:Nat→List UInt8} {j:Nat} (h1:¬ j * 112 < L.xs.length):forceD L D j=forceF L D:=by
  funext i
  unfold forceD forceF
  by_cases h2:L.fro+L.durable / 112≤i∧(i - L.fro) * 112 < L.xs.length
  · rw [if_pos h2,if_pos ⟨h2.1,by omega,h2.2⟩]
  · rw [if_neg h2,if_neg (fun h3=>h2 ⟨h3.1,h3.2.2⟩)]
theorem Upd.drewBelow' {w w':World} {T:Nat→Prop} (h:Upd T w w'):Upd T w w'.drew:=⟨h.os,h.tape,h.output,h.size,h.block⟩
theorem FL.of_log {N:Zone} {w w':World} {bl:Nat} (hb:N.B≤bl) (ht:Typed w bl 267) (hu:Upd (fun k=>k=bl) w w'):Upd (FL N w) w w':=hu.mono fun k _ hk=>by subst hk;exact ⟨hb,.inr (.inr (.inr ht))⟩
theorem St.relog {w w':World} {N:Zone} {bd bl n c:Nat} {D:Nat→List UInt8} {L L':LogV} (h:St w N bd bl n c D L) (hu:Upd (fun k=>k=bl) w w') (hl:LogAt w' N.B bl bd L'.fro L'.sectors L'.first L'.last L'.forced L'.durable L'.sv L'.xs) (ho:∀ g,L'.sv.ownBlock=some g→N g) (hk:LogOk L' n):St w' N bd bl n c D L' where
  disk:=h.disk.upd hu (fun k hk=>by subst hk;intro hd;rcases hd with ⟨-,hd | hd | hd⟩ <;> exact absurd (hd.one h.log.typed) (by decide)) (fun k hk ht=>by subst hk;exact absurd (ht.one h.log.typed) (by decide))
  log:=hl
  lown:=ho
  llow:=h.llow
  lok:=hk
  no:=fun k hk=>Nat.lt_of_lt_of_le (h.no k hk) hu.size
  halves:=h.halves.upd hu (fun ht=>by have:=h.hlow;have:=h.llow;omega)
  hlow:=h.hlow
  base:=Nat.le_trans h.base hu.size
theorem force_end {w w':World} {N:Zone} {bd bl n c:Nat} {D D' D'':Nat→List UInt8} {L:LogV} (h:St w N bd bl n c D' L) (hD:D'=D) (hl:LogAt w' N.B bl bd L.fro L.sectors L.first L.last L.last L.xs.length L.sv L.xs) (hu:Upd (fun k=>k=bl) w w') (e:D''=D):St w' N bd bl n c D'' { L with forced:=L.last,durable:=L.xs.length }:=by
  subst hD
  subst e
  exact h.relog hu hl h.lown ⟨h.lok.inn,h.lok.long,Nat.le_refl _,h.lok.last,h.lok.first,Nat.le_refl _⟩
theorem own_rdv {w:World} {base n c:Nat} {q:Option Addr} {xs:List UInt8} (h:w.ownsRow base 5 1 (.slice q n c) n (B8s xs)):Rd w q xs:=by
  obtain ⟨p',c',e',hr',-⟩:=own_rd h
  cases e'
  exact hr'
set_option maxRecDepth 20000 in
set_option maxHeartbeats 2000000 in
theorem force_any {N:Zone} (bd bl n c:Nat) (D:Nat→List UInt8) (L:LogV) (w:World) (h:St w N bd bl n c D L) (hc:c < 100000000) (hne:L.forced ≠ L.last) :
    Calls Tryz.prog 152 #[.pointer (some ⟨bl,0,none⟩)] w fun e w'=>e=.returned (.int .i64 0)∧St w' N bd bl n 0 (forceF L D) { L with forced:=L.last,durable:=L.xs.length }∧Upd (FL N w) w w':=by
  obtain ⟨S,P,hd,hn,-,-⟩:=h.disk
  have hsm:=hd.small
  rw [hn] at hsm
  have hlong:=h.lok.long
  have hdur:=h.lok.dur
  have hinn:=h.lok.inn
  have hlast:=h.lok.last
  have hfir:=h.lok.first.2
  obtain ⟨q,cq,hsv⟩:=own_sl h.log.own
  obtain ⟨fro,hfro⟩:∃ x,x=L.fro:=⟨_,rfl⟩
  obtain ⟨sectors,hsec⟩:∃ x,x=L.sectors:=⟨_,rfl⟩
  obtain ⟨first,hfirst⟩:∃ x,x=L.first:=⟨_,rfl⟩
  obtain ⟨last,hla⟩:∃ x,x=L.last:=⟨_,rfl⟩
  obtain ⟨forced,hfo⟩:∃ x,x=L.forced:=⟨_,rfl⟩
  obtain ⟨durable,hdu⟩:∃ x,x=L.durable:=⟨_,rfl⟩
  obtain ⟨len,hlen⟩:∃ x,x=L.xs.length:=⟨_,rfl⟩
  rw [← hsec,← hlen] at hlong
  rw [← hdu,← hlen] at hdur
  rw [← hfro,← hsec] at hinn
  rw [← hla] at hlast
  rw [← hfirst] at hfir
  rw [← hfo,← hla] at hne
  rw [← hlen] at hsv
  have K:=fun (W:World) (c':Nat) (D':Nat→List UInt8) (hW:St W N bd bl n c' D' L)=>(show LogAt W N.B bl bd fro sectors first last forced durable (.slice q len cq) L.xs from by rw [hfro,hsec,hfirst,hla,hfo,hdu,← hsv];exact hW.log).load
  have HK:=Lib.hid K
  have hne':((forced:Int) == (last:Int))=false:=by rw [beq_eq_false_iff_ne];omega
  obtain ⟨d0,hd0⟩:∃ d0,d0=durable / 112:=⟨_,rfl⟩
  have hq:(durable:Int) / 112=(d0:Int):=by omega
  have hq':(durable:Int).tdiv 112=(d0:Int):=by rw [Int.tdiv_eq_ediv_of_nonneg (by omega)];exact hq
  have hd0l:d0 * 112≤len:=by omega
  have H:=Lib.hid h
  have HF:=Lib.hid (And.intro hfro (And.intro hsec (And.intro hfirst (And.intro hla (And.intro hfo (And.intro hdu hlen))))))
  have HSV:=Lib.hid hsv
  have HC:=Lib.hid hc
  have HD0:=Lib.hid hd0
  have HN:=Lib.hid hn
  obtain ⟨k0,k1,k2,k3,k4,k5,k6,k7⟩:=K w c D h
  have hls:=h.log
  rw [← hfro,← hsec,← hfirst,← hla,← hfo,← hdu,hsv] at hls
  have HLS:=Lib.hid hls
  clear h hd hn hsv hfro hsec hfirst hla hfo hdu hlen hc hd0 K hls hne
  go_enter Tryz.func152,Tryz.ntmps152
  go_wp2_with fail
  refine (lnone_any HLS.out).mono ?_
  rintro e w1 ⟨rfl,rfl⟩
  go_wp2_with fail
  go_quiet (fail)
  have HW:=Lib.hid (below_drewN' (B:=w1.heap.size) w1 nq)
  go_wp2_with fail
  have HLEN:=Lib.hid (And.intro hlong (And.intro hinn hsm))
  have hlb:len≤458752:=by omega
  have hjb:∀ j:Nat,j=d0 ∨ (j - 1) * 112 < len→j≤5000:=fun j h=>by omega
  have HJB:=Lib.hid hjb
  clear hlong hinn hjb hdur hd0l hq hq' hne' k0 k1 k2 k3 k4 k5 k6 k7
  go_loopw [3] (fun i wr=>∃ j:Nat,i=.int .i64 j∧Hid (d0≤j∧(j=d0 ∨ (j - 1) * 112 < len))∧Hid (St wr N bd bl n (c+(j - d0)) (forceD L D j) L)∧Hid (Upd (FL N w1) w1 wr)) (fun i _=>len - (intOf i).toNat * 112)
  case atStart=>exact ⟨d0,rfl,Lib.hid ⟨Nat.le_refl _,.inl rfl⟩,Lib.hid (by rw [HD0.out,HF.out.2.2.2.2.2.1,Nat.sub_self,forceD_start];exact H.out.below HW.out),Lib.hid (FL.of_below HW.out)⟩
  case round =>
    obtain ⟨j,rfl,HJ,HS,HU⟩:=hrel
    have hj5:j≤5000:=HJB.out j HJ.out.2
    obtain ⟨k0,k1,k2,k3,k4,k5,k6,k7⟩:=HK.out wr _ _ HS.out
    by_cases hlt:j * 112 < len
    · have hd:decide ((j:Int) * 112 < (len:Int))=true:=decide_eq_true (by omega)
      go_wp2_with fail
      obtain ⟨g,rfl,hcq⟩:∃ g,q=some ⟨g,0,none⟩∧len≤cq:=by
        have ho:=(HS.out.log).own
        rw [HSV.out,← HF.out.2.2.2.2.2.2] at ho
        rcases ho.2 with ⟨e,-⟩ | ⟨g,cap,cur,e,-,-,h1,-⟩
        · cases e;omega
        · cases e;exact ⟨g,rfl,h1⟩
      obtain ⟨K,hK⟩:∃ K:Nat,K=j * 112:=⟨_,rfl⟩
      obtain ⟨m,hm⟩:∃ m:Nat,m=min len ((j+1) * 112):=⟨_,rfl⟩
      have hjK:(j:Int) * 112=(K:Int):=by omega
      have hmin:(if ((j:Int)+1) * 112 < (len:Int) then ((j:Int)+1) * 112 else (len:Int))=(m:Int):=by split <;> omega
      have hKm:K≤m:=by omega
      have hmc:m≤cq:=by omega
      have hcK:(cq=K)=False:=eq_false (by omega)
      have HR:Hid (Rd wr (some ⟨g,K,none⟩) (chunk L.xs j)):=Lib.hid (by
        have ho:=(HS.out.log).own
        obtain ⟨p',c',e',hr',-⟩:=own_rd ho
        rw [HSV.out] at e'
        cases e'
        have:=hr'.sub K 112
        rw [Nat.zero_add,hK] at this
        rw [hK]
        exact this)
      have HCL:Hid ((chunk L.xs j).length=m - K∧m - K≤112):=Lib.hid (by rw [chunk_length,← HF.out.2.2.2.2.2.2];omega)
      have HKj:=Lib.hid hK
      have HLT:=Lib.hid hlt
      clear hK hm hlt hd
      go_region
      all_goals go_wp2_with fail
      have HS8:=Lib.hid (HS.out.below (Below.refl _ wr).drew)
      have HU8:=Lib.hid (FL.trans HU.out (FL.of_below (Below.refl _ wr).drew))
      have HR8:=Lib.hid (show Rd wr.drew (some ⟨g,K,none⟩) (chunk L.xs j) from HR.out)
      clear k0 k1 k2 k3 k4 k5 k6 k7 HS HU HR
      generalize wr.drew=W8 at *
      obtain ⟨k0,k1,-,k3,-⟩:=HK.out W8 _ _ HS8.out
      have HS9:=Lib.hid (HS8.out.below (Below.refl _ W8).drew)
      have HR9:=Lib.hid (show Rd W8.drew (some ⟨g,K,none⟩) (chunk L.xs j) from HR8.out)
      obtain ⟨k0',k1',-,k3',-⟩:=HK.out W8.drew _ _ HS9.out
      obtain ⟨J,hJ⟩:∃ J,J=fro+j:=⟨_,rfl⟩
      have HIN:Hid (J < n):=Lib.hid (by have:=HLEN.out;have:=HLT.out;omega)
      have hwJ:IntKind.i64.wrap ((fro:Int)+(j:Int))=(J:Int):=by have:=HIN.out;rw [IntKind.wrap_i64];omega
      have HJJ:=Lib.hid hJ
      have HFI:=Lib.hid hfir
      have HJ5:=Lib.hid hj5
      clear hJ hmin hjK hmc hcK hcq hKm hj5 hlb
      go_region_law (first
        | (go_simp;go_at_call 160;refine (sector_any j first (some ⟨g,K,none⟩) (m - K) (cq - K) (chunk L.xs j) _ HCL.out.1 HR9.out HCL.out.2 (by have:=HJ5.out;omega) (by have:=HFI.out;omega) HS9.out.halves).mono ?_;rintro e w2 ⟨v2,rfl,ho2,hb2⟩;obtain ⟨q2,d2,rfl,hd2⟩:=own_slice ho2;have q0:=keepC hb2 k0';have q1:=keepC hb2 k1';have HO2:=Lib.hid ho2;have HB2:=Lib.hid hb2;have HS10:=Lib.hid (HS9.out.below hb2);clear ho2 hb2 hd2)
        | (go_simp;go_at_call 159;refine (disIs_write bd n (c+(j - d0)) J (forceD L D j) q2 d2 (lsec j first (chunk L.xs j)) _ HS10.out.disk HS10.out.no HIN.out (lsec_length (by have:=HCL.out;omega)) (own_rdv HO2.out) (by have:=HC.out;have:=HJ5.out;omega)).mono ?_;rintro e w3 ⟨rfl,hd3,hu3⟩;have HD3:=Lib.hid hd3;have HU3:=Lib.hid hu3;clear hd3 hu3))
      all_goals
        have HS11:=Lib.hid (HS10.out.disked HU3.out HD3.out)
        have HU11:=Lib.hid (FL.trans HU8.out (FL.trans (FL.of_below (Below.refl _ W8).drew) (FL.trans (FL.of_below HB2.out) (FL.of_ds HU3.out))))
        have hj5:=HJ5.out
        clear k0 k1 k3 k0' k1' k3' q0 q1 HO2 HB2 HS10 HD3 HU3 HS9 HR9 HU8 HS8 HR8 hwJ
      all_goals go_wp2
      all_goals go_roundw
      all_goals first
        | exact ⟨j+1,by go_num,Lib.hid ⟨by have:=HJ.out;omega,.inr (by have:=HLT.out;omega)⟩,Lib.hid (by
            have e1:c+(j+1 - d0)=c+(j - d0)+1:=by have:=HJ.out;omega
            rw [e1,← forceD_next (by rw [← HF.out.2.2.2.2.2.1,← HD0.out];exact HJ.out.1) (by rw [← HF.out.2.2.2.2.2.2];exact HLT.out),← HF.out.1,← HF.out.2.2.1,← HJJ.out]
            exact HS11.out),HU11⟩
        | (have:=HLT.out;simp [intOf];omega)
    · have hd:decide ((j:Int) * 112 < (len:Int))=false:=decide_eq_false (by omega)
      go_wp2_with fail
      refine (disIs_flush bd n _ _ _ HS.out.disk HS.out.no (by have:=HC.out;omega)).mono ?_
      rintro e w3 ⟨rfl,hd3,hu3⟩
      have HS3:=Lib.hid (HS.out.disked hu3 hd3)
      have HU3:=Lib.hid (FL.trans HU.out (FL.of_ds hu3))
      have HLT:=Lib.hid hlt
      clear hd3 hu3 hd hlt k0 k1 k2 k3 k4 k5 k6 k7
      obtain ⟨-,-,-,-,k4,k5,k6,k7⟩:=HK.out w3 _ _ HS3.out
      have f5:w3.frozen? ⟨bl,5,none⟩=false:=frozenC HS3.out.log.cells
      have f7:w3.frozen? ⟨bl,7,none⟩=false:=frozenC HS3.out.log.cells
      have hblt:=cell_lt k4
      go_wp2_with fail
      go_region
      all_goals go_wp2_with fail
      all_goals go_returns
      all_goals
        refine ⟨rfl,force_end HS3.out (forceD_end (by rw [← HF.out.2.2.2.2.2.2];exact HLT.out)) ?_ ?_ rfl,FL.trans HU3.out (FL.of_log HS3.out.llow HS3.out.log.typed ?_)⟩
      all_goals first
        | (have hl:=HS3.out.log;rw [HF.out.2.2.2.1,HF.out.2.2.2.2.2.2];first | exact ((hl.set7 L.xs.length).set5 L.last).below (Below.refl _ _).drew | exact ((hl.set5 L.last).set7 L.xs.length).below (Below.refl _ _).drew)
        | exact Upd.drewBelow' ((Upd.setC w3 bl _ _).trans' (Upd.setC _ bl _ _) (fun j _ hj=>hj))
end Go.Proofs.YtheeomjfpnijbaaGreatDoor
end
