/- Lemmas: With. -/
import Derived.Test.YtheeomjfpnijbaaGreatDoorBaseP
import Derived.Test.YtheeomjfpnijbaaGreatDoorZMg
set_option linter.unusedVariables false
namespace Go.Proofs.YtheeomjfpnijbaaGreatDoor
open Go.RowKit
def wok (n:Nat) (off:Int) (m:Nat):Prop:=n=112∧0≤off∧m≤112∧off≤112 - (m:Int)
instance (n:Nat) (off:Int) (m:Nat):Decidable (wok n off m):=by unfold wok;infer_instance
set_option maxHeartbeats 400000 in
theorem with_ok (p q:Option Addr) (n c m d:Nat) (off:Int) (xs ys:List UInt8) (w:World) (hx:xs.length=n) (hy:ys.length=m) (hr:Rd w p xs) (hs:Rd w q ys) (h:wok n off m) :
    Calls Tryz.prog 198 #[.slice p n c,.int .i64 off,.slice q m d] w fun e w' =>
      ∃ v',e=.returned (.tuple #[v',.int .i64 0])∧w'.ownsRow w.heap.size 5 1 v' 112 (B8s (xs.take off.toNat++ys++xs.drop (off.toNat+ys.length)))∧Below w.heap.size w w':=by
  obtain ⟨hn,h1,h2,h3⟩:=h
  obtain ⟨k,rfl⟩:=Int.eq_ofNat_of_zero_le h1
  subst hn
  have hbad1:¬ (112:Int) < (m:Int):=by omega
  have hbad2:¬ (112:Int) - (m:Int) < (k:Int):=by omega
  have HR:=Lib.hid hr
  have HX:=Lib.hid hx
  clear hr hx
  go_enter Tryz.func198,Tryz.ntmps198
  go_wp2_with fail
  refine (clone_any p 112 c xs _ HX.out (by omega) HR.out).mono ?_
  rintro e w1 ⟨v',rfl,hown,hb⟩
  obtain ⟨g,cap,cur,rfl,hg,hh,_,hc,hm⟩:=own8 hown (by omega)
  have HY:=Lib.hid hy
  have HH:=Lib.hid hh
  have HO:=Lib.hid hown
  have HC:=Lib.hid hc
  clear hy hh hown hc
  have hs1:Rd w1 q ys:=hs.below hb
  clear hs
  go_wp2_with (with_reducible (refine wpList_copy_splice rfl (.tmp 32) (.tmp 33) 76 76 rfl 5 Tryz.underlying76 sz8 _ _ _ _ _ _ rfl rfl g k (B8s xs++cur) 5 HH.out (B8s ys) ?n1 ?n2 ?n3 B8s_one w.heap.size w hb hg ?_))
  case n1=>rw [B8s_length,HY.out];show m=min m (112 - k);omega
  case n2.inl =>
    intro hp
    rw [B8s_length,HY.out] at hp
    have:=HC.out
    omega
  case n2.inr=>intro hp;rw [B8s_length] at hp;exact hs1.news hp
  case n3=>rw [List.length_append,B8s_length,B8s_length,HY.out,HX.out];omega
  all_goals
    intro w2 hh2 hb2
    go_wp2
    go_ret2
    refine ⟨_,rfl,?_,hb2⟩
    have e1:splice (B8s xs++cur) k (B8s ys)=B8s (xs.take k++ys++xs.drop (k+ys.length))++cur:=by
      have:=HX.out
      have:=HY.out
      unfold splice B8s
      rw [List.take_append_of_le_length (by simp;omega),List.drop_append_of_le_length (by simp;omega)]
      simp [List.map_drop,List.map_take]
    refine own8_mk hg (by rw [hh2.out,e1];rfl) ?_ ?_ (by omega)
    · have:=HX.out
      have:=HY.out
      simp;omega
    · have:=HC.out
      omega
end Go.Proofs.YtheeomjfpnijbaaGreatDoor
namespace Go.Proofs.YtheeomjfpnijbaaGreatDoor
open Go.RowKit Go.Shelf
def wth (xs:List UInt8) (off:Nat) (ys:List UInt8):List UInt8:=xs.take off++ys++xs.drop (off+ys.length)
theorem bytes_rd (w:World) (s:ByteArray):Rd (Lib.bytesWorld w 5 s) (some ⟨w.heap.size,0,none⟩) (s.data.toList):=fun hne=>⟨_,0,rfl,fun i v hv=>by
  obtain ⟨x,hx,rfl⟩:∃ x,s.data.toList[i]?=some x∧B8 x=v:=by simpa [B8s] using hv
  have hi:i < s.size:=by
    have:=(List.getElem?_eq_some_iff.1 hx).1
    simpa using this
  rw [Nat.zero_add,Lib.bytesWorld_cell w 5 s i hi]
  rw [List.getD_eq_getElem?_getD,hx]
  rfl⟩
theorem bytes_below (w:World) (s:ByteArray):Below w.heap.size w (Lib.bytesWorld w 5 s):=by
  refine ⟨rfl,rfl,rfl,by rw [Lib.bytesWorld_size];omega,fun j hj=>Lib.bytesWorld_at_old w _ s j hj⟩
set_option maxRecDepth 20000 in
set_option maxHeartbeats 2000000 in
theorem apply_any (k:Int) (p:Par) (s:ASt) (n off l:Nat) (b:ByteArray) (w:World) (h:MR k p w s) (ht:s.t≤900000) (hn:n < p.pages) (ho:off+b.size≤112) (hl:1≤l∧l≤4611686018427387904) :
    Calls Tryz.prog 139 #[.pointer (some ⟨p.bg,0,none⟩),.int .i64 n,.int .i64 off,.string b,.int .i64 l] w fun e w'=>e=.returned (.int .i64 0)∧∃ s',MR k p w' s'∧Put1 s s' n l (wth (s.C n).2 off (strB b)) 2∧Step p s.N w s'.N w':=by
  have H:=Lib.hid h
  have HT:=Lib.hid ht
  have HN:=Lib.hid hn
  have HO:=Lib.hid ho
  have HL:=Lib.hid hl
  obtain ⟨-,k2,-,-,-,-,-,hlt⟩:=h.load
  have hcv:=fun W=>Lib.run_convert_string_bytes (P:=Tryz.prog) W 9 76 5 b Tryz.underlying9 Tryz.underlying76 Tryz.underlying5
  clear h ht hn ho hl
  go_enter Tryz.func139,Tryz.ntmps139
  go_wp2_with fail
  refine (get_any _ (n:Int) H.out.run (by omega) (by have:=HN.out;omega) (by have:=H.out.cnt;have:=HT.out;omega) (by have:=H.out.cnt;have:=HT.out;omega)).mono ?_
  rintro e w3 (⟨rfl,q1,q2,-⟩ | ⟨q,d,clock',c',M',D',L',rfl,ho3,hp3,hg3⟩)
  · exact absurd (no_pins H.out.run.pool.nodup H.out.pins q1) q2
  · obtain ⟨s3,hm3,hl3,hs3⟩:=H.out.got hp3 hg3
    have HM3:=Lib.hid hm3
    have HS3:=Lib.hid hs3
    have HL3:=Lib.hid hl3
    obtain ⟨xs,hx⟩:∃ x,x=(s.C n).2:=⟨_,rfl⟩
    rw [← hx] at ho3
    have HO3:=Lib.hid ho3
    have HXL:Hid (xs.length=112):=Lib.hid (by have:=ho3.1;rw [B8s_length] at this;omega)
    have HX:=Lib.hid hx
    have HR3:=Lib.hid (own_rdv ho3)
    clear ho3 hp3 hg3 hx hm3 hl3 hs3
    dsimp only
    go_wp2_with fail
    have HBB:=Lib.hid (bytes_below w3 b)
    refine (with_ok q (some ⟨w3.heap.size,0,none⟩) 112 d b.size _ (off:Int) xs b.data.toList _ HXL.out (by simp) (HR3.out.below HBB.out) (bytes_rd w3 b) ⟨rfl,by omega,by have:=HO.out;omega,by have:=HO.out;omega⟩).mono ?_
    rintro e w4 ⟨v4,rfl,ho4,hb4⟩
    obtain ⟨ys,hy⟩:∃ y,y=wth xs off (strB b):=⟨_,rfl⟩
    have ho4':w4.ownsRow (Lib.bytesWorld w3 5 b).heap.size 5 1 v4 112 (B8s ys):=by rw [hy];exact ho4
    obtain ⟨q4,d4,rfl,-⟩:=own_slice ho4'
    have HB4:=Lib.hid (chainC HBB.out hb4)
    have HM4:=Lib.hid (HM3.out.below HB4.out)
    obtain ⟨-,r2,-⟩:=HM4.out.load
    have HO4:=Lib.hid ho4'
    have HY:=Lib.hid hy
    have HYL:Hid (ys.length=112):=Lib.hid (by have:=ho4'.1;rw [B8s_length] at this;omega)
    have HT3:Hid (s3.clock≤900001∧s3.c≤900001):=Lib.hid (by have:=HM3.out.cnt;have:=HL3.out.t;have:=HT.out;omega)
    clear ho4 ho4' hb4 hy k2
    go_wp2_with fail
    refine (putP_any _ (n:Int) l q4 112 d4 ys HM4.out.run (by omega) (by have:=HN.out;omega) (by have:=HT3.out;omega) (by have:=HT3.out;omega) HL.out rfl HYL.out (own_rdv HO4.out) ?_).mono ?_
    · intro b' o' s' e hf
      obtain ⟨g6,e6,-,ht6,-⟩:=own_at1 HO4.out (by omega)
      rw [e] at e6
      cases e6
      exact HM4.out.not8 (.inl rfl) _ hf ht6
    · rintro e w5 (⟨rfl,q1,q2,-⟩ | ⟨clock5,c5,M5,D5,L5,rfl,hp5,hr5,ht5,hc5,hw5,hu5⟩)
      · exact absurd (no_pins HM4.out.run.pool.nodup HM4.out.pins q1) q2
      · obtain ⟨s5,hm5,hl5,hs5⟩:=HM4.out.put hp5 hr5 ht5 hc5 hw5 hu5
        have HM5:=Lib.hid hm5
        have HL5:=Lib.hid hl5
        have HS5:=Lib.hid hs5
        clear hp5 hr5 ht5 hc5 hw5 hu5 hm5 hl5 hs5 r2
        dsimp only
        go_wp2
        go_ret
        refine ⟨rfl,s5,HM5.out,?_,(HS3.out.trans (Step.of_below HB4.out)).trans HS5.out⟩
        rw [← HX.out,← HY.out]
        exact HL3.out.put HL5.out
end Go.Proofs.YtheeomjfpnijbaaGreatDoor
