/- Lemmas: RecE. -/
import Derived.Test.YtheeomjfpnijbaaGreatDoorZMg
set_option linter.unusedVariables false
namespace Go.Proofs.YtheeomjfpnijbaaGreatDoor
open Go.RowKit Go.Shelf
def encR (r:Rec):List UInt8 :=
  if r.kind=1 then [1]++varN r.tx++varN r.page++varN r.off++varN r.ahead.size++strB r.ahead++varN r.behind.size++strB r.behind
  else if r.kind=2 then [2]++varN r.tx++varN r.page++varN r.off++varN r.behind.size++strB r.behind++varN r.undone
  else [UInt8.ofNat r.kind]++varN r.tx
structure RecOk (r:Rec):Prop where
  tx:r.tx≤1099511627776
  page:r.page≤4096
  off:r.off≤112
  ahead:r.ahead.size≤112
  behind:r.behind.size≤112
  undone:r.undone≤4611686018427387904
structure RecN (t g o:Nat) (a b:ByteArray) (u:Nat):Prop where
  tx:t≤1099511627776
  page:g≤4096
  off:o≤112
  ahead:a.size≤112
  behind:b.size≤112
  undone:u≤4611686018427387904
theorem keepE2 {W w' w5:World} {a b:Addr} {u v:Value} (h:Hid (Below W.heap.size W w')∧w'.cell? a=some u∧w'.cell? b=some v) (hb:Below w'.heap.size w' w5):Hid (Below W.heap.size W w5)∧w5.cell? a=some u∧w5.cell? b=some v :=
  ⟨Lib.hid (h.1.out.trans (hb.mono h.1.out.size)),keepC hb h.2.1,keepC hb h.2.2⟩
theorem rd_one (W:World) (x:UInt8):Rd (W.alloc (.cells #[.int .u8 (x.toNat:Int)] 5)) (some ⟨W.heap.size,0,none⟩) [x]:=fun _=>⟨_,0,rfl,fun i v hv=>by
  rcases i with _ | i
  · simp only [B8s,List.map_cons,List.getElem?_cons_zero,Option.some.injEq] at hv
    subst hv
    exact cellNew rfl
  · simp [B8s] at hv⟩
set_option maxRecDepth 20000 in
set_option maxHeartbeats 2000000 in
theorem encode_upd (r:Rec) (w:World) (h1:r.kind=1) (h:RecOk r) :
    Calls Tryz.prog 136 #[recV r] w fun e w'=>OwnQ (encR r) w w' e:=by
  obtain ⟨kind,tx,page,off,ahead,behind,undone,lsn⟩:=r
  simp only at h1
  subst h1
  have H:Hid (RecN tx page off ahead behind undone):=Lib.hid ⟨h.tx,h.page,h.off,h.ahead,h.behind,h.undone⟩
  have HE:Hid (encR ⟨1,tx,page,off,ahead,behind,undone,lsn⟩=[1]++varN tx++varN page++varN off++varN ahead.size++strB ahead++varN behind.size++strB behind):=Lib.hid rfl
  clear h
  unfold recV
  go_enter Tryz.func136,Tryz.ntmps136
  go_wp2_with fail
  have hrd:=rd_one (w.alloc (.cells #[.int .i64 1,.int .i64 tx,.int .i64 page,.int .i64 off,.string ahead,.string behind,.int .i64 undone,.int .i64 lsn] 218)) 1
  rw [World.size_alloc] at hrd
  refine (put_any (some ⟨w.heap.size+1,0,none⟩) 1 1 [1] tx _ rfl (by omega) (by have:=H.out.tx;omega) hrd).mono ?_
  rintro e w1 ⟨v1,rfl,ho1,hb1⟩
  obtain ⟨xs1,hx1⟩:∃ y,y=[1]++varN tx:=⟨_,rfl⟩
  rw [← hx1] at ho1
  obtain ⟨n1,hn1⟩:∃ y,y=xs1.length:=⟨_,rfl⟩
  rw [← hn1] at ho1
  obtain ⟨q1,c1,rfl,-⟩:=own_slice ho1
  have kc:∀ (j:Nat) (v:Value),(#[Value.int .i64 1,.int .i64 tx,.int .i64 page,.int .i64 off,.string ahead,.string behind,.int .i64 undone,.int .i64 lsn])[j]?=some v→w1.cell? ⟨w.heap.size,j,none⟩=some v:=fun j v hv=>keepC hb1 (keepC ((Below.refl _ _).alloc (Nat.le_refl _) _) (cellNew hv))
  have k0:=kc 0 _ rfl
  have k2:=kc 2 _ rfl
  have k3:=kc 3 _ rfl
  have k4:=kc 4 _ rfl
  have k5:=kc 5 _ rfl
  have k6:=kc 6 _ rfl
  have HB1:Hid (Below w.heap.size w w1):=Lib.hid ((((Below.refl _ w).alloc (Nat.le_refl _) _).alloc (by simp) _).trans (hb1.mono (by simp;omega)))
  have HN1:=Lib.hid hn1
  have HX1:=Lib.hid hx1
  have HL1:Hid (n1≤10):=Lib.hid (by have:=varN_le9 (n:=tx) (by have:=H.out.tx;omega);rw [hn1,hx1];simp;omega)
  have HR1:=Lib.hid (own_rdv ho1)
  have HO1:=Lib.hid (own_mono ho1 (show w.heap.size≤_ by simp;omega))
  have hlt:=cell_lt k0
  clear kc hb1 hn1 hx1 ho1 hrd
  go_wp2_with fail
  have S01:Hid (Hid (Below w1.heap.size w1 w1.drew)∧w1.drew.cell? ⟨w.heap.size,2,none⟩=some (.int .i64 page)∧w1.drew.cell? ⟨w.heap.size,3,none⟩=some (.int .i64 off)):=Lib.hid ⟨Lib.hid (Below.refl _ w1).drew,k2,k3⟩
  go_region_held3 (fun w'=>Hid (Below w1.heap.size w1 w')∧w'.cell? ⟨w.heap.size,2,none⟩=some (.int .i64 page)∧w'.cell? ⟨w.heap.size,3,none⟩=some (.int .i64 off))
    (first | exact S01.out | exact S2.out | exact S3.out)
    (first
      | (go_at_call 196;(with_reducible refine (put_any q1 n1 c1 xs1 page _ HN1.out.symm (by have:=HL1.out;omega) (by have:=H.out.page;omega) (HR1.out.below (And.left (by assumption:Hid (Below w1.heap.size w1 _)∧_)).out)).mono ?_);rintro e w2 ⟨v2,rfl,ho2,hb2⟩;obtain ⟨xs2,hx2⟩:∃ y,y=xs1++varN page:=⟨_,rfl⟩;rw [← hx2] at ho2;obtain ⟨n2,hn2⟩:∃ y,y=xs2.length:=⟨_,rfl⟩;rw [← hn2] at ho2;obtain ⟨q2,c2,rfl,-⟩:=own_slice ho2;have S2:=Lib.hid (keepE2 (by assumption:Hid (Below w1.heap.size w1 _)∧_) hb2);have HR2:=Lib.hid (own_rdv ho2);have HO2:=Lib.hid (own_mono ho2 (And.left (by assumption:Hid (Below w1.heap.size w1 _)∧_)).out.size);have HL2:Hid (n2≤19):=Lib.hid (by have:=varN_le9 (n:=page) (by have:=H.out.page;omega);have:=HL1.out;have:=HN1.out;rw [hn2,hx2];simp only [List.length_append];omega);have HN2:=Lib.hid hn2;have HX2:=Lib.hid hx2;clear ho2 hb2 hn2 hx2)
      | (go_at_call 196;(with_reducible refine (put_any q2 n2 c2 xs2 off _ HN2.out.symm (by have:=HL2.out;omega) (by have:=H.out.off;omega) HR2.out).mono ?_);rintro e w3 ⟨v3,rfl,ho3,hb3⟩;obtain ⟨xs3,hx3⟩:∃ y,y=xs2++varN off:=⟨_,rfl⟩;rw [← hx3] at ho3;obtain ⟨n3,hn3⟩:∃ y,y=xs3.length:=⟨_,rfl⟩;rw [← hn3] at ho3;obtain ⟨q3,c3,rfl,-⟩:=own_slice ho3;have S3:=Lib.hid (keepE2 (by assumption:Hid (Below w1.heap.size w1 _)∧_) hb3);have HR3:=Lib.hid (own_rdv ho3);have HO3:=Lib.hid (own_mono ho3 (And.left (by assumption:Hid (Below w1.heap.size w1 _)∧_)).out.size);have HL3:Hid (n3≤28):=Lib.hid (by have:=varN_le9 (n:=off) (by have:=H.out.off;omega);have:=HL2.out;have:=HN2.out;rw [hn3,hx3];simp only [List.length_append];omega);have HN3:=Lib.hid hn3;have HX3:=Lib.hid hx3;clear ho3 hb3 hn3 hx3))
  have HB3:Hid (Below w.heap.size w w3):=Lib.hid (HB1.out.trans (S3.out.1.out.mono HB1.out.size))
  have k03:=keepC S3.out.1.out k0
  have k43:=keepC S3.out.1.out k4
  have k53:=keepC S3.out.1.out k5
  clear k0 k2 k3 k4 k5 k6 S01 hlt
  have k0:=k03
  have k4:=k43
  have k5:=k53
  clear k03 k43 k53
  have hlt:=cell_lt k0
  go_wp2_with fail
  have S03:Hid (Hid (Below w3.heap.size w3 w3.drew)∧w3.drew.cell? ⟨w.heap.size,4,none⟩=some (.string ahead)∧w3.drew.cell? ⟨w.heap.size,5,none⟩=some (.string behind)):=Lib.hid ⟨Lib.hid (Below.refl _ w3).drew,k4,k5⟩
  go_region_held3 (fun w'=>Hid (Below w3.heap.size w3 w')∧w'.cell? ⟨w.heap.size,4,none⟩=some (.string ahead)∧w'.cell? ⟨w.heap.size,5,none⟩=some (.string behind))
    (first | exact S03.out | exact S4.out | exact S5.out)
    (first
      | (go_at_call 135;(with_reducible refine (text_any q3 n3 c3 xs3 ahead _ HN3.out.symm (by have:=HL3.out;have:=H.out.ahead;omega) (HR3.out.below (And.left (by assumption:Hid (Below w3.heap.size w3 _)∧_)).out)).mono ?_);rintro e w4 ⟨v4,rfl,ho4,hb4⟩;obtain ⟨xs4,hx4⟩:∃ y,y=xs3++varN ahead.size++strB ahead:=⟨_,rfl⟩;rw [← hx4] at ho4;obtain ⟨n4,hn4⟩:∃ y,y=xs4.length:=⟨_,rfl⟩;rw [← hn4] at ho4;obtain ⟨q4,c4,rfl,-⟩:=own_slice ho4;have S4:=Lib.hid (keepE2 (by assumption:Hid (Below w3.heap.size w3 _)∧_) hb4);have HR4:=Lib.hid (own_rdv ho4);have HO4:=Lib.hid (own_mono ho4 (And.left (by assumption:Hid (Below w3.heap.size w3 _)∧_)).out.size);have HL4:Hid (n4≤149):=Lib.hid (by have:=varN_le9 (n:=ahead.size) (by have:=H.out.ahead;omega);have:=H.out.ahead;have:=strB_length ahead;have:=HL3.out;have:=HN3.out;rw [hn4,hx4];simp only [List.length_append];omega);have HN4:=Lib.hid hn4;have HX4:=Lib.hid hx4;clear ho4 hb4 hn4 hx4)
      | (go_at_call 135;(with_reducible refine (text_any q4 n4 c4 xs4 behind _ HN4.out.symm (by have:=HL4.out;have:=H.out.behind;omega) HR4.out).mono ?_);rintro e w5 ⟨v5,rfl,ho5,hb5⟩;obtain ⟨xs5,hx5⟩:∃ y,y=xs4++varN behind.size++strB behind:=⟨_,rfl⟩;rw [← hx5] at ho5;obtain ⟨n5,hn5⟩:∃ y,y=xs5.length:=⟨_,rfl⟩;rw [← hn5] at ho5;obtain ⟨q5,c5,rfl,-⟩:=own_slice ho5;have S5:=Lib.hid (keepE2 (by assumption:Hid (Below w3.heap.size w3 _)∧_) hb5);have HR5:=Lib.hid (own_rdv ho5);have HO5:=Lib.hid (own_mono ho5 (And.left (by assumption:Hid (Below w3.heap.size w3 _)∧_)).out.size);have HL5:Hid (n5≤270):=Lib.hid (by have:=varN_le9 (n:=behind.size) (by have:=H.out.behind;omega);have:=H.out.behind;have:=strB_length behind;have:=HL4.out;have:=HN4.out;rw [hn5,hx5];simp only [List.length_append];omega);have HN5:=Lib.hid hn5;have HX5:=Lib.hid hx5;clear ho5 hb5 hn5 hx5))
  have HB5:Hid (Below w.heap.size w w5):=Lib.hid (HB3.out.trans (S5.out.1.out.mono HB3.out.size))
  clear S03
  go_wp2
  go_ret
  exact ⟨_,rfl,by rw [HE.out,show [1]++varN tx++varN page++varN off++varN ahead.size++strB ahead++varN behind.size++strB behind=xs5 from by rw [HX5.out,HX4.out,HX3.out,HX2.out,HX1.out],← HN5.out];exact own_mono HO5.out HB3.out.size,HB5.out⟩
set_option maxRecDepth 20000 in
set_option maxHeartbeats 2000000 in
theorem encode_back (r:Rec) (w:World) (h1:r.kind=2) (h:RecOk r) :
    Calls Tryz.prog 136 #[recV r] w fun e w'=>OwnQ (encR r) w w' e:=by
  obtain ⟨kind,tx,page,off,ahead,behind,undone,lsn⟩:=r
  simp only at h1
  subst h1
  have H:Hid (RecN tx page off ahead behind undone):=Lib.hid ⟨h.tx,h.page,h.off,h.ahead,h.behind,h.undone⟩
  have HE:Hid (encR ⟨2,tx,page,off,ahead,behind,undone,lsn⟩=[2]++varN tx++varN page++varN off++varN behind.size++strB behind++varN undone):=Lib.hid rfl
  clear h
  unfold recV
  go_enter Tryz.func136,Tryz.ntmps136
  go_wp2_with fail
  have hrd:=rd_one (w.alloc (.cells #[.int .i64 2,.int .i64 tx,.int .i64 page,.int .i64 off,.string ahead,.string behind,.int .i64 undone,.int .i64 lsn] 218)) 2
  rw [World.size_alloc] at hrd
  refine (put_any (some ⟨w.heap.size+1,0,none⟩) 1 1 [2] tx _ rfl (by omega) (by have:=H.out.tx;omega) hrd).mono ?_
  rintro e w1 ⟨v1,rfl,ho1,hb1⟩
  obtain ⟨xs1,hx1⟩:∃ y,y=[2]++varN tx:=⟨_,rfl⟩
  rw [← hx1] at ho1
  obtain ⟨n1,hn1⟩:∃ y,y=xs1.length:=⟨_,rfl⟩
  rw [← hn1] at ho1
  obtain ⟨q1,c1,rfl,-⟩:=own_slice ho1
  have kc:∀ (j:Nat) (v:Value),(#[Value.int .i64 2,.int .i64 tx,.int .i64 page,.int .i64 off,.string ahead,.string behind,.int .i64 undone,.int .i64 lsn])[j]?=some v→w1.cell? ⟨w.heap.size,j,none⟩=some v:=fun j v hv=>keepC hb1 (keepC ((Below.refl _ _).alloc (Nat.le_refl _) _) (cellNew hv))
  have k0:=kc 0 _ rfl
  have k2:=kc 2 _ rfl
  have k3:=kc 3 _ rfl
  have k4:=kc 4 _ rfl
  have k5:=kc 5 _ rfl
  have k6:=kc 6 _ rfl
  have HB1:Hid (Below w.heap.size w w1):=Lib.hid ((((Below.refl _ w).alloc (Nat.le_refl _) _).alloc (by simp) _).trans (hb1.mono (by simp;omega)))
  have HN1:=Lib.hid hn1
  have HX1:=Lib.hid hx1
  have HL1:Hid (n1≤10):=Lib.hid (by have:=varN_le9 (n:=tx) (by have:=H.out.tx;omega);rw [hn1,hx1];simp;omega)
  have HR1:=Lib.hid (own_rdv ho1)
  have HO1:=Lib.hid (own_mono ho1 (show w.heap.size≤_ by simp;omega))
  have hlt:=cell_lt k0
  clear kc hb1 hn1 hx1 ho1 hrd
  go_wp2_with fail
  have S01:Hid (Hid (Below w1.heap.size w1 w1.drew)∧w1.drew.cell? ⟨w.heap.size,2,none⟩=some (.int .i64 page)∧w1.drew.cell? ⟨w.heap.size,3,none⟩=some (.int .i64 off)):=Lib.hid ⟨Lib.hid (Below.refl _ w1).drew,k2,k3⟩
  go_region_held3 (fun w'=>Hid (Below w1.heap.size w1 w')∧w'.cell? ⟨w.heap.size,2,none⟩=some (.int .i64 page)∧w'.cell? ⟨w.heap.size,3,none⟩=some (.int .i64 off))
    (first | exact S01.out | exact S2.out | exact S3.out)
    (first
      | (go_at_call 196;(with_reducible refine (put_any q1 n1 c1 xs1 page _ HN1.out.symm (by have:=HL1.out;omega) (by have:=H.out.page;omega) (HR1.out.below (And.left (by assumption:Hid (Below w1.heap.size w1 _)∧_)).out)).mono ?_);rintro e w2 ⟨v2,rfl,ho2,hb2⟩;obtain ⟨xs2,hx2⟩:∃ y,y=xs1++varN page:=⟨_,rfl⟩;rw [← hx2] at ho2;obtain ⟨n2,hn2⟩:∃ y,y=xs2.length:=⟨_,rfl⟩;rw [← hn2] at ho2;obtain ⟨q2,c2,rfl,-⟩:=own_slice ho2;have S2:=Lib.hid (keepE2 (by assumption:Hid (Below w1.heap.size w1 _)∧_) hb2);have HR2:=Lib.hid (own_rdv ho2);have HO2:=Lib.hid (own_mono ho2 (And.left (by assumption:Hid (Below w1.heap.size w1 _)∧_)).out.size);have HL2:Hid (n2≤19):=Lib.hid (by have:=varN_le9 (n:=page) (by have:=H.out.page;omega);have:=HL1.out;have:=HN1.out;rw [hn2,hx2];simp only [List.length_append];omega);have HN2:=Lib.hid hn2;have HX2:=Lib.hid hx2;clear ho2 hb2 hn2 hx2)
      | (go_at_call 196;(with_reducible refine (put_any q2 n2 c2 xs2 off _ HN2.out.symm (by have:=HL2.out;omega) (by have:=H.out.off;omega) HR2.out).mono ?_);rintro e w3 ⟨v3,rfl,ho3,hb3⟩;obtain ⟨xs3,hx3⟩:∃ y,y=xs2++varN off:=⟨_,rfl⟩;rw [← hx3] at ho3;obtain ⟨n3,hn3⟩:∃ y,y=xs3.length:=⟨_,rfl⟩;rw [← hn3] at ho3;obtain ⟨q3,c3,rfl,-⟩:=own_slice ho3;have S3:=Lib.hid (keepE2 (by assumption:Hid (Below w1.heap.size w1 _)∧_) hb3);have HR3:=Lib.hid (own_rdv ho3);have HO3:=Lib.hid (own_mono ho3 (And.left (by assumption:Hid (Below w1.heap.size w1 _)∧_)).out.size);have HL3:Hid (n3≤28):=Lib.hid (by have:=varN_le9 (n:=off) (by have:=H.out.off;omega);have:=HL2.out;have:=HN2.out;rw [hn3,hx3];simp only [List.length_append];omega);have HN3:=Lib.hid hn3;have HX3:=Lib.hid hx3;clear ho3 hb3 hn3 hx3))
  have HB3:Hid (Below w.heap.size w w3):=Lib.hid (HB1.out.trans (S3.out.1.out.mono HB1.out.size))
  have k03:=keepC S3.out.1.out k0
  have k53:=keepC S3.out.1.out k5
  have k63:=keepC S3.out.1.out k6
  clear k0 k2 k3 k4 k5 k6 S01 hlt
  have k0:=k03
  have k5:=k53
  have k6:=k63
  clear k03 k53 k63
  have hlt:=cell_lt k0
  go_wp2_with fail
  have S03:Hid (Hid (Below w3.heap.size w3 w3.drew)∧w3.drew.cell? ⟨w.heap.size,5,none⟩=some (.string behind)∧w3.drew.cell? ⟨w.heap.size,6,none⟩=some (.int .i64 undone)):=Lib.hid ⟨Lib.hid (Below.refl _ w3).drew,k5,k6⟩
  go_region_held3 (fun w'=>Hid (Below w3.heap.size w3 w')∧w'.cell? ⟨w.heap.size,5,none⟩=some (.string behind)∧w'.cell? ⟨w.heap.size,6,none⟩=some (.int .i64 undone))
    (first | exact S03.out | exact S4.out | exact S5.out)
    (first
      | (go_at_call 135;(with_reducible refine (text_any q3 n3 c3 xs3 behind _ HN3.out.symm (by have:=HL3.out;have:=H.out.behind;omega) (HR3.out.below (And.left (by assumption:Hid (Below w3.heap.size w3 _)∧_)).out)).mono ?_);rintro e w4 ⟨v4,rfl,ho4,hb4⟩;obtain ⟨xs4,hx4⟩:∃ y,y=xs3++varN behind.size++strB behind:=⟨_,rfl⟩;rw [← hx4] at ho4;obtain ⟨n4,hn4⟩:∃ y,y=xs4.length:=⟨_,rfl⟩;rw [← hn4] at ho4;obtain ⟨q4,c4,rfl,-⟩:=own_slice ho4;have S4:=Lib.hid (keepE2 (by assumption:Hid (Below w3.heap.size w3 _)∧_) hb4);have HR4:=Lib.hid (own_rdv ho4);have HO4:=Lib.hid (own_mono ho4 (And.left (by assumption:Hid (Below w3.heap.size w3 _)∧_)).out.size);have HL4:Hid (n4≤149):=Lib.hid (by have:=varN_le9 (n:=behind.size) (by have:=H.out.behind;omega);have:=H.out.behind;have:=strB_length behind;have:=HL3.out;have:=HN3.out;rw [hn4,hx4];simp only [List.length_append];omega);have HN4:=Lib.hid hn4;have HX4:=Lib.hid hx4;clear ho4 hb4 hn4 hx4)
      | (go_at_call 196;(with_reducible refine (put_any q4 n4 c4 xs4 undone _ HN4.out.symm (by have:=HL4.out;omega) (by have:=H.out.undone;omega) HR4.out).mono ?_);rintro e w5 ⟨v5,rfl,ho5,hb5⟩;obtain ⟨xs5,hx5⟩:∃ y,y=xs4++varN undone:=⟨_,rfl⟩;rw [← hx5] at ho5;obtain ⟨n5,hn5⟩:∃ y,y=xs5.length:=⟨_,rfl⟩;rw [← hn5] at ho5;obtain ⟨q5,c5,rfl,-⟩:=own_slice ho5;have S5:=Lib.hid (keepE2 (by assumption:Hid (Below w3.heap.size w3 _)∧_) hb5);have HR5:=Lib.hid (own_rdv ho5);have HO5:=Lib.hid (own_mono ho5 (And.left (by assumption:Hid (Below w3.heap.size w3 _)∧_)).out.size);have HL5:Hid (n5≤158):=Lib.hid (by have:=varN_le9 (n:=undone) (by have:=H.out.undone;omega);have:=HL4.out;have:=HN4.out;rw [hn5,hx5];simp only [List.length_append];omega);have HN5:=Lib.hid hn5;have HX5:=Lib.hid hx5;clear ho5 hb5 hn5 hx5))
  have HB5:Hid (Below w.heap.size w w5):=Lib.hid (HB3.out.trans (S5.out.1.out.mono HB3.out.size))
  clear S03
  go_wp2
  go_ret
  exact ⟨_,rfl,by rw [HE.out,show [2]++varN tx++varN page++varN off++varN behind.size++strB behind++varN undone=xs5 from by rw [HX5.out,HX4.out,HX3.out,HX2.out,HX1.out],← HN5.out];exact own_mono HO5.out HB3.out.size,HB5.out⟩
set_option maxRecDepth 20000 in
set_option maxHeartbeats 2000000 in
theorem encode_commit (r:Rec) (w:World) (h1:r.kind=3) (h:RecOk r) :
    Calls Tryz.prog 136 #[recV r] w fun e w'=>OwnQ (encR r) w w' e:=by
  obtain ⟨kind,tx,page,off,ahead,behind,undone,lsn⟩:=r
  simp only at h1
  subst h1
  have H:Hid (RecN tx page off ahead behind undone):=Lib.hid ⟨h.tx,h.page,h.off,h.ahead,h.behind,h.undone⟩
  have HE:Hid (encR ⟨3,tx,page,off,ahead,behind,undone,lsn⟩=[3]++varN tx):=Lib.hid rfl
  clear h
  unfold recV
  go_enter Tryz.func136,Tryz.ntmps136
  go_wp2_with fail
  have hrd:=rd_one (w.alloc (.cells #[.int .i64 3,.int .i64 tx,.int .i64 page,.int .i64 off,.string ahead,.string behind,.int .i64 undone,.int .i64 lsn] 218)) 3
  rw [World.size_alloc] at hrd
  refine (put_any (some ⟨w.heap.size+1,0,none⟩) 1 1 [3] tx _ rfl (by omega) (by have:=H.out.tx;omega) hrd).mono ?_
  rintro e w1 ⟨v1,rfl,ho1,hb1⟩
  obtain ⟨xs1,hx1⟩:∃ y,y=[3]++varN tx:=⟨_,rfl⟩
  rw [← hx1] at ho1
  obtain ⟨n1,hn1⟩:∃ y,y=xs1.length:=⟨_,rfl⟩
  rw [← hn1] at ho1
  obtain ⟨q1,c1,rfl,-⟩:=own_slice ho1
  have kc:∀ (j:Nat) (v:Value),(#[Value.int .i64 3,.int .i64 tx,.int .i64 page,.int .i64 off,.string ahead,.string behind,.int .i64 undone,.int .i64 lsn])[j]?=some v→w1.cell? ⟨w.heap.size,j,none⟩=some v:=fun j v hv=>keepC hb1 (keepC ((Below.refl _ _).alloc (Nat.le_refl _) _) (cellNew hv))
  have k0:=kc 0 _ rfl
  have k2:=kc 2 _ rfl
  have k3:=kc 3 _ rfl
  have k4:=kc 4 _ rfl
  have k5:=kc 5 _ rfl
  have k6:=kc 6 _ rfl
  have HB1:Hid (Below w.heap.size w w1):=Lib.hid ((((Below.refl _ w).alloc (Nat.le_refl _) _).alloc (by simp) _).trans (hb1.mono (by simp;omega)))
  have HN1:=Lib.hid hn1
  have HX1:=Lib.hid hx1
  have HL1:Hid (n1≤10):=Lib.hid (by have:=varN_le9 (n:=tx) (by have:=H.out.tx;omega);rw [hn1,hx1];simp;omega)
  have HR1:=Lib.hid (own_rdv ho1)
  have HO1:=Lib.hid (own_mono ho1 (show w.heap.size≤_ by simp;omega))
  have hlt:=cell_lt k0
  clear kc hb1 hn1 hx1 ho1 hrd
  go_wp2_with fail
  go_ret
  exact ⟨_,rfl,by rw [HE.out,← HX1.out,← HN1.out];exact HO1.out,HB1.out⟩
set_option maxRecDepth 20000 in
set_option maxHeartbeats 2000000 in
theorem encode_end (r:Rec) (w:World) (h1:r.kind=4) (h:RecOk r) :
    Calls Tryz.prog 136 #[recV r] w fun e w'=>OwnQ (encR r) w w' e:=by
  obtain ⟨kind,tx,page,off,ahead,behind,undone,lsn⟩:=r
  simp only at h1
  subst h1
  have H:Hid (RecN tx page off ahead behind undone):=Lib.hid ⟨h.tx,h.page,h.off,h.ahead,h.behind,h.undone⟩
  have HE:Hid (encR ⟨4,tx,page,off,ahead,behind,undone,lsn⟩=[4]++varN tx):=Lib.hid rfl
  clear h
  unfold recV
  go_enter Tryz.func136,Tryz.ntmps136
  go_wp2_with fail
  have hrd:=rd_one (w.alloc (.cells #[.int .i64 4,.int .i64 tx,.int .i64 page,.int .i64 off,.string ahead,.string behind,.int .i64 undone,.int .i64 lsn] 218)) 4
  rw [World.size_alloc] at hrd
  refine (put_any (some ⟨w.heap.size+1,0,none⟩) 1 1 [4] tx _ rfl (by omega) (by have:=H.out.tx;omega) hrd).mono ?_
  rintro e w1 ⟨v1,rfl,ho1,hb1⟩
  obtain ⟨xs1,hx1⟩:∃ y,y=[4]++varN tx:=⟨_,rfl⟩
  rw [← hx1] at ho1
  obtain ⟨n1,hn1⟩:∃ y,y=xs1.length:=⟨_,rfl⟩
  rw [← hn1] at ho1
  obtain ⟨q1,c1,rfl,-⟩:=own_slice ho1
  have kc:∀ (j:Nat) (v:Value),(#[Value.int .i64 4,.int .i64 tx,.int .i64 page,.int .i64 off,.string ahead,.string behind,.int .i64 undone,.int .i64 lsn])[j]?=some v→w1.cell? ⟨w.heap.size,j,none⟩=some v:=fun j v hv=>keepC hb1 (keepC ((Below.refl _ _).alloc (Nat.le_refl _) _) (cellNew hv))
  have k0:=kc 0 _ rfl
  have k2:=kc 2 _ rfl
  have k3:=kc 3 _ rfl
  have k4:=kc 4 _ rfl
  have k5:=kc 5 _ rfl
  have k6:=kc 6 _ rfl
  have HB1:Hid (Below w.heap.size w w1):=Lib.hid ((((Below.refl _ w).alloc (Nat.le_refl _) _).alloc (by simp) _).trans (hb1.mono (by simp;omega)))
  have HN1:=Lib.hid hn1
  have HX1:=Lib.hid hx1
  have HL1:Hid (n1≤10):=Lib.hid (by have:=varN_le9 (n:=tx) (by have:=H.out.tx;omega);rw [hn1,hx1];simp;omega)
  have HR1:=Lib.hid (own_rdv ho1)
  have HO1:=Lib.hid (own_mono ho1 (show w.heap.size≤_ by simp;omega))
  have hlt:=cell_lt k0
  clear kc hb1 hn1 hx1 ho1 hrd
  go_wp2_with fail
  go_ret
  exact ⟨_,rfl,by rw [HE.out,← HX1.out,← HN1.out];exact HO1.out,HB1.out⟩
theorem encode_any (r:Rec) (w:World) (h1:1≤r.kind∧r.kind≤4) (h:RecOk r) :
    Calls Tryz.prog 136 #[recV r] w fun e w'=>OwnQ (encR r) w w' e:=by
  rcases (show r.kind=1 ∨ r.kind=2 ∨ r.kind=3 ∨ r.kind=4 by omega) with h2 | h2 | h2 | h2
  · exact encode_upd r w h2 h
  · exact encode_back r w h2 h
  · exact encode_commit r w h2 h
  · exact encode_end r w h2 h
end Go.Proofs.YtheeomjfpnijbaaGreatDoor
namespace Go.Proofs.YtheeomjfpnijbaaGreatDoor
open Go.RowKit Go.Shelf
section
variable {k:Int} {p:Par} {w w':World} {s:ASt}
theorem MR.own (h:MR k p w s) {k':Int} {last recs:Nat} (hu:Upd (fun j=>j=p.bg) w w') (hc:w'.heap[p.bg]?=some (.cells #[.int .i32 k',.int .u32 0,.pointer (some ⟨p.bp,0,none⟩),.pointer (some ⟨p.bl,0,none⟩),.int .i64 p.pages,.int .i64 last,.int .i64 recs,.map (some p.ba)] 63 (0,0)))
    (hl:last≤1099511627776) (hr:recs≤s.t):MR k' p w' { s with last:=last,recs:=recs }:=by
  have ht:=h.typed
  have hf:∀ j,j=p.bg→¬ FS s.N p.bm w j∧¬ Typed w j 5:=fun j hj=>by
    subst hj
    exact ⟨fun hf=>h.not8 (.inr (.inr (.inr (by decide)))) _ hf ht,fun h8=>absurd (h8.one ht) (by decide)⟩
  exact {
    cells:=hc
    run:=h.run.upd hu (fun j hj=>by subst hj;exact h.low.1) hf
    map:=h.map.upd hu (fun e=>h.map.notTyped ht e.symm)
    txs:=fun x hx=>⟨(hu.block _ (Array.getElem?_eq_some_iff.1 (h.txs x hx).cells).1 (fun e=>by
      have h1:Typed w x.2.blk 236:=⟨_,(h.txs x hx).cells⟩
      exact absurd (h1.one (by rw [show x.2.blk=p.bg from e];exact ht)) (by decide))).trans (h.txs x hx).cells,own_upd (h.txs x hx).row hu (fun j hj h8=>by subst hj;exact absurd (h8.one ht) (by decide))⟩
    apart:=h.apart
    rows:=h.rows
    low:=h.low
    pins:=h.pins
    few:=h.few
    keys:=h.keys
    last:=hl
    cnt:=⟨h.cnt.1,h.cnt.2.1,h.cnt.2.2.1,hr⟩
    ups:=h.ups
    ulen:=h.ulen
    sect:=h.sect }
theorem MR.own_step (h:MR k p w s) (hu:Upd (fun j=>j=p.bg) w w'):Step p s.N w s.N w' :=
  ⟨rfl,rfl,hu.mono fun j _ hj=>by subst hj;exact .inr ⟨h.low.1,.inr (.inl h.typed)⟩,fun _ _ h=>h⟩
theorem MR.appended (h:MR k p w s) {sv':Value} {T:List UInt8} (hl:LogAt w' s.N.B p.bl p.bd s.L.fro s.L.sectors s.L.first (s.L.last+1) s.L.forced s.L.durable sv' (s.L.xs++T)) (hv:sv'.ownBlock=s.L.sv.ownBlock ∨ ∃ g,sv'.ownBlock=some g∧w.heap.size≤g∧g < w'.heap.size)
    (hu:Upd (AT p.bl s.L.sv) w w') (hlen:(s.L.xs++T).length≤s.L.sectors * 112) (hla:s.L.last+1≤4611686018427387904) :
    MR k p w' { s with N:=s.N.plus sv'.ownBlock,L:={ s.L with last:=s.L.last+1,sv:=sv',xs:=s.L.xs++T },t:=s.t+1 }∧Step p s.N w (s.N.plus sv'.ownBlock) w':=by
  have hst:=h.run.st
  have ho:∀ g,sv'.ownBlock=some g→w.heap.size≤g ∨ s.N g:=fun g hg=>by
    rcases hv with e | ⟨g',e,h1,-⟩
    · exact .inr (hst.lown g (by rw [← e];exact hg))
    · rw [e] at hg;cases hg;exact .inl h1
  have h8:∀ j,AT p.bl s.L.sv j→Typed w j 5→(s.N.plus sv'.ownBlock) j:=fun j hj ht=>by
    obtain ⟨-,ht' | ⟨-,hn⟩⟩:=hst.at_typed hj
    · exact absurd (ht.one ht') (by decide)
    · exact .inl hn
  have hty:∀ {t:TypeId} (j:Nat),t ≠ 267→t ≠ 5→Typed w j t→¬ AT p.bl s.L.sv j:=fun j h1 h2 ht hj=>by
    obtain ⟨-,ht' | ⟨ht',-⟩⟩:=hst.at_typed hj
    · exact h1 (ht.one ht')
    · exact h2 (ht.one ht')
  refine ⟨{
    cells:=(hu.block _ (Array.getElem?_eq_some_iff.1 h.cells).1 (hty _ (by decide) (by decide) h.typed)).trans h.cells
    run:=⟨hst.appended hl hv hu hlen hla,(h.run.pool.plus ho).upd hu (fun j hj _=>?_) h8,h.run.inv,h.run.small,h.run.log,.inr (forceC_all _ _ _ _),h.run.len,h.run.buf⟩
    map:=h.map.upd hu (fun hj=>by
      obtain ⟨-,ht | ⟨ht,-⟩⟩:=hst.at_typed hj <;> exact h.map.notTyped ht rfl)
    txs:=fun x hx=>⟨(hu.block _ (Array.getElem?_eq_some_iff.1 (h.txs x hx).cells).1 (hty _ (by decide) (by decide) ⟨_,(h.txs x hx).cells⟩)).trans (h.txs x hx).cells,own_upd (h.txs x hx).row hu (fun j hj hr=>hty j (by decide) (by decide) hr hj)⟩
    apart:=h.apart
    rows:=h.rows
    low:=h.low
    pins:=h.pins
    few:=h.few
    keys:=h.keys
    last:=h.last
    cnt:=⟨by have:=h.cnt.1;show s.clock≤s.t+1;omega,by have:=h.cnt.2.1;show s.c≤s.t+1;omega,by have:=h.cnt.2.2.1;show s.L.last+1≤s.t+1;omega,by have:=h.cnt.2.2.2;show s.recs≤s.t+1;omega⟩
    ups:=h.ups
    ulen:=fun x hx=>by have:=h.ulen x hx;show _≤s.t+1;omega
    sect:=h.sect },⟨rfl,rfl,hu.mono fun j _ hj=>?_,fun j hj hn=>?_⟩⟩
  · obtain ⟨-,ht | ⟨ht,-⟩⟩:=hst.at_typed hj
    · exact ⟨fun h2=>absurd (h2.one ht) (by decide),fun h2=>absurd (h2.one ht) (by decide),h.run.pool.map.notTyped ht⟩
    · exact ⟨fun h2=>absurd (h2.one ht) (by decide),fun h2=>absurd (h2.one ht) (by decide),h.run.pool.map.notTyped ht⟩
  · obtain ⟨hb,ht | ⟨ht,hn⟩⟩:=hst.at_typed hj
    · exact .inl ⟨hb,.inr (.inr (.inr (.inl ht)))⟩
    · exact .inr ⟨hb,.inr (.inr (.inr (.inr ⟨hn,ht⟩)))⟩
  · rcases hn with hn | hn
    · exact hn
    · rcases ho j hn with h1 | h1
      · omega
      · exact h1
end
def AppD (k:Int) (p:Par) (s:ASt) (rec:List UInt8) (w:World) (c d:Int) (w':World):Prop :=
  (s.L.sectors * 112 < s.L.xs.length+(textV rec).length∧c=0∧d=4∧Below w.heap.size w w') ∨
  (s.L.xs.length+(textV rec).length≤s.L.sectors * 112∧∃ sv':Value,c=(s.L.last+1:Nat)∧d=0∧Upd (AT p.bl s.L.sv) w w' ∧
    MR k p w' { s with N:=s.N.plus sv'.ownBlock,L:={ s.L with last:=s.L.last+1,sv:=sv',xs:=s.L.xs++textV rec },t:=s.t+1 }∧Step p s.N w (s.N.plus sv'.ownBlock) w')
theorem appM_any (k:Int) (p:Par) (s:ASt) (rec:List UInt8) (q:Option Addr) (n c:Nat) (w:World) (h:MR k p w s) (ht:s.t≤1000000) (hrec:rec.length=n) (h0:0 < n) (h1:n≤2000) (hr:Rd w q rec) :
    Calls Tryz.prog 197 #[.pointer (some ⟨p.bl,0,none⟩),.slice q n c] w fun e w'=>∃ c d:Int,e=.returned (.tuple #[.int .i64 c,.int .i64 d])∧AppD k p s rec w c d w':=by
  have hst:=h.run.st
  have hcl:=h.cnt.2.2.1
  refine (append_any w s.N.B p.bl p.bd s.L.fro s.L.sectors s.L.first s.L.last s.L.forced s.L.durable s.L.sv s.L.xs rec q n c hst.log h.sect hst.lok.long hst.base (by omega) hrec h0 h1 hr).mono ?_
  rintro e w' (⟨h2,rfl,hb⟩ | ⟨hfit,sv',rfl,hl',hv,hu⟩)
  · exact ⟨0,4,rfl,.inl ⟨h2,rfl,rfl,hb⟩⟩
  · obtain ⟨q1,q2⟩:=h.appended hl' hv hu (by rw [List.length_append];exact hfit) (by omega)
    exact ⟨_,0,rfl,.inr ⟨hfit,sv',rfl,rfl,hu,q1,q2⟩⟩
theorem encR_length {r:Rec} (h:RecOk r):0 < (encR r).length∧(encR r).length≤300:=by
  have h1:=varN_length 6 r.tx (by have:=h.tx;omega) (by omega)
  have h2:=varN_length 2 r.page (by have:=h.page;omega) (by omega)
  have h3:=varN_length 1 r.off (by have:=h.off;omega) (by omega)
  have h4:=varN_length 1 r.ahead.size (by have:=h.ahead;omega) (by omega)
  have h5:=varN_length 1 r.behind.size (by have:=h.behind;omega) (by omega)
  have h6:=varN_length 9 r.undone (by have:=h.undone;omega) (by omega)
  have h7:=strB_length r.ahead
  have h8:=strB_length r.behind
  have h9:=h.ahead
  have h10:=h.behind
  unfold encR
  split
  · simp only [List.length_append,List.length_cons,List.length_nil];omega
  · split
    · simp only [List.length_append,List.length_cons,List.length_nil];omega
    · simp only [List.length_append,List.length_cons,List.length_nil];omega
structure Added (s s':ASt) (r:Rec):Prop where
  C:s'.C=s.C
  A:s'.A=s.A
  last:s'.last=max s.last r.tx
  recs:s'.recs=s.recs+1
  log:s'.L.last=s.L.last+1∧s'.L.sectors=s.L.sectors∧s'.L.xs=s.L.xs++textV (encR r)
  t:s'.t=s.t+1
def AddQ (k:Int) (p:Par) (s:ASt) (r:Rec) (w:World) (e:Ending) (w':World):Prop :=
  (s.L.sectors * 112 < s.L.xs.length+(textV (encR r)).length∧e=.returned (.tuple #[.int .i64 0,.int .i64 4])∧MR k p w' s∧Step p s.N w s.N w') ∨
  (s.L.xs.length+(textV (encR r)).length≤s.L.sectors * 112∧∃ s',e=.returned (.tuple #[.int .i64 (s.L.last+1:Nat),.int .i64 0])∧MR k p w' s'∧Added s s' r∧Step p s.N w s'.N w'∧Upd (fun j=>j=p.bg ∨ AT p.bl s.L.sv j) w w')
def AddC (k:Int) (p:Par) (s:ASt) (r:Rec) (w:World) (g:Nat) (c d:Int) (wx:World):Prop :=
  (s.L.sectors * 112 < s.L.xs.length+(textV (encR r)).length∧c=0∧d=4∧MR k p wx s∧Step p s.N w s.N wx) ∨
  (s.L.xs.length+(textV (encR r)).length≤s.L.sectors * 112∧∃ sv':Value,c=(s.L.last+1:Nat)∧d=0∧wx.cell? ⟨g,1,none⟩=some (.int .i64 r.tx) ∧
    MR k p wx { s with N:=s.N.plus sv'.ownBlock,L:={ s.L with last:=s.L.last+1,sv:=sv',xs:=s.L.xs++textV (encR r) },t:=s.t+1 }∧Step p s.N w (s.N.plus sv'.ownBlock) wx∧Upd (fun j=>j=p.bg ∨ AT p.bl s.L.sv j) w wx)
theorem add_end {k:Int} {p:Par} {w wx:World} {s s1:ASt} {r:Rec} {m:Nat} (h:MR k p wx s1) (hs:Step p s.N w s1.N wx) (e1:s1.C=s.C∧s1.A=s.A∧s1.last=s.last∧s1.recs=s.recs∧s1.L.last=s.L.last+1∧s1.L.sectors=s.L.sectors∧s1.L.xs=s.L.xs++textV (encR r)∧s1.t=s.t+1)
    (hm:m=max s.last r.tx) (hr:r.tx≤1099511627776) (hc:s.recs≤s.t) {w':World} (hu:Upd (fun j=>j=p.bg) wx w') (hw:w'.heap[p.bg]?=some (.cells #[.int .i32 k,.int .u32 0,.pointer (some ⟨p.bp,0,none⟩),.pointer (some ⟨p.bl,0,none⟩),.int .i64 p.pages,.int .i64 m,.int .i64 (s.recs+1:Nat),.map (some p.ba)] 63 (0,0))) :
    ∃ s',MR k p w' s'∧Added s s' r∧Step p s.N w s'.N w':=by
  obtain ⟨a1,a2,a3,a4,a5,a6,a7,a8⟩:=e1
  have hl:=h.last
  exact ⟨_,h.own (last:=m) (recs:=s.recs+1) hu hw (by rw [hm,← a3];omega) (by rw [a8];omega),⟨a1,a2,hm,rfl,⟨a5,a6,a7⟩,a8⟩,hs.trans (h.own_step hu)⟩
set_option maxRecDepth 20000 in
set_option maxHeartbeats 4000000 in
theorem add_any (k:Int) (p:Par) (s:ASt) (r:Rec) (w:World) (h:MR k p w s) (ht:s.t≤900000) (h1:1≤r.kind∧r.kind≤4) (hr:RecOk r) :
    Calls Tryz.prog 138 #[.pointer (some ⟨p.bg,0,none⟩),recV r] w (AddQ k p s r w):=by
  have H:=Lib.hid h
  have HT:=Lib.hid ht
  have HK:=Lib.hid h1
  have HR:=Lib.hid hr
  obtain ⟨-,-,k3,-,-,-,-,hlt⟩:=h.load
  obtain ⟨W,hW⟩:∃ W,W=w.alloc (.cells #[.int .i64 r.kind,.int .i64 r.tx,.int .i64 r.page,.int .i64 r.off,.string r.ahead,.string r.behind,.int .i64 r.undone,.int .i64 r.lsn] 218):=⟨_,rfl⟩
  have HBW:Hid (Below w.heap.size w W):=Lib.hid (by rw [hW];exact (Below.refl _ w).alloc (Nat.le_refl _) _)
  have kw:∀ (j:Nat) (v:Value),(#[Value.int .i64 r.kind,.int .i64 r.tx,.int .i64 r.page,.int .i64 r.off,.string r.ahead,.string r.behind,.int .i64 r.undone,.int .i64 r.lsn])[j]?=some v→W.cell? ⟨w.heap.size,j,none⟩=some v:=fun j v hv=>by rw [hW];exact cellNew hv
  have HKW:=Lib.hid kw
  have HKB:=Lib.hid (keepC HBW.out k3)
  have HWT:Hid (Typed W w.heap.size 218):=Lib.hid (by rw [hW];exact ⟨_,heap_alloc_new _ _⟩)
  clear h ht h1 hr kw k3
  unfold recV
  go_enter Tryz.func138,Tryz.ntmps138
  go_upto_region 1 with fail
  rw [← hW]
  have HWE:=Lib.hid hW
  clear hW
  go_cut [6,7] (fun u v wx=>∃ c d:Int,u=.int .i64 c∧v=.int .i64 d∧Hid (AddC k p s r w w.heap.size c d wx))
  case first =>
    have kb:=HKB.out
    have c0:=HKW.out 0 _ rfl
    have c1:=HKW.out 1 _ rfl
    have c2:=HKW.out 2 _ rfl
    have c3:=HKW.out 3 _ rfl
    have c4:=HKW.out 4 _ rfl
    have c5:=HKW.out 5 _ rfl
    have c6:=HKW.out 6 _ rfl
    have c7:=HKW.out 7 _ rfl
    have hbl:p.bg < W.heap.size:=cell_lt kb
    have hwl:w.heap.size < W.heap.size:=cell_lt c0
    go_region_law (first
      | (go_simp;go_at_call 136;refine (encode_any r _ HK.out HR.out).mono ?_;rintro e w2 ⟨v2,rfl,ho2,hb2⟩;obtain ⟨xs,hxs⟩:∃ y,y=encR r:=⟨_,rfl⟩;rw [← hxs] at ho2;obtain ⟨n2,hn2⟩:∃ y,y=xs.length:=⟨_,rfl⟩;rw [← hn2] at ho2;obtain ⟨q2,d2,rfl,-⟩:=own_slice ho2;have kb2:=keepC hb2 (show W.drew.cell? _=_ from kb);have HB2:Hid (Below W.heap.size W w2):=Lib.hid ⟨hb2.os,hb2.tape,hb2.output,hb2.size,hb2.block⟩;have HR2:=Lib.hid (own_rdv ho2);have HX:=Lib.hid hxs;have HN2:=Lib.hid hn2;clear ho2 hb2 hxs hn2)
      | (go_simp;go_at_call 197;refine (appM_any k p s xs q2 n2 d2 _ (H.out.below (chainC HBW.out HB2.out)) (by have:=HT.out;omega) HN2.out.symm (by have:=encR_length HR.out;rw [HN2.out,HX.out];omega) (by have:=encR_length HR.out;rw [HN2.out,HX.out];omega) HR2.out).mono ?_;rintro e w3 ⟨a3,d3,rfl,hd3⟩;have HD3:=Lib.hid hd3;clear hd3))
    all_goals go_wp2
    all_goals go_meet
    all_goals
      refine ⟨a3,d3,rfl,rfl,Lib.hid ?_⟩
      have hbm:=chainC HBW.out HB2.out
      rcases HD3.out with ⟨e1,rfl,rfl,hb3⟩ | ⟨e1,sv3,rfl,rfl,hu3,hm3,hs3⟩
      · rw [HX.out] at e1
        exact .inl ⟨e1,rfl,rfl,H.out.below (chainC hbm hb3),Step.of_below (chainC hbm hb3)⟩
      · rw [HX.out] at e1
        rw [HX.out] at hm3
        refine .inr ⟨e1,sv3,rfl,rfl,?_,hm3,(Step.of_below hbm).trans hs3,(Upd.of_below' hbm _).trans' hu3 (fun j _ hj=>.inr hj)⟩
        refine hu3.cell (keepC HB2.out (HKW.out 1 _ rfl)) (fun hat=>?_)
        have ht2:Typed w2 w.heap.size 218:=by
          obtain ⟨cs,hcs⟩:=HWT.out
          exact ⟨cs,(HB2.out.block _ (Array.getElem?_eq_some_iff.1 hcs).1).trans hcs⟩
        obtain ⟨-,ht | ⟨ht,-⟩⟩:=(H.out.below hbm).run.st.at_typed hat
        · exact absurd (ht2.one ht) (by decide)
        · exact absurd (ht2.one ht) (by decide)
  case rest =>
    obtain ⟨c,d,rfl,rfl,HA⟩:=hcut
    rcases HA.out with ⟨e1,rfl,rfl,hm,hs⟩ | ⟨e1,sv',rfl,rfl,kt,hm,hs,hux⟩
    · have HM:=Lib.hid hm
      have HS:=Lib.hid hs
      have HE:=Lib.hid e1
      clear hm hs e1
      go_wp2
      go_ret2
      exact .inl ⟨HE.out,rfl,HM.out,HS.out⟩
    · obtain ⟨-,-,-,-,k5,k6,-,hlt'⟩:=hm.load
      have hcw:=hm.cells
      have f5:wc.frozen? ⟨p.bg,5,none⟩=false:=frozenC hcw
      have f6:wc.frozen? ⟨p.bg,6,none⟩=false:=frozenC hcw
      have hrc:s.recs≤900001:=by have:=hm.cnt.2.2.2;have:=HT.out;dsimp only at *;omega
      dsimp only at k5 k6
      have HM:=Lib.hid hm
      have HS:=Lib.hid hs
      have HUX:=Lib.hid hux
      have HE:=Lib.hid e1
      have HCW:=Lib.hid hcw
      have hgl:=cell_lt kt
      clear hm hs e1 hcw hux
      go_wp2_with fail
      have h6:=heap_setCell_same wc p.bg 6 _ _ (.int .i64 ((s.recs:Int)+1)) HCW.out
      have hne:w.heap.size ≠ p.bg:=fun e=>by have:=H.out.load.2.2.2.2.2.2.2;omega
      have k5':(wc.setCell ⟨p.bg,6,none⟩ (.int .i64 ((s.recs:Int)+1))).cell? ⟨p.bg,5,none⟩=some (.int .i64 s.last):=by simp [World.cell?,h6]
      have kt':(wc.setCell ⟨p.bg,6,none⟩ (.int .i64 ((s.recs:Int)+1))).cell? ⟨w.heap.size,1,none⟩=some (.int .i64 r.tx):=by
        have:=World.cell?_setCell_other wc ⟨p.bg,6,none⟩ ⟨w.heap.size,1,none⟩ (.int .i64 ((s.recs:Int)+1)) (by simp)
        exact this.trans kt
      have f5':(wc.setCell ⟨p.bg,6,none⟩ (.int .i64 ((s.recs:Int)+1))).frozen? ⟨p.bg,5,none⟩=false:=frozenC h6
      have HH6:=Lib.hid h6
      have HU6:=Lib.hid (Upd.setC wc p.bg 6 (.int .i64 ((s.recs:Int)+1)))
      obtain ⟨W6,hW6⟩:∃ W6,W6=wc.setCell ⟨p.bg,6,none⟩ (.int .i64 ((s.recs:Int)+1)):=⟨_,rfl⟩
      rw [← hW6] at k5' kt' f5' HH6 HU6 ⊢
      have HW6:=Lib.hid hW6
      obtain ⟨m,hm⟩:∃ m,m=max s.last r.tx:=⟨_,rfl⟩
      have hmax1:max (s.last:Int) (r.tx:Int)=(m:Int):=by omega
      have hmax2:(if (s.last:Int) < (r.tx:Int) then (r.tx:Int) else (s.last:Int))=(m:Int):=by split <;> omega
      have hmax3:(if s.last < r.tx then (r.tx:Int) else (s.last:Int))=(m:Int):=by split <;> omega
      have HMM:=Lib.hid hm
      clear hW6 h6 hne k5 k6 f5 f6 kt hm
      have hlt6:p.bg < W6.heap.size:=cell_lt k5'
      have hgl6:w.heap.size < W6.heap.size:=cell_lt kt'
      go_region
      all_goals go_wp2
      all_goals go_ret2
      all_goals
        have h5:=heap_setCell_same W6 p.bg 5 _ _ (.int .i64 (m:Int)) HH6.out
        obtain ⟨s',a1,a2,a3⟩:=add_end (r:=r) (s:=s) (m:=m) HM.out HS.out ⟨rfl,rfl,rfl,rfl,rfl,rfl,rfl,rfl⟩ HMM.out HR.out.tx H.out.cnt.2.2.2 (Upd.drewBelow' (HU6.out.trans' (Upd.setC W6 p.bg 5 (.int .i64 (m:Int))) (fun j _ hj=>hj))) (show (W6.setCell ⟨p.bg,5,none⟩ (.int .i64 (m:Int))).drew.heap[p.bg]?=_ from h5.trans rfl)
        exact .inr ⟨HE.out,s',rfl,a1,a2,a3,Upd.drewBelow' (HUX.out.trans' (HU6.out.trans' (Upd.setC W6 p.bg 5 (.int .i64 (m:Int))) (fun j _ hj=>hj)) (fun j _ hj=>.inl hj))⟩
end Go.Proofs.YtheeomjfpnijbaaGreatDoor
