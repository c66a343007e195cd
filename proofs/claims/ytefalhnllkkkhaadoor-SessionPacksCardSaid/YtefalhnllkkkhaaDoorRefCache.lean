/- The change that keeps a reply: the document's. -/
import Derived.Test.YtefalhnllkkkhaaDoorCache
namespace Go.Proofs.YtefalhnllkkkhaaDoor
open Go.RowKit
set_option linter.unusedVariables false

set_option maxHeartbeats 1000000 in
set_option maxRecDepth 20000 in
theorem refcache_any (id text : ByteArray) (st se wh : Int) (w : World) (h1 : id.size ≤ maxLen) (h2 : text.size ≤ maxLen) :
    Calls Tryd.prog 18 #[replyV id st se wh text] w fun e w' => ChQ (cacheK id text st se wh) (cacheB id text st se wh) (cacheE id text st se wh) w w' e := by
  have H1 := Lib.hid h1
  have H2 := Lib.hid h2
  have hal0 : Below w.heap.size w ((w.alloc (boxR id st se wh text)).alloc CH0) := ((Below.refl _ w).alloc (Nat.le_refl _) _).alloc (by simp) _
  have HAL := Lib.hid hal0
  clear h1 h2 hal0
  unfold replyV
  cases hI : mayR id text st se wh with
  | false =>
    have HI := Lib.hid hI
    have e1 : Hid (cacheK id text st se wh = ⟨#[]⟩) := Lib.hid (by unfold cacheK; rw [hI]; rfl)
    have e2 : Hid (cacheB id text st se wh = []) := Lib.hid (by unfold cacheB; rw [hI]; rfl)
    have e3 : Hid (cacheE id text st se wh = 1) := Lib.hid (by unfold cacheE; rw [hI]; rfl)
    clear hI
    go_enter Tryd.func18, Tryd.ntmps18
    go_wp2_with fail
    refine (refreply_any id text st se wh _ H1.out H2.out).mono ?_
    rintro e w1 (⟨_, rfl, hb⟩ | ⟨hq, _⟩)
    · have hblk : w1.heap[w.heap.size + 1]? = some CH0 := box_block hb
      obtain ⟨k0, k1, k2⟩ := ch0_cells hblk
      have f0 : w1.frozen? ⟨w.heap.size + 1, 0, none⟩ = false := frozen_of hblk
      have f1 : w1.frozen? ⟨w.heap.size + 1, 1, none⟩ = false := frozen_of hblk
      have f2 : w1.frozen? ⟨w.heap.size + 1, 2, none⟩ = false := frozen_of hblk
      have hlt : w.heap.size + 1 < w1.heap.size := (Array.getElem?_eq_some_iff.1 hblk).1
      have hb01 : Below w.heap.size w w1 := HAL.out.trans (hb.mono (by have := HAL.out.size; simpa using this))
      obtain ⟨q0, q1, q2⟩ := ch_cells ⟨#[]⟩ (.slice none 0 0) k0 k1 k2
      unfold chW at q0 q1 q2
      have Q0 := Lib.hid q0
      have Q1 := Lib.hid q1
      have Q2 := Lib.hid q2
      clear q0 q1 q2 hb hblk
      go_wp2
      have q0 := Q0.out
      have q1 := Q1.out
      have q2 := Q2.out
      refine bodyPost_ret (v := .tuple #[.agg #[.string ⟨#[]⟩, .slice none 0 0, .bool false], .int .i64 1]) (by simp [results, Tryd.results18, go_sem, q0, q1, q2]) rfl ?_
      obtain ⟨hr2, hb2⟩ := ch_end (xs := []) (p := none) (w.heap.size + 1) ⟨#[]⟩ 0 0 hb01 (Nat.le_succ _) (Rd.nil _ _) (fun b o s h => by cases h)
      exact ⟨none, 0, 0, by rw [e1.out, e3.out], by rw [e2.out]; rfl, by rw [e2.out]; exact hr2, hb2⟩
    · rw [HI.out] at hq; cases hq
  | true =>
    have HI := Lib.hid hI
    have hid8 : id.size ≤ 8 := by obtain ⟨_, _, _, _, _, _, _, _, _, h, _⟩ := mayR_facts hI; exact h
    have e1 : Hid (cacheK id text st se wh = (⟨#[114]⟩ : ByteArray) ++ id) := Lib.hid (by unfold cacheK; rw [hI, cat_two]; rfl)
    have e2 : Hid (cacheB id text st se wh = frameB (msgB 2 [st.toNat, se.toNat, wh.toNat] id text)) := Lib.hid (by unfold cacheB; rw [hI]; rfl)
    have e3 : Hid (cacheE id text st se wh = 0) := Lib.hid (by unfold cacheE; rw [hI]; rfl)
    clear hI
    go_enter Tryd.func18, Tryd.ntmps18
    go_wp2_with fail
    refine (refreply_any id text st se wh _ H1.out H2.out).mono ?_
    rintro e w1 (⟨hq, _⟩ | ⟨_, p1, n1, c1, rfl, hl1, hr1, hb⟩)
    · rw [HI.out] at hq; cases hq
    · have hblk : w1.heap[w.heap.size + 1]? = some CH0 := box_block hb
      have kid : w1.cell? ⟨w.heap.size, 0, none⟩ = some (.string id) := box_id hb
      have hlt : w.heap.size + 1 < w1.heap.size := (Array.getElem?_eq_some_iff.1 hblk).1
      have hb01 : Below w.heap.size w w1 := HAL.out.trans (hb.mono (by have := HAL.out.size; simpa using this))
      have HBLK := Lib.hid hblk
      have HB01 := Lib.hid hb01
      have HR1 := Lib.hid hr1
      have HL1 := Lib.hid hl1
      have HP1 : Hid (∀ b o s, p1 = some ⟨b, o, s⟩ → b ≠ w.heap.size + 1) := Lib.hid (rd_ne hblk hr1 (frameB_ne _))
      obtain ⟨k0, k1, k2⟩ := ch0_cells hblk
      have f0 : w1.frozen? ⟨w.heap.size + 1, 0, none⟩ = false := frozen_of hblk
      have f1 : w1.frozen? ⟨w.heap.size + 1, 1, none⟩ = false := frozen_of hblk
      have f2 : w1.frozen? ⟨w.heap.size + 1, 2, none⟩ = false := frozen_of hblk
      obtain ⟨q0, q1, q2⟩ := ch_cells ((⟨#[114]⟩ : ByteArray) ++ id) (.slice p1 n1 c1) k0 k1 k2
      unfold chW at q0 q1 q2
      have Q0 := Lib.hid q0
      have Q1 := Lib.hid q1
      have Q2 := Lib.hid q2
      clear q0 q1 q2 hblk hb01 hr1 hl1 hb
      go_wp2
      have q0 := Q0.out
      have q1 := Q1.out
      have q2 := Q2.out
      refine bodyPost_ret (v := .tuple #[.agg #[.string ((⟨#[114]⟩ : ByteArray) ++ id), .slice p1 n1 c1, .bool false], .int .i64 0]) (by simp [results, Tryd.results18, go_sem, q0, q1, q2]) rfl ?_
      obtain ⟨hr3, hb3⟩ := ch_end (w.heap.size + 1) ((⟨#[114]⟩ : ByteArray) ++ id) n1 c1 HB01.out (Nat.le_succ _) HR1.out HP1.out
      exact ⟨p1, n1, c1, by rw [e1.out, e3.out], by rw [e2.out]; exact HL1.out, by rw [e2.out]; exact hr3, hb3⟩
end Go.Proofs.YtefalhnllkkkhaaDoor
