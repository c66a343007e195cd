/- The change that keeps a reply: session.Cache and the document's. -/
import Derived.Test.YtefalhnllkkkhaaDoorRefRoot
namespace Go.Proofs.YtefalhnllkkkhaaDoor
open Go.RowKit
set_option linter.unusedVariables false

def replyV (id : ByteArray) (st se wh : Int) (text : ByteArray) : Value := .agg #[.string id, .int .i64 st, .int .i64 se, .int .i64 wh, .string text]
def boxR (id : ByteArray) (st se wh : Int) (text : ByteArray) : Obj := .cells #[.string id, .int .i64 st, .int .i64 se, .int .i64 wh, .string text] 35
def cacheK (id text : ByteArray) (st se wh : Int) : ByteArray := if mayR id text st se wh then catB [⟨#[114]⟩, id] else ⟨#[]⟩
def cacheB (id text : ByteArray) (st se wh : Int) : List UInt8 := if mayR id text st se wh then frameB (msgB 2 [st.toNat, se.toNat, wh.toNat] id text) else []
def cacheE (id text : ByteArray) (st se wh : Int) : Int := if mayR id text st se wh then 0 else 1
theorem box_block {w w1 : World} {o : Obj} (hb : Below ((w.alloc o).alloc CH0).heap.size ((w.alloc o).alloc CH0) w1) : w1.heap[w.heap.size + 1]? = some CH0 := by
  have e : (w.alloc o).heap.size = w.heap.size + 1 := by simp
  have := block_after hb
  rw [e] at this
  exact this
theorem box_id {w w1 : World} {id : ByteArray} {st se wh : Int} {text : ByteArray} (hb : Below ((w.alloc (boxR id st se wh text)).alloc CH0).heap.size ((w.alloc (boxR id st se wh text)).alloc CH0) w1) : w1.cell? ⟨w.heap.size, 0, none⟩ = some (.string id) := by
  have h1 : (w.alloc (boxR id st se wh text)).cell? ⟨w.heap.size, 0, none⟩ = some (.string id) := cell_alloc rfl
  exact kept hb (kept ((Below.refl _ _).alloc (Nat.le_refl _) _) h1)
theorem frameB_ne (xs : List UInt8) : 0 < (frameB xs).length := by unfold frameB; simp [leB_length]; omega
theorem rd_ne {w1 : World} {g : Nat} {p : Option Addr} {xs : List UInt8} (h : w1.heap[g]? = some CH0) (hr : Rd w1 p xs) (hx : 0 < xs.length) : ∀ b o s, p = some ⟨b, o, s⟩ → b ≠ g := fun b o s hp he => by
  obtain ⟨b', o', hp', hc⟩ := hr.at hx
  rw [hp] at hp'
  cases hp'
  subst he
  have h0 := hc 0 hx
  simp only [World.cell?, h, CH0] at h0
  rcases o with _ | _ | _ | o <;> simp [B8] at h0

set_option maxHeartbeats 1000000 in
set_option maxRecDepth 20000 in
theorem cache_any (id text : ByteArray) (st se wh : Int) (w : World) (h1 : id.size ≤ maxLen) (h2 : text.size ≤ maxLen) (hT : Halves w) :
    Calls Tryd.prog 17 #[replyV id st se wh text] w fun e w' => ChQ (cacheK id text st se wh) (cacheB id text st se wh) (cacheE id text st se wh) w w' e := by
  have H1 := Lib.hid h1
  have H2 := Lib.hid h2
  have hal0 : Below w.heap.size w ((w.alloc (boxR id st se wh text)).alloc CH0) := ((Below.refl _ w).alloc (Nat.le_refl _) _).alloc (by simp) _
  have HT := Lib.hid (hT.below hal0)
  have HAL := Lib.hid hal0
  clear h1 h2 hal0 hT
  unfold replyV
  cases hI : mayR id text st se wh with
  | false =>
    have HI := Lib.hid hI
    have e1 : Hid (cacheK id text st se wh = ⟨#[]⟩) := Lib.hid (by unfold cacheK; rw [hI]; rfl)
    have e2 : Hid (cacheB id text st se wh = []) := Lib.hid (by unfold cacheB; rw [hI]; rfl)
    have e3 : Hid (cacheE id text st se wh = 1) := Lib.hid (by unfold cacheE; rw [hI]; rfl)
    clear hI
    go_enter Tryd.func17, Tryd.ntmps17
    go_wp2_with fail
    refine (reply_any id text st se wh _ H1.out H2.out HT.out).mono ?_
    rintro e w1 (⟨_, rfl, hb⟩ | ⟨hq, _⟩)
    · have hblk : w1.heap[w.heap.size + 1]? = some CH0 := box_block hb
      obtain ⟨k0, k1, k2⟩ := ch0_cells hblk
      have f0 : w1.frozen? ⟨w.heap.size + 1, 0, none⟩ = false := frozen_of hblk
      have f1 : w1.frozen? ⟨w.heap.size + 1, 1, none⟩ = false := frozen_of hblk
      have f2 : w1.frozen? ⟨w.heap.size + 1, 2, none⟩ = false := frozen_of hblk
      have hlt : w.heap.size + 1 < w1.heap.size := (Array.getElem?_eq_some_iff.1 hblk).1
      have hb01 : Below w.heap.size w w1 := HAL.out.trans (hb.mono (by have := HAL.out.size; simpa using this))
      obtain ⟨q0, q1, q2⟩ := ch_cells ⟨#[]⟩ (.slice none 0 0) k0 k1 k2
      unfold chW at q0 q1 q2
      have Q0 := Lib.hid q0
      have Q1 := Lib.hid q1
      have Q2 := Lib.hid q2
      clear q0 q1 q2 hb hblk
      go_wp2
      have q0 := Q0.out
      have q1 := Q1.out
      have q2 := Q2.out
      refine bodyPost_ret (v := .tuple #[.agg #[.string ⟨#[]⟩, .slice none 0 0, .bool false], .int .i64 1]) (by simp [results, Tryd.results17, go_sem, q0, q1, q2]) rfl ?_
      obtain ⟨hr2, hb2⟩ := ch_end (xs := []) (p := none) (w.heap.size + 1) ⟨#[]⟩ 0 0 hb01 (Nat.le_succ _) (Rd.nil _ _) (fun b o s h => by cases h)
      exact ⟨none, 0, 0, by rw [e1.out, e3.out], by rw [e2.out]; rfl, by rw [e2.out]; exact hr2, hb2⟩
    · rw [HI.out] at hq; cases hq
  | true =>
    have HI := Lib.hid hI
    have hid8 : id.size ≤ 8 := by obtain ⟨_, _, _, _, _, _, _, _, _, h, _⟩ := mayR_facts hI; exact h
    have e1 : Hid (cacheK id text st se wh = catB [⟨#[114]⟩, id]) := Lib.hid (by unfold cacheK; rw [hI]; rfl)
    have e2 : Hid (cacheB id text st se wh = frameB (msgB 2 [st.toNat, se.toNat, wh.toNat] id text)) := Lib.hid (by unfold cacheB; rw [hI]; rfl)
    have e3 : Hid (cacheE id text st se wh = 0) := Lib.hid (by unfold cacheE; rw [hI]; rfl)
    clear hI
    go_enter Tryd.func17, Tryd.ntmps17
    go_wp2_with fail
    refine (reply_any id text st se wh _ H1.out H2.out HT.out).mono ?_
    rintro e w1 (⟨hq, _⟩ | ⟨_, p1, n1, c1, rfl, hl1, hr1, hb⟩)
    · rw [HI.out] at hq; cases hq
    · have hblk : w1.heap[w.heap.size + 1]? = some CH0 := box_block hb
      have kid : w1.cell? ⟨w.heap.size, 0, none⟩ = some (.string id) := box_id hb
      have hlt : w.heap.size + 1 < w1.heap.size := (Array.getElem?_eq_some_iff.1 hblk).1
      have hb01 : Below w.heap.size w w1 := HAL.out.trans (hb.mono (by have := HAL.out.size; simpa using this))
      have HBLK := Lib.hid hblk
      have HB01 := Lib.hid hb01
      have HR1 := Lib.hid hr1
      have HL1 := Lib.hid hl1
      have HP1 : Hid (∀ b o s, p1 = some ⟨b, o, s⟩ → b ≠ w.heap.size + 1) := Lib.hid (rd_ne hblk hr1 (frameB_ne _))
      have hkb : Below w1.heap.size w1 (w1.alloc (.cells #[.string ⟨#[114]⟩, .string id] 9)) := (Below.refl _ w1).alloc (Nat.le_refl _) _
      have HKB := Lib.hid hkb
      have HLN : Hid (([⟨#[114]⟩, id].map (·.data.toList)).flatten.length ≤ 140737488355328) := Lib.hid (by simp; have := strB_length id; unfold strB at this; simp at this; omega)
      clear hblk hb01 hr1 hl1 hb hkb
      go_wp2_with fail
      refine (key_any w1.heap.size 0 2 [⟨#[114]⟩, id] 2 _ rfl (fun j x h => cells2 j x h) (by simp) (by omega) (by omega) HLN.out).mono ?_
      rintro e w2 ⟨rfl, hb2⟩
      have hb12 : Below w1.heap.size w1 w2 := chain2 HKB.out hb2
      have hblk2 : w2.heap[w.heap.size + 1]? = some CH0 := (hb12.block _ hlt).trans HBLK.out
      obtain ⟨k0, k1, k2⟩ := ch0_cells hblk2
      have f0 : w2.frozen? ⟨w.heap.size + 1, 0, none⟩ = false := frozen_of hblk2
      have f1 : w2.frozen? ⟨w.heap.size + 1, 1, none⟩ = false := frozen_of hblk2
      have f2 : w2.frozen? ⟨w.heap.size + 1, 2, none⟩ = false := frozen_of hblk2
      have hlt2 : w.heap.size + 1 < w2.heap.size := (Array.getElem?_eq_some_iff.1 hblk2).1
      have hb02 : Below w.heap.size w w2 := chain2 HB01.out hb12
      obtain ⟨q0, q1, q2⟩ := ch_cells (catB [⟨#[114]⟩, id]) (.slice p1 n1 c1) k0 k1 k2
      unfold chW at q0 q1 q2
      have Q0 := Lib.hid q0
      have Q1 := Lib.hid q1
      have Q2 := Lib.hid q2
      have HR2 := Lib.hid (HR1.out.below hb12)
      clear q0 q1 q2 hb2 hblk2 hb12
      go_wp2
      have q0 := Q0.out
      have q1 := Q1.out
      have q2 := Q2.out
      refine bodyPost_ret (v := .tuple #[.agg #[.string (catB [⟨#[114]⟩, id]), .slice p1 n1 c1, .bool false], .int .i64 0]) (by simp [results, Tryd.results17, go_sem, q0, q1, q2]) rfl ?_
      obtain ⟨hr3, hb3⟩ := ch_end (w.heap.size + 1) (catB [⟨#[114]⟩, id]) n1 c1 hb02 (Nat.le_succ _) HR2.out HP1.out
      exact ⟨p1, n1, c1, by rw [e1.out, e3.out], by rw [e2.out]; exact HL1.out, by rw [e2.out]; exact hr3, hb3⟩
end Go.Proofs.YtefalhnllkkkhaaDoor
