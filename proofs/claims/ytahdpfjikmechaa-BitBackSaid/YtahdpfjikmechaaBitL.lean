/- The fixed checks of the laws on package bit, and BitJoins. Condition: the string has at most 300 bytes, the three numbers are bytes. -/
import Derived.Test.YtahdpfjikmechaaBitR
import Derived.Test.YtahdpfjikmechaaBitW
import Derived.Laws.Strings
import GoSem.Claim
namespace Go.Proofs.Ytahdpfjikmechaa
namespace Bit
open Sh
set_option linter.unusedVariables false
set_option linter.unusedSimpArgs false

theorem _root_.Go.Proofs.Ytahdpfjikmechaa.Sh.Ext.fresh {w0 w w' : World} {G : Nat → Prop} (h : Ext (fun _ => False) w0 w) (k : Ext G w w') (hG : ∀ j, G j → w0.heap.size ≤ j) : Ext (fun _ => False) w0 w' :=
  h.trans k (fun _ h => h) fun i hi hg => by have := hG i hg; omega
theorem RdB.keep {G : Nat → Prop} {w w' : World} {b p : Nat} {s : ByteArray} {way : Int} (h : RdB w b s p way) (k : Ext G w w') (hn : ¬ G b) : RdB w' b s p way := k.blk h hn
theorem RdR.keep {G : Nat → Prop} {w w' : World} {b p : Nat} {s : ByteArray} {way : Int} (h : RdR w b s p way) (k : Ext G w w') (hn : ¬ G b) : RdR w' b s p way := k.blk h hn
theorem RdB.lt {w : World} {b p : Nat} {s : ByteArray} {way : Int} (h : RdB w b s p way) : b < w.heap.size := Blk.lt h

theorem fpn {w w' : World} {b m : Nat} {s s' : Slc} (h : Wn w w' b s s') (hf : ∀ j, fp b s j → m ≤ j) (hm : m ≤ w.heap.size) : ∀ j, fp b s' j → m ≤ j := fun j hj =>
  hj.elim (fun h => hf j (.inl h)) fun h2 => (h.new j h2).elim (fun h => hf j (.inr h)) fun h => by omega
theorem lives (w : World) : C15 w fun r w1 => r = true ∧ Ext (fun _ => False) w w1 := by
  refine T15 _ _ ?_
  unfold S15
  refine (c_from w _).mono ?_
  rintro r w1 ⟨rfl, hr, e1⟩
  refine (c_from w1 _).mono ?_
  rintro r w2 ⟨rfl, hs, e2⟩
  have hr := hr.keep e2 id
  have e := e1.tr e2
  have hne : w.heap.size ≠ w1.heap.size := by have := hr.lt; have := hs.lt; have := e1.size; intro h; have h2 := (RdB.lt (w := w1) (b := w.heap.size) (by assumption)); omega
  refine Br_of (fun h => by cases h) fun _ => Br_of (fun h => by cases h) fun _ => ?_
  have t1 : tkR (⟨#[202]⟩ : ByteArray) 0 0 4 1 = (10, 0, 4, 1) := by decide
  refine (c_low hr (by decide) (by decide) 4).mono ?_
  rw [t1]
  rintro v1a v1b w3 ⟨rfl, rfl, hr, e'⟩
  have hs := hs.keep e' (fun h => hne h.symm)
  have e := e.fresh e' (fun j h => by have := e1.size; omega)
  have t2 : tkR (⟨#[202]⟩ : ByteArray) 4 1 4 1 = (12, 0, 8, 1) := by decide
  refine (c_low hr (by decide) (by decide) 4).mono ?_
  rw [t2]
  rintro v2a v2b w4 ⟨rfl, rfl, hr, e'⟩
  have hs := hs.keep e' (fun h => hne h.symm)
  have e := e.fresh e' (fun j h => by have := e1.size; omega)
  have t3 : tkR (⟨#[202]⟩ : ByteArray) 0 0 4 2 = (12, 0, 4, 2) := by decide
  refine (c_high hs (by decide) (by decide) 4).mono ?_
  rw [t3]
  rintro v3a v3b w5 ⟨rfl, rfl, hs, e'⟩
  have hr := hr.keep e' hne
  have e := e.fresh e' (fun j h => by have := e1.size; omega)
  have t4 : tkR (⟨#[202]⟩ : ByteArray) 4 2 1 1 = (0, 1, 4, 2) := by decide
  refine (c_low hs (by decide) (by decide) 1).mono ?_
  rw [t4]
  rintro v4a v4b w6 ⟨rfl, rfl, hs, e'⟩
  have hr := hr.keep e' hne
  have e := e.fresh e' (fun j h => by have := e1.size; omega)
  have t5 : tkR (⟨#[202]⟩ : ByteArray) 4 2 4 2 = (10, 0, 8, 2) := by decide
  refine (c_high hs (by decide) (by decide) 4).mono ?_
  rw [t5]
  rintro v5a v5b w7 ⟨rfl, rfl, hs, e'⟩
  have hr := hr.keep e' hne
  have e := e.fresh e' (fun j h => by have := e1.size; omega)
  have t6 : tkR (⟨#[202]⟩ : ByteArray) 8 2 1 2 = (0, 4, 8, 2) := by decide
  refine (c_high hs (by decide) (by decide) 1).mono ?_
  rw [t6]
  rintro v6a v6b w8 ⟨rfl, rfl, hs, e'⟩
  have hr := hr.keep e' hne
  have e := e.fresh e' (fun j h => by have := e1.size; omega)
  refine (c_new w8).mono ?_
  rintro r w9 ⟨rfl, hw, e'⟩
  have hb8 : w.heap.size < w8.heap.size := hr.lt
  have hr := hr.keep e' id
  have e := e.tr e'
  have hge := e.size
  have hfp : ∀ j, fp w8.heap.size ⟨none, 0, 0⟩ j → w8.heap.size ≤ j := fun j hj => hj.elim (fun h => by omega) (fun ⟨a, ha, _⟩ => by cases ha)
  refine Br_of (fun h => by cases h) fun _ => ?_
  simp only [show ((10 : Int) != 10) = false by decide, show ((0 : Int) != 0) = false by decide, show ((12 : Int) != 12) = false by decide, show ((1 : Int) != 1) = false by decide, show ((4 : Int) != 4) = false by decide, Br_false]
  have hm := e'.size
  have hi := WInv.zero []
  have p1 : putR 0 ([], 0) 1 1 1 = (0, ([1], 1), 1) := by decide
  refine (c_wlow hw hi (by decide) 1 1).mono ?_
  have hi := hi.put 1 1 (w' := 1) (by decide)
  rw [p1] at hi ⊢
  rintro y1 w10 ⟨rfl, s1, hw, en⟩
  have hr := hr.keep en.ext (fun h => by have := hfp _ h; omega)
  have e := e.fresh en.ext (fun j h => by have := hfp j h; omega)
  have hfp := fpn en hfp hm
  have hm := Nat.le_trans hm en.ext.size
  have p2 : putR 1 ([1], 1) 2 2 1 = (0, ([5], 3), 1) := by decide
  refine (c_wlow hw hi (by decide) 2 2).mono ?_
  have hi := hi.put 2 2 (w' := 1) (by decide)
  rw [p2] at hi ⊢
  rintro y2 w11 ⟨rfl, s2, hw, en⟩
  have hr := hr.keep en.ext (fun h => by have := hfp _ h; omega)
  have e := e.fresh en.ext (fun j h => by have := hfp j h; omega)
  have hfp := fpn en hfp hm
  have hm := Nat.le_trans hm en.ext.size
  have p3 : putR 1 ([5], 3) 2 1 1 = (1, ([5], 3), 1) := by decide
  refine (c_wlow hw hi (by decide) 2 1).mono ?_
  have hi := hi.put 2 1 (w' := 1) (by decide)
  rw [p3] at hi ⊢
  rintro y3 w12 ⟨rfl, s3, hw, en⟩
  have hr := hr.keep en.ext (fun h => by have := hfp _ h; omega)
  have e := e.fresh en.ext (fun j h => by have := hfp j h; omega)
  have hfp := fpn en hfp hm
  have hm := Nat.le_trans hm en.ext.size
  refine (c_wtext hw (by decide)).mono ?_
  rintro x1 w13 ⟨rfl, en⟩
  have hr := hr.keep en id
  have hw := hw.keep en (fun _ _ h => h)
  have e := e.tr en
  refine (c_wraw hw (⟨#[65]⟩ : ByteArray) (by decide) (by decide)).mono ?_
  rw [show rawWay (1, ([5], 3), 1).2.2 (1, ([5], 3), 1).2.1 = 0 by decide, show rawS (1, ([5], 3), 1).2.1 ⟨#[65]⟩ = ([5, 65], 0) by decide]
  rintro w14 ⟨s4, hw, en⟩
  have hr := hr.keep en.ext (fun h => by have := hfp _ h; omega)
  have e := e.fresh en.ext (fun j h => by have := hfp j h; omega)
  refine Br_of (fun _ => ?_) (fun h => by cases h)
  refine Br_of (fun _ => ?_) (fun h => by cases h)
  refine Br_of (fun _ => ?_) (fun h => by cases h)
  refine Br_of (fun _ => ?_) (fun h => by rw [ByteArray.toList_eq] at h; exact absurd h (by decide))
  refine (c_wtext hw (by decide)).mono ?_
  rintro x2 w15 ⟨rfl, en⟩
  have hr := hr.keep en id
  have hw := hw.keep en (fun _ _ h => h)
  have e := e.tr en
  refine Br_of (fun _ => ?_) (fun h => by rw [ByteArray.toList_eq] at h; exact absurd h (by decide))
  refine (c_wlen hw).mono ?_
  rintro x3 w16 ⟨rfl, rfl⟩
  refine Br_of (fun _ => ?_) (fun h => absurd h (by decide))
  refine (c_at hr (by decide) (by decide)).mono ?_
  rintro x4 w17 ⟨rfl, rfl⟩
  refine Br_of (fun _ => ?_) (fun h => absurd h (by decide))
  refine (c_left hr (by decide) (by decide)).mono ?_
  rintro x5 w18 ⟨rfl, rfl⟩
  exact ⟨by decide, e.drew⟩

theorem u8wf {n : Int} (h : (Lit.int .u8 n).wf = true) : 0 ≤ n ∧ n ≤ 255 := by
  simpa [Lit.wf, show IntKind.u8.min = 0 by decide, show IntKind.u8.max = 255 by decide] using h
theorem tkR_go {s : ByteArray} {p n : Nat} {way w' : Int} (hw : way = 0 ∨ way = w') (hn : n ≤ 24) (hp : p + n ≤ 8 * s.size) :
    tkR s p way (n : Int) w' = (tk s w' p n, 0, p + n, if 0 < (n : Int) then w' else way) := by
  rw [tkR_ok (by omega) (by omega), Int.toNat_natCast]
theorem way_go {n : Int} {way w' : Int} (hw : way = 0 ∨ way = w') : (if 0 < n then w' else way) = 0 ∨ (if 0 < n then w' else way) = w' := by split <;> simp [hw]
/-- **BitJoins**. -/
theorem joins (w : World) (s : ByteArray) {x y z : Int} (hx : 0 ≤ x ∧ x ≤ 255) (hy : 0 ≤ y ∧ y ≤ 255) (hz : 0 ≤ z ∧ z ≤ 255) : C3 s x y z w fun r w1 => r = true ∧ Ext (fun _ => False) w w1 := by
  refine T3 _ _ _ _ _ _ ?_
  unfold S3
  have liv : ∀ w2, Ext (fun _ => False) w w2 → C15 w2 fun r w1 => r = true ∧ Ext (fun _ => False) w w1 := fun w2 he => (lives w2).mono fun r w3 ⟨h1, h2⟩ => ⟨h1, he.tr h2⟩
  refine Br_of (fun _ => liv w (Ext.refl _ _)) fun e => ?_
  have hs : s.size ≤ 1000000 := by
    have : ¬ (300 : Int) < (s.size : Int) := by simpa using e
    omega
  refine (c_from w s).mono ?_
  rintro r w1 ⟨rfl, hb, he⟩
  have H := ((Hx.start w (fun _ => False)).keep he).push hb (by simp)
  have z1 := H.size
  have l1 := hb.lt
  refine (c_from w1 s).mono ?_
  rintro r w2 ⟨rfl, hb, he⟩
  have H := (H.keep he).push hb H.fresh
  have z2 := H.size
  have l2 := hb.lt
  refine (c_from w2 s).mono ?_
  rintro r w3 ⟨rfl, hb, he⟩
  have H := (H.keep he).push hb H.fresh
  have z3 := H.size
  have l3 := hb.lt
  refine (c_from w3 s).mono ?_
  rintro r w4 ⟨rfl, hb, he⟩
  have H := (H.keep he).push hb H.fresh
  have z4 := H.size
  refine Br_of (fun h => by cases h) fun _ => Br_of (fun h => by cases h) fun _ => Br_of (fun h => by cases h) fun _ => Br_of (fun h => by cases h) fun _ => ?_
  obtain ⟨k, hk⟩ := Int.eq_ofNat_of_zero_le (show 0 ≤ x % 8 by omega)
  obtain ⟨a, ha⟩ := Int.eq_ofNat_of_zero_le (show 0 ≤ y % 13 by omega)
  obtain ⟨b, hb'⟩ := Int.eq_ofNat_of_zero_le (show 0 ≤ z % 13 by omega)
  have hk8 : k < 8 := by omega
  have ha13 : a < 13 := by omega
  have hb13 : b < 13 := by omega
  rw [tmod_id hx.1, tmod_id hy.1, tmod_id hz.1, hk, ha, hb']
  rw [i64_id (n := (k : Int)) (by omega), i64_id (n := (a : Int)) (by omega), i64_id (n := (b : Int)) (by omega)]
  refine Lt.of (Lt.of (Br_of (fun _ => ?_) fun e => ?_))
  · exact Br_of (fun _ => Br_of (fun _ => Br_of (fun _ => Br_of (fun _ => liv w4 H.ext) fun h => by cases h) fun h => by cases h) fun h => by cases h) fun h => by cases h
  rw [i64_id (n := (k : Int) + (a : Int)) (by omega), i64_id (n := 8 * (s.size : Int)) (by omega), i64_id (by omega)] at e
  have hfit : k + a + b ≤ 8 * s.size := by
    have : ¬ 8 * (s.size : Int) < (k : Int) + (a : Int) + (b : Int) := by simpa using e
    omega
  rw [i64_id (n := (a : Int) + (b : Int)) (by omega), show (a : Int) + (b : Int) = ((a + b : Nat) : Int) by omega]
  refine (c_low (H.get 0 rfl) (by omega) hs _).mono ?_
  rw [tkR_go (.inl rfl) (by omega) (by omega)]
  rintro v0 f0 u0 ⟨rfl, rfl, hb, he⟩
  simp only [Nat.zero_add] at hb
  have H := H.upd 0 rfl hb he (.inr (by omega))
  refine (c_low (H.get 2 rfl) (by omega) hs _).mono ?_
  rw [tkR_go (.inl rfl) (by omega) (by omega)]
  rintro v1 f1 u1 ⟨rfl, rfl, hb, he⟩
  simp only [Nat.zero_add] at hb
  have H := H.upd 2 rfl hb he (.inr (by omega))
  refine (c_high (H.get 1 rfl) (by omega) hs _).mono ?_
  rw [tkR_go (.inl rfl) (by omega) (by omega)]
  rintro v2 f2 u2 ⟨rfl, rfl, hb, he⟩
  simp only [Nat.zero_add] at hb
  have H := H.upd 1 rfl hb he (.inr (by omega))
  refine (c_high (H.get 3 rfl) (by omega) hs _).mono ?_
  rw [tkR_go (.inl rfl) (by omega) (by omega)]
  rintro v3 f3 u3 ⟨rfl, rfl, hb, he⟩
  simp only [Nat.zero_add] at hb
  have H := H.upd 3 rfl hb he (.inr (by omega))
  refine (c_low (H.get 0 rfl) (by omega) hs _).mono ?_
  rw [tkR_go (way_go (.inl rfl)) (by omega) (by omega)]
  rintro v4 f4 u4 ⟨rfl, rfl, hb, he⟩
  simp only [Nat.zero_add] at hb
  have H := H.upd 0 rfl hb he (.inr (by omega))
  refine (c_low (H.get 0 rfl) (by omega) hs _).mono ?_
  rw [tkR_go (way_go (way_go (.inl rfl))) (by omega) (by omega)]
  rintro v5 f5 u5 ⟨rfl, rfl, hb, he⟩
  simp only [Nat.zero_add] at hb
  have H := H.upd 0 rfl hb he (.inr (by omega))
  refine (c_low (H.get 2 rfl) (by omega) hs _).mono ?_
  rw [tkR_go (way_go (.inl rfl)) (by omega) (by omega)]
  rintro v6 f6 u6 ⟨rfl, rfl, hb, he⟩
  simp only [Nat.zero_add] at hb
  have H := H.upd 2 rfl hb he (.inr (by omega))
  refine (c_high (H.get 1 rfl) (by omega) hs _).mono ?_
  rw [tkR_go (way_go (.inl rfl)) (by omega) (by omega)]
  rintro v7 f7 u7 ⟨rfl, rfl, hb, he⟩
  simp only [Nat.zero_add] at hb
  have H := H.upd 1 rfl hb he (.inr (by omega))
  refine (c_high (H.get 1 rfl) (by omega) hs _).mono ?_
  rw [tkR_go (way_go (way_go (.inl rfl))) (by omega) (by omega)]
  rintro v8 f8 u8 ⟨rfl, rfl, hb, he⟩
  simp only [Nat.zero_add] at hb
  have H := H.upd 1 rfl hb he (.inr (by omega))
  refine (c_high (H.get 3 rfl) (by omega) hs _).mono ?_
  rw [tkR_go (way_go (.inl rfl)) (by omega) (by omega)]
  rintro v9 f9 u9 ⟨rfl, rfl, hb, he⟩
  simp only [Nat.zero_add] at hb
  have H := H.upd 3 rfl hb he (.inr (by omega))
  have q1 := tk_low s k a b
  have q2 := tk_high s k a b
  have t1 := tk_bd s 1 k (a + b)
  have t2 := tk_bd s 1 (k + a) b
  have t3 := tk_bd s 1 k a
  have t4 := tk_bd s 2 k (a + b)
  have t5 := tk_bd s 2 (k + a) b
  have t6 := tk_bd s 2 k a
  have h24 := two_pow_24 (show a + b ≤ 24 by omega)
  have m1 : 0 ≤ tk s 1 (k + a) b * 2 ^ a := Int.mul_nonneg t2.1 (Int.le_of_lt (two_pow_pos a))
  have m2 : 0 ≤ tk s 2 k a * 2 ^ b := Int.mul_nonneg t6.1 (Int.le_of_lt (two_pow_pos b))
  simp only [Nat.zero_add]
  rw [Int.toNat_natCast, Int.toNat_natCast, Nat.min_eq_left (show a ≤ 64 by omega), Nat.min_eq_left (show b ≤ 64 by omega)]
  rw [i64_id (n := tk s 1 (k + a) b * 2 ^ a) (by omega), i64_id (n := tk s 2 k a * 2 ^ b) (by omega), i64_id (by omega), i64_id (by omega), ← q1, ← q2]
  refine Br_of (fun _ => ?_) fun h => by cases h
  refine Br_of (fun _ => ?_) fun h => by cases h
  refine ⟨by omega, Lt.of (Br_of (fun _ => ?_) fun h => by simp at h)⟩
  refine ⟨by omega, Lt.of (Br_of (fun _ => ?_) fun h => by simp at h)⟩
  exact liv _ H.ext
end Bit
end Go.Proofs.Ytahdpfjikmechaa
