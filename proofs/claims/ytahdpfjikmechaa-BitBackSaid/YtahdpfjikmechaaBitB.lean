/- BitReads and BitNone, over the formulas of the code. Condition: the list of calls can be read. -/
import Derived.Test.YtahdpfjikmechaaBitA
namespace Go.Proofs.Ytahdpfjikmechaa
namespace Bit
open Sh
set_option linter.unusedVariables false
set_option linter.unusedSimpArgs false

theorem liv {w w2 : World} (he : Ext (fun _ => False) w w2) : C15 w2 fun r w1 => r = true ∧ Ext (fun _ => False) w w1 :=
  (lives w2).mono fun r w3 ⟨h1, h2⟩ => ⟨h1, he.tr h2⟩
theorem bne_self (x : Int) : (x != x) = false := by simp
theorem str_self (x : ByteArray) : (!(x.toList == x.toList)) = false := by simp

/-- The two readers side by side. -/
def Pair (w0 w : World) (b c : Nat) (s : ByteArray) (p : Nat) (way : Int) : Prop :=
  Hx w0 (fun _ => False) w [(b, #[.int .i64 way, .int .i64 ((p % 8 : Nat) : Int), .string s, .int .i64 ((p / 8 : Nat) : Int)], 95), (c, #[.string s, .int .i64 (p : Int), .int .i64 way], 105)] ∧
    w0.heap.size ≤ b ∧ w0.heap.size ≤ c ∧ p ≤ 8 * s.size
theorem Pair.step {w0 w w1 w2 : World} {b c : Nat} {s : ByteArray} {p p' : Nat} {way way' : Int} (h : Pair w0 w b c s p way) (h1 : RdB w1 b s p' way') (e1 : Ext (· = b) w w1)
    (h2 : ∀ hr : RdR w1 c s p way, RdR w2 c s p' way' ∧ Ext (· = c) w1 w2) (hp : p' ≤ 8 * s.size) : Pair w0 w2 b c s p' way' := by
  have H := h.1.upd 0 rfl h1 e1 (.inr h.2.1)
  obtain ⟨h3, e3⟩ := h2 (H.get 1 rfl)
  exact ⟨H.upd 1 rfl h3 e3 (.inr h.2.2.1), h.2.1, h.2.2.1, hp⟩
theorem Pair.mid {w0 w w1 : World} {b c : Nat} {s : ByteArray} {p p' : Nat} {way way' : Int} (h : Pair w0 w b c s p way) (h1 : RdB w1 b s p' way') (e1 : Ext (· = b) w w1) : RdR w1 c s p way :=
  (h.1.upd 0 rfl h1 e1 (.inr h.2.1)).get 1 rfl

theorem reads (w : World) (s : ByteArray) (l : Slc) (f : Nat → Ask) (ha : Asks w l f) : C5 s l w fun r w1 => r = true ∧ Ext (fun _ => False) w w1 := by
  refine T5 _ _ _ _ ?_
  unfold S5
  refine Br_of (fun _ => liv (Ext.refl _ _)) fun e => Br_of (fun _ => liv (Ext.refl _ _)) fun e2 => ?_
  have hs : s.size ≤ 1000000 := by
    have : ¬ (300 : Int) < (s.size : Int) := by simpa using e
    omega
  have hl : l.len ≤ 60 := by
    have : ¬ (60 : Int) < (l.len : Int) := by simpa using e2
    omega
  refine (c_from w s).mono ?_
  rintro r w1 ⟨rfl, hb, he⟩
  have H := ((Hx.start w (fun _ => False)).keep he).push hb (by simp)
  refine (r_from w1 s).mono ?_
  rintro r w2 ⟨rfl, hc, he2⟩
  have H := (H.keep he2).push hc H.fresh
  refine Br_of (fun h => by cases h) fun _ => ?_
  refine ⟨fun n i w3 => ∃ (j p : Nat) (way : Int), i = (j : Int) ∧ j ≤ l.len ∧ n = l.len - j ∧ Pair w w3 w.heap.size w1.heap.size s p way, l.len, ⟨0, 0, 0, rfl, by omega, by omega, H, Nat.le_refl _, he.size, by omega⟩, ?_⟩
  rintro n i w3 ⟨j, p, way, rfl, hj, rfl, hP⟩
  unfold S5L1
  refine Br_of (fun h => ?_) fun _ => liv hP.1.ext
  have hjl : j < l.len := by
    have : (j : Int) < (l.len : Int) := by simpa using h
    omega
  obtain ⟨a, hp, q1, q2, _, _⟩ := (ha.keep hP.1.ext) j hjl
  rw [hp]
  simp only [Int.toNat_natCast, add_add']
  refine ⟨by omega, by omega, Nn.of ⟨_, q2, Join.intro ⟨by omega, by omega, Nn.of ⟨_, by simpa using q1, ?_⟩⟩⟩⟩
  have fin : ∀ (w4 : World) (p' : Nat) (way' : Int), Pair w w4 w.heap.size w1.heap.size s p' way' →
      S5J1 (at0 w.heap.size) (at0 w1.heap.size) (j : Int) (fun s' w' => ∃ n', n' < l.len - j ∧ ∃ (j p : Nat) (way : Int), s' = (j : Int) ∧ j ≤ l.len ∧ n' = l.len - j ∧ Pair w w' w.heap.size w1.heap.size s p way)
        (fun r w1 => r = true ∧ Ext (fun _ => False) w w1) () w4 := fun w4 p' way' h4 => by
    unfold S5J1
    refine (c_at (h4.1.get 0 rfl) h4.2.2.2 hs).mono ?_
    rintro x w5 ⟨rfl, rfl⟩
    refine (r_at (h4.1.get 1 rfl) h4.2.2.2 hs).mono ?_
    rintro x w6 ⟨rfl, rfl⟩
    rw [bne_self, Br_false]
    refine (c_left (h4.1.get 0 rfl) h4.2.2.2 hs).mono ?_
    rintro x w7 ⟨rfl, rfl⟩
    refine (r_left (h4.1.drew.get 1 rfl) h4.2.2.2 hs).mono ?_
    rintro x w8 ⟨rfl, rfl⟩
    rw [bne_self, Br_false]
    exact ⟨l.len - (j + 1), by omega, j + 1, p', way', by rw [i64_id (by omega)]; rfl, by omega, rfl, h4.1.drew.drew, h4.2⟩
  have hb := hP.1.get 0 rfl
  have hc := hP.1.get 1 rfl
  have hle := hP.2.2.2
  refine Br_of (fun _ => ?_) fun _ => Br_of (fun _ => ?_) fun _ => Br_of (fun _ => ?_) fun _ => Br_of (fun _ => ?_) fun _ => fin _ _ _ hP
  · refine (c_low hb hle hs _).mono ?_
    rintro v e w4 ⟨rfl, rfl, h1, e1⟩
    refine (r_low (hP.mid h1 e1) hle hs _).mono ?_
    rintro v e w5 ⟨rfl, rfl, h2, e2⟩
    rw [bne_self, Br_false, bne_self, Br_false]
    exact fin _ _ _ (hP.step h1 e1 (fun _ => ⟨h2, e2⟩) (tkR_le hle))
  · refine (c_high hb hle hs _).mono ?_
    rintro v e w4 ⟨rfl, rfl, h1, e1⟩
    refine (r_high (hP.mid h1 e1) hle hs _).mono ?_
    rintro v e w5 ⟨rfl, rfl, h2, e2⟩
    rw [bne_self, Br_false, bne_self, Br_false]
    exact fin _ _ _ (hP.step h1 e1 (fun _ => ⟨h2, e2⟩) (tkR_le hle))
  · refine (c_align hb hle hs).mono ?_
    rintro w4 ⟨h1, e1⟩
    refine (r_align (hP.mid h1 e1) hle hs).mono ?_
    rintro w5 ⟨h2, e2⟩
    exact fin _ _ _ (hP.step h1 e1 (fun _ => ⟨h2, e2⟩) (by omega))
  · refine (c_raw hb hle hs _).mono ?_
    rintro v e w4 ⟨rfl, rfl, h1, e1⟩
    refine (r_raw (hP.mid h1 e1) hle hs _).mono ?_
    rintro v e w5 ⟨rfl, rfl, h2, e2⟩
    rw [str_self, Br_false, bne_self, Br_false]
    exact fin _ _ _ (hP.step h1 e1 (fun _ => ⟨h2, e2⟩) (rawR_le hle))

theorem none_ (w : World) (n : Int) (s : ByteArray) : C7 n s w fun r w1 => r = true ∧ Ext (fun _ => False) w w1 := by
  refine T7 _ _ _ _ ?_
  unfold S7
  refine Br_of (fun _ => liv (Ext.refl _ _)) fun e => ?_
  refine T36 _ _ _ (Br_of (fun _ => ?_) fun h => by cases h)
  refine T25 _ _ _ (Br_of (fun h => by cases h) fun _ => ?_)
  refine T27 _ _ _ _ (Br_of (fun _ => ?_) fun h => by cases h)
  refine T17 _ _ _ _ (T83 _ _ _ _ _ (Br_of (fun _ => ?_) fun h => by cases h))
  refine T18 _ _ _ _ (T83 _ _ _ _ _ (Br_of (fun _ => ?_) fun h => by cases h))
  refine T38 _ _ _ _ (Br_of (fun _ => ?_) fun h => by cases h)
  refine Br_of (fun _ => ?_) fun h => by cases h
  refine Br_of (fun _ => ?_) fun h => by cases h
  refine Br_of (fun _ => ?_) fun h => by cases h
  refine Br_of (fun _ => ?_) fun h => by cases h
  refine Br_of (fun _ => ?_) fun h => by simp at h
  refine Br_of (fun _ => ?_) fun h => by cases h
  refine T40 _ _ _ (Br_of (fun _ => ?_) fun h => by cases h)
  refine Br_of (fun _ => ?_) fun h => by cases h
  refine T42 _ _ _ (Br_of (fun _ => ?_) fun h => by cases h)
  refine Br_of (fun _ => ?_) fun h => by cases h
  refine T21 _ _ _ _ _ (T84 _ _ _ _ _ _ (Br_of (fun _ => ?_) fun h => by cases h))
  refine Br_of (fun _ => ?_) fun h => by cases h
  refine T23 _ _ _ _ _ (T84 _ _ _ _ _ _ (Br_of (fun _ => ?_) fun h => by cases h))
  refine Br_of (fun _ => ?_) fun h => by cases h
  refine T29 _ _ _ (Br_of (fun _ => ?_) fun h => by cases h)
  refine Br_of (fun _ => ?_) fun h => by cases h
  refine T31 _ _ _ (Br_of (fun _ => ?_) fun h => by cases h)
  refine Br_of (fun _ => ?_) fun h => by simp at h
  exact liv (Ext.refl _ _)
end Bit
end Go.Proofs.Ytahdpfjikmechaa
