/- Hints: eye.read. Conditions: sizes. -/
import Derived.Test.YtjlaijhmnlkpiaaHiR
namespace Go.Proofs.Ytjlaijhmnlkpiaa
namespace Hint
open Sh Bit
set_option linter.unusedVariables false
set_option linter.unusedSimpArgs false
set_option maxRecDepth 4000
set_option maxHeartbeats 2000000
def v3 (f : Nat → Int) (c : Nat) : List Value := [.int .i64 (if 0 < c then f 0 else 0), .int .i64 (if 1 < c then f 1 else 0), .int .i64 (if 2 < c then f 2 else 0)]
theorem v3_set {f : Nat → Int} {c : Nat} (hc : c < 3) : (v3 f c).set c (.int .i64 (f c)) = v3 f (c + 1) := by
  have h : c = 0 ∨ c = 1 ∨ c = 2 := by omega
  rcases h with rfl | rfl | rfl <;> rfl
theorem v3_get {f : Nat → Int} {c : Nat} (hc : c < 3) : (v3 f 3).toArray[c]? = some (.int .i64 (f c)) := by
  have h : c = 0 ∨ c = 1 ∨ c = 2 := by omega
  rcases h with rfl | rfl | rfl <;> rfl
theorem cellA_lit {g k c : Nat} (hc : c < 3) : cellA ((⟨g, 0, none⟩ : Addr).add (k * 3)) (c : Int) = ⟨g, k * 3 + c, none⟩ := by
  have h : c = 0 ∨ c = 1 ∨ c = 2 := by omega
  unfold cellA
  rcases h with rfl | rfl | rfl <;> simp [add_lit]
theorem add1 {g c : Nat} : (⟨g, 0, none⟩ : Addr).add ((c : Int).toNat * 1) = ⟨g, c, none⟩ := by rw [add_lit]; simp
theorem Good.most {s : ByteArray} {L : List Hi} (h : Good s L) (c : Int) {i : Nat} (hi' : i < L.length) : col (L.getD i (0, 0, 0)) c ≤ Hint.most c := by
  have h1 := h.1
  unfold whyH at h1
  split at h1
  · cases h1
  · split at h1
    · cases h1
    · split at h1
      · rename_i h2
        have := List.all_eq_true.1 h2 L[i] (List.getElem_mem hi')
        unfold okH at this
        have := of_decide_eq_true this
        rw [getD_eq hi']
        obtain ⟨⟨a1, a2⟩, ⟨a3, a4⟩, ⟨a5, a6⟩⟩ := this
        simp only [Hint.col, Hint.most] at a2 a4 a6 ⊢
        simp at a2 a4 a6
        split
        · omega
        · split <;> omega
      · cases h1
theorem Good.ll_most {s : ByteArray} {L : List Hi} (h : Good s L) (c : Int) : ll L c ≤ Hint.most c := by
  have h0 : 0 < L.length := by have := h.vd.n0; omega
  have h1 := (lo_bd (h.vd.col c) h.vd.n0 L.length (Nat.le_refl _)).2.2.2.2.2 0 h0
  have h2 := h.most c h0
  unfold ll
  omega
attribute [local irreducible] Ld St Nw Nn Lt LdS
section
variable {w0 w : World} {b : Nat} {s : ByteArray}
theorem HR.ext_of {L : List (Nat × List Value × TypeId)} {p : Nat} {w2 : World} (h : HR w0 w L b s p) (he : Ext (· = b) w w2) : Ext (fun _ => False) w0 w2 :=
  (h.hn.other he fun j hj => by subst hj; exact ⟨h.new, h.out⟩).ext
theorem c_eread (h : HR w0 w [] b s 0) (hs : s.size ≤ 1000000) :
    C80 (at0 b) w (fun l w1 => HV w1 l (dec s) ∧ (∀ j, l.own j → w0.heap.size ≤ j) ∧ Ext (fun _ => False) w0 w1) fun v w1 => v = gup ∧ (∀ L, ¬ Good s L) ∧ Ext (fun _ => False) w0 w1 := by
  refine T80 _ _ _ _ ?_
  unfold S80
  refine h.nw fun w2 h => ?_
  simp only [List.nil_append] at h
  refine h.hn.ld 0 rfl rfl ?_
  have htk := tk_bd s 2 0 32
  refine (c_eye (n := 32) h.rd hs (by omega) 2048).mono ?_ ?_
  rotate_left
  · rintro v w3 ⟨rfl, hbad, he⟩
    refine ⟨rfl, fun L hg => ?_, h.ext_of he⟩
    have h1 := hg.head
    have h2 := hg.gf.len
    have h3 := hg.vd.n1
    omega
  rintro v w3 ⟨rfl, hle, hr, he⟩
  have h := h.move he hr
  have hdn : tk s 2 0 32 = (dn s : Int) := by unfold dn; omega
  rw [hdn] at hle ⊢
  obtain ⟨w4, hrun, hw4⟩ := elHi.make (zs := hrow (0, 0, 0)) rfl w3 (dn s) (by omega) (by omega)
  refine ⟨_, w4, hrun, ?_⟩
  have e4 : Ext (fun _ => False) w3 w4 := by rw [hw4]; exact (Ext.refl _ _).alloc _
  have h := (h.keep e4).push (g := w3.heap.size) (cs := (List.replicate (dn s) (hrow (0, 0, 0))).flatten) (t := 70) (by rw [hw4]; exact Blk.new _ _ _) h.hn.size (fun hm => by have := h.hn.all_lt hm; omega) (by have := h.rd.lt; omega)
  rw [cellL_zero] at h
  refine h.nw fun w5 h => h.nw fun w6 h => ?_
  simp only [List.cons_append, List.nil_append] at h
  have hz : ∀ f : Nat → Int, [Value.int .i64 0, .int .i64 0, .int .i64 0] = v3 f 0 := fun f => rfl
  have h2 : HR w0 w6 [(w.heap.size, [.pointer (at0 b)], 113), (w3.heap.size, cellL s 0 0, 70), (w4.heap.size, v3 (dl s) 0, 138), (w5.heap.size, v3 (fun c => (dw s c : Int)) 0, 138)] b s 32 := h
  clear h
  refine ⟨fun n st w7 => ∃ c : Nat, st = (c : Int) ∧ c ≤ 3 ∧ n = 3 - c ∧ HR w0 w7 [(w.heap.size, [.pointer (at0 b)], 113), (w3.heap.size, cellL s 0 0, 70), (w4.heap.size, v3 (dl s) c, 138), (w5.heap.size, v3 (fun c => (dw s c : Int)) 0, 138)] b s (32 + 32 * c) ∧ ∀ j, j < c → dl s j ≤ 1048576, 3, ⟨0, rfl, by omega, rfl, h2, fun j hj => by omega⟩, ?_⟩
  rintro n st w7 ⟨c, rfl, hc, rfl, h, hdl⟩
  unfold S80L4
  refine Br.dec (fun e => ?_) fun e => ?_
  · have hc3 : c < 3 := by omega
    have hS : ∀ w8, Hn w0 w8 [(w.heap.size, [.pointer (at0 b)], 113), (w3.heap.size, cellL s 0 0, 70), (w4.heap.size, v3 (dl s) c, 138), (w5.heap.size, v3 (fun c => (dw s c : Int)) 0, 138)] → Blk w8 w.heap.size #[.pointer (at0 b)] 113 := fun w8 h => h.get 0 rfl
    have h := h.keep (Ext.refl _ _).drew
    refine ⟨fun w8 => Hn w0 w8 _, h.hn, LdS.of hS rfl ((c_most _ _).mono ?_)⟩
    rintro m _ ⟨rfl, rfl⟩
    refine ⟨h.hn, (c_eye (n := 32) h.rd hs (by omega) _).mono ?_ ?_⟩
    · rintro v w8 ⟨rfl, hle, hr, he⟩
      have h := h.move he hr
      refine ⟨by omega, by show (c : Int) < 3; omega, ?_⟩
      rw [add1]
      refine h.st 2 rfl (by simp [v3]; omega) fun w9 h => ?_
      simp only [List.set_cons_zero, List.set_cons_succ] at h
      rw [show tk s 2 (32 + 32 * c) 32 = dl s c from rfl, v3_set hc3] at h
      have hm : most (c : Int) ≤ 1048576 := by unfold most; split <;> omega
      refine ⟨3 - (c + 1), by omega, c + 1, by rw [i64_id (by omega)]; rfl, by omega, rfl, h, fun j hj => ?_⟩
      by_cases hjc : j = c
      · subst hjc; unfold dl; omega
      · exact hdl j (by omega)
    · rintro v w8 ⟨rfl, hbad, he⟩
      refine ⟨rfl, fun L hg => ?_, h.ext_of he⟩
      have h1 := hg.head
      have h2 := hg.dl hc3
      have h3 : ll L (c : Int) ≤ most (c : Int) := Good.ll_most hg _
      unfold dl at h2
      omega
  obtain rfl : c = 3 := by omega
  refine ⟨fun n st w7 => ∃ c : Nat, st = (c : Int) ∧ c ≤ 3 ∧ n = 3 - c ∧ HR w0 w7 [(w.heap.size, [.pointer (at0 b)], 113), (w3.heap.size, cellL s 0 0, 70), (w4.heap.size, v3 (dl s) 3, 138), (w5.heap.size, v3 (fun c => (dw s c : Int)) c, 138)] b s (128 + 16 * c) ∧ ∀ j, j < c → dw s j ≤ 24, 3, ⟨0, rfl, by omega, rfl, h, fun j hj => by omega⟩, ?_⟩
  rintro n st w7 ⟨c, rfl, hc, rfl, h, hdw⟩
  unfold S80L3
  refine Br.dec (fun e => ?_) fun e => ?_
  · have hc3 : c < 3 := by omega
    refine h.hn.ld 0 rfl rfl ?_
    refine (c_eye (n := 16) h.rd hs (by omega) _).mono ?_ ?_
    · rintro v w8 ⟨rfl, hle, hr, he⟩
      have h := h.move he hr
      refine ⟨by omega, by show (c : Int) < 3; omega, ?_⟩
      rw [add1]
      refine h.st 3 rfl (by simp [v3]; omega) fun w9 h => ?_
      simp only [List.set_cons_zero, List.set_cons_succ] at h
      have hb := tk_bd s 2 (128 + 16 * c) 16
      have e : tk s 2 (128 + 16 * c) 16 = (fun c => (dw s c : Int)) c := by show _ = (dw s c : Int); unfold dw; omega
      rw [e, v3_set hc3] at h
      refine ⟨3 - (c + 1), by omega, c + 1, by rw [i64_id (by omega)]; rfl, by omega, rfl, h, fun j hj => ?_⟩
      by_cases hjc : j = c
      · subst hjc; unfold dw; omega
      · exact hdw j (by omega)
    · rintro v w8 ⟨rfl, hbad, he⟩
      refine ⟨rfl, fun L hg => ?_, h.ext_of he⟩
      have h1 := hg.head
      have h2 := hg.gf.wid c hc3
      have h3 := hg.vd.wd (c : Int)
      omega
  obtain rfl : c = 3 := by omega
  refine ⟨fun n st w7 => ∃ c : Nat, st = (c : Int) ∧ c ≤ 3 ∧ n = 3 - c ∧ HR w0 w7 [(w.heap.size, [.pointer (at0 b)], 113), (w3.heap.size, cellL s c 0, 70), (w4.heap.size, v3 (dl s) 3, 138), (w5.heap.size, v3 (fun c => (dw s c : Int)) 3, 138)] b s (offS s c), 3, ⟨0, rfl, by omega, rfl, h⟩, ?_⟩
  rintro n st w7 ⟨c, rfl, hc, rfl, h⟩
  unfold S80L2
  refine Br.dec (fun e => ?_) fun e => ?_
  · have hc3 : c < 3 := by omega
    refine ⟨fun n st w7 => ∃ k : Nat, st = (k : Int) ∧ k ≤ dn s ∧ n = dn s - k ∧ HR w0 w7 [(w.heap.size, [.pointer (at0 b)], 113), (w3.heap.size, cellL s c k, 70), (w4.heap.size, v3 (dl s) 3, 138), (w5.heap.size, v3 (fun c => (dw s c : Int)) 3, 138)] b s (offS s c + k * dw s c), dn s, ⟨0, rfl, by omega, rfl, by rw [Nat.zero_mul]; exact h⟩, ?_⟩
    rintro n st w7 ⟨k, rfl, hk, rfl, h⟩
    unfold S80L1
    show Br (decide ((k : Int) < (dn s : Int))) _ _
    refine Br.dec (fun e2 => ?_) fun e2 => ?_
    · have hkn : k < dn s := by omega
      have h := h.keep (Ext.refl _ _).drew
      have hS0 : ∀ w8, Hn w0 w8 [(w.heap.size, [.pointer (at0 b)], 113), (w3.heap.size, cellL s c k, 70), (w4.heap.size, v3 (dl s) 3, 138), (w5.heap.size, v3 (fun c => (dw s c : Int)) 3, 138)] → Blk w8 w.heap.size #[.pointer (at0 b)] 113 := fun w8 h => h.get 0 rfl
      have hS2 : ∀ w8, Hn w0 w8 [(w.heap.size, [.pointer (at0 b)], 113), (w3.heap.size, cellL s c k, 70), (w4.heap.size, v3 (dl s) 3, 138), (w5.heap.size, v3 (fun c => (dw s c : Int)) 3, 138)] → Blk w8 w4.heap.size (v3 (dl s) 3).toArray 138 := fun w8 h => h.get 2 rfl
      have hS3 : ∀ w8, Hn w0 w8 [(w.heap.size, [.pointer (at0 b)], 113), (w3.heap.size, cellL s c k, 70), (w4.heap.size, v3 (dl s) 3, 138), (w5.heap.size, v3 (fun c => (dw s c : Int)) 3, 138)] → Blk w8 w5.heap.size (v3 (fun c => (dw s c : Int)) 3).toArray 138 := fun w8 h => h.get 3 rfl
      refine ⟨fun w8 => Hn w0 w8 _, h.hn, by omega, e2, Nn.of ⟨by omega, by show (c : Int) < 3; omega, ?_⟩⟩
      rw [add1]
      refine LdS.of hS2 (v3_get hc3) (LdS.of hS0 rfl ⟨by omega, by show (c : Int) < 3; omega, ?_⟩)
      rw [add1]
      refine LdS.of hS3 (v3_get hc3) ((c_cell _ _ _).mono ?_)
      rintro r _ ⟨rfl, rfl⟩
      refine ⟨h.hn, (c_most _ _).mono ?_⟩
      rintro m _ ⟨rfl, rfl⟩
      refine ⟨h.hn, (c_eye (n := dw s c) h.rd hs (by have := hdw c hc3; omega) _).mono ?_ ?_⟩
      · rintro v w8 ⟨rfl, hle, hr, he⟩
        have h := h.move he hr
        refine ⟨h.hn, Nn.of ?_⟩
        rw [Int.toNat_natCast, cellA_lit hc3]
        have hm : most (c : Int) ≤ 1048576 := by unfold most; split <;> omega
        have hd := hdl c hc3
        have hd2 : 0 ≤ dl s c := (tk_bd s 2 (32 + 32 * c) 32).1
        have hb := tk_bd s 2 (offS s c + k * dw s c) (dw s c)
        rw [i64_id (by omega)]
        refine h.st 1 rfl (by rw [cellL_len]; omega) fun w9 h => ?_
        simp only [List.set_cons_zero, List.set_cons_succ] at h
        rw [show dl s c + tk s 2 (offS s c + k * dw s c) (dw s c) = vl s c k from rfl, cellL_set hc3 hkn] at h
        refine ⟨dn s - (k + 1), by omega, k + 1, by rw [i64_id (by omega)]; rfl, by omega, rfl, ?_⟩
        rw [Nat.add_mul, Nat.one_mul, ← Nat.add_assoc]
        exact h
      · rintro v w8 ⟨rfl, hbad, he⟩
        refine ⟨rfl, fun L hg => ?_, h.ext_of he⟩
        have hkl : k < L.length := by rw [← hg.dn]; exact hkn
        have h1 := hg.fits hc3 hkl
        have h2 := hg.vl hc3 hkl
        have h3 := hg.most (c : Int) hkl
        have h4 := hg.dl hc3
        have h5 := hg.vd.ll (c : Int)
        unfold vl at h2
        omega
    · obtain rfl : k = dn s := by omega
      refine h.hn.ld 0 rfl rfl ?_
      obtain ⟨hp, way, hway, hrd⟩ := h.rd
      refine (c_align hrd hp hs).mono ?_
      rintro w8 ⟨hrd2, he⟩
      have h := h.move (p' := (offS s c + dn s * dw s c + 7) / 8 * 8) he ⟨by omega, 0, .inl rfl, hrd2⟩
      rw [cellL_next] at h
      exact ⟨3 - (c + 1), by omega, c + 1, by rw [i64_id (by omega)]; rfl, by omega, rfl, h⟩
  · obtain rfl : c = 3 := by omega
    refine ⟨⟨(dec_len s).symm, ?_⟩, fun j ⟨a, ha, hj⟩ => by cases ha; subst hj; exact h.hn.ge 1 rfl, h.hn.ext⟩
    have hb := h.hn.get 1 rfl
    rw [cellL_dec]
    exact VRow.of hb (by rw [cellL_len])
end
end Hint
end Go.Proofs.Ytjlaijhmnlkpiaa
