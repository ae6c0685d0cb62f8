/- Numbers read from text: Read gives back what Text wrote. Condition: the number is in range. -/
import Derived.Test.YtpkadliieplblaaDoorTkC
namespace Go.Proofs.YtpkadliieplblaaDoor
namespace Tk
open Sh Fix Go.Lib
set_option linter.unusedVariables false
set_option linter.unusedSimpArgs false
set_option maxRecDepth 8000
set_option maxHeartbeats 4000000
theorem dig_lt {l : By} (h : allDig l) : ∀ c ∈ l, c.toNat < 128 := fun c hc => by
  have := (h c hc).2
  omega
theorem dig_46 {l : By} (h : allDig l) : ∀ c ∈ l, c ≠ 46 := fun c hc e => by
  have := (h c hc).1
  rw [e] at this
  exact absurd this (by decide)
section
variable {w v w1 vw2 vw49 vw70 : World} {s t r23 : ByteArray} {n : Int} {W P : By}
attribute [local irreducible] Ld Sh.St Nw Nn Lt LdS
theorem rd_L1 (hn : inW n = true) (hW : dval W = n.natAbs / 10000) (hp : allDig P) (hp4 : P.length = 4) (hpv : dval P = n.natAbs % 10000) (hr : bl r23 = frF P) (h : RS w vw70 w.heap.size vw2.heap.size (dval W : Int) 0) (hsz : w.heap.size < vw70.heap.size ∧ vw2.heap.size < vw70.heap.size) :
    Nw vw70 (.stringIter ((r23 ++ (⟨#[48, 48, 48, 48, 48]⟩ : ByteArray)).extract 0 (((4 : Int)).toNat)) 0) fun vw94 =>
      Lp (σ := Unit) (S76L1 w vw2 (decide (n < 0)) r23 vw70 fun r e w1 => r = n ∧ e = 0 ∧ Ext (fun _ => False) w w1) () vw94 := by
  obtain ⟨f1, f2, f3, f4, f5⟩ := fr_fill hp hp4
  have hb : bl (r23 ++ (⟨#[48, 48, 48, 48, 48]⟩ : ByteArray)) = frF P ++ zer5 := by rw [bl_app, hr]; rfl
  have hx : bl ((r23 ++ (⟨#[48, 48, 48, 48, 48]⟩ : ByteArray)).extract 0 (((4 : Int)).toNat)) = P := by
    rw [bl_ext, hb]
    exact f1
  have hsz2 : (r23 ++ (⟨#[48, 48, 48, 48, 48]⟩ : ByteArray)).size = (frF P).length + 5 := by rw [← bl_size, hb, List.length_append]; rfl
  have mx : IntKind.i64.max = 9223372036854775807 := by decide
  generalize hS : (r23 ++ (⟨#[48, 48, 48, 48, 48]⟩ : ByteArray)).extract 0 (((4 : Int)).toNat) = S at hx
  have hS4 : S.size = 4 := by rw [← bl_size, hx, hp4]
  refine Nw.of ?_
  have e0 := (Ext.refl (fun _ => False) vw70).alloc (.stringIter S 0)
  refine ⟨fun c st v => ∃ i : Nat, v.heap[vw70.heap.size]? = some (.stringIter S i) ∧ i ≤ 4 ∧ c = 4 - i ∧ RS w v w.heap.size vw2.heap.size ((dval W * 10 ^ i + dval (P.take i) : Nat) : Int) 0, 4, ⟨0, by unfold World.alloc; simp, by omega, rfl, by simpa [dval] using h.keep e0⟩, ?_⟩
  rintro c st v ⟨i, hit, hi, rfl, hR⟩
  unfold S76L1
  have hbi : vw70.heap.size < v.heap.size := (Array.getElem?_eq_some_iff.1 hit).1
  refine nx_asc hit (by rw [hx]; exact dig_lt hp) (by omega) (fun c hc => ?_) fun hend => ?_
  · rw [hx] at hc
    have hi4 : i < 4 := by
      have := (List.getElem?_eq_some_iff.1 hc).1
      omega
    have hdc := hp c (List.mem_of_getElem? hc)
    have e1 := itW_ext v vw70.heap.size S (i + 1)
    have hit1 := itW_at (s := S) (p := i + 1) hbi
    have R1 := hR.other e1 (by omega) (by omega) (by have := h.ext.size; omega)
    have hbd : dval W * 10 ^ i + dval (P.take i) ≤ 1000000000 := by
      have a1 : dval W * 10 ^ i ≤ dval W * 10 ^ 3 := Nat.mul_le_mul_left _ (Nat.pow_le_pow_right (by decide) (by omega))
      have a2 := @dval_take_le P i
      have := inW_spec.1 hn
      omega
    refine Ld.of R1.n rfl ?_
    rw [dig_step (by omega) (by omega) hdc]
    refine Lt.of (R1.stn _ fun v2 R2 e2 => ?_)
    refine ⟨4 - (i + 1), by omega, i + 1, ?_, by omega, rfl, ?_⟩
    · exact it_keep (p := (S, i + 1)) hit1 e2 (by show ¬ vw70.heap.size = w.heap.size; omega)
    · have ev : (10 * ((dval W * 10 ^ i + dval (P.take i) : Nat) : Int) + ((c.toNat - 48 : Nat) : Int)) = ((dval W * 10 ^ (i + 1) + dval (P.take (i + 1)) : Nat) : Int) := by
        rw [dval_take hc, Nat.pow_succ]
        have : dval W * (10 ^ i * 10) = 10 * (dval W * 10 ^ i) := by rw [Nat.mul_comm (10 ^ i), ← Nat.mul_assoc, Nat.mul_comm (dval W), Nat.mul_assoc]
        omega
      rw [ev] at R2
      exact R2
  · have hi4 : i = 4 := by omega
    subst hi4
    rw [List.take_of_length_le (by omega)] at hR
    have hv : dval W * 10 ^ 4 + dval P = n.natAbs := by rw [hW, hpv]; omega
    rw [hv] at hR
    rw [hsz2]
    refine ⟨by decide, by omega, Lt.of ?_⟩
    refine (c_trim0 _ (by
      rw [← bl_size, bl_ext, hb, List.length_take, List.length_drop, List.length_append]
      show min _ (_ + 5 - _) ≤ _
      omega) v).mono ?_
    rintro r v1 ⟨hr1, e1⟩
    have R1 := hR.keep e1
    have hr0 : bl r = [] := by
      rw [hr1, bl_ext, hb]
      have : List.take ((frF P).length + 5 - Int.toNat 4) (List.drop (Int.toNat 4) (frF P ++ zer5)) = (frF P ++ zer5).drop 4 := List.take_of_length_le (by
        rw [List.length_drop, List.length_append]
        show _ + 5 - 4 ≤ _ + 5 - 4
        omega)
      rw [this]
      exact f2
    have hre : r = ⟨#[]⟩ := bl_inj hr0
    subst hre
    have b1 : Op.bytesLess ((⟨#[]⟩ : ByteArray).toList) ((⟨#[53]⟩ : ByteArray).toList) = true := by rw [ByteArray.toList_eq, ByteArray.toList_eq]; decide
    rw [b1]
    have J := rd_J1 hn R1
    refine Join.intro (Br_of (fun _ => Lt.of (Br.f rfl ?_)) fun _ => ?_)
    · exact Br_of (fun _ => Br.f rfl J) fun _ => J
    · exact Br_of (fun _ => Br.f rfl J) fun _ => J
theorem rd_L2 (hn : inW n = true) (hw : allDig W) (hw6 : W.length ≤ 6) (hW : dval W = n.natAbs / 10000) (hp : allDig P) (hp4 : P.length = 4) (hpv : dval P = n.natAbs % 10000) {r22 : ByteArray} (hr2 : bl r22 = W) (hr : bl r23 = frF P) (h : RS w vw49 w.heap.size vw2.heap.size 0 0)
    (hsz : w.heap.size < vw49.heap.size ∧ vw2.heap.size < vw49.heap.size) :
    Nw vw49 (.stringIter r22 0) fun vw68 => Lp (σ := Unit) (S76L2 w vw2 (decide (n < 0)) r23 vw49 fun r e w1 => r = n ∧ e = 0 ∧ Ext (fun _ => False) w w1) () vw68 := by
  obtain ⟨f1, f2, f3, f4, f5⟩ := fr_fill hp hp4
  have hs : r22.size = W.length := by rw [← bl_size, hr2]
  have hs3 : r23.size = (frF P).length := by rw [← bl_size, hr]
  have mx : IntKind.i64.max = 9223372036854775807 := by decide
  have hw2 := inW_spec.1 hn
  refine Nw.of ?_
  have e0 := (Ext.refl (fun _ => False) vw49).alloc (.stringIter r22 0)
  refine ⟨fun c st v => ∃ i : Nat, v.heap[vw49.heap.size]? = some (.stringIter r22 i) ∧ i ≤ W.length ∧ c = W.length - i ∧ RS w v w.heap.size vw2.heap.size ((dval (W.take i) : Nat) : Int) 0, W.length, ⟨0, by unfold World.alloc; simp, by omega, rfl, h.keep e0⟩, ?_⟩
  rintro c st v ⟨i, hit, hi, rfl, hR⟩
  unfold S76L2
  have hbi : vw49.heap.size < v.heap.size := (Array.getElem?_eq_some_iff.1 hit).1
  refine nx_asc hit (by rw [hr2]; exact dig_lt hw) (by omega) (fun c hc => ?_) fun hend => ?_
  · rw [hr2] at hc
    have hiW := (List.getElem?_eq_some_iff.1 hc).1
    have hdc := hw c (List.mem_of_getElem? hc)
    have e1 := itW_ext v vw49.heap.size r22 (i + 1)
    have hit1 := itW_at (s := r22) (p := i + 1) hbi
    have R1 := hR.other e1 (by omega) (by omega) (by have := h.ext.size; omega)
    have a2 := @dval_take_le W i
    have a3 := @dval_take_le W (i + 1)
    refine Ld.of R1.n rfl ?_
    rw [dig_step (by omega) (by omega) hdc]
    have ev : (10 * ((dval (W.take i) : Nat) : Int) + ((c.toNat - 48 : Nat) : Int)) = ((dval (W.take (i + 1)) : Nat) : Int) := by
      rw [dval_take hc]
      omega
    rw [ev]
    refine Lt.of (R1.stn _ fun v2 R2 e2 => Ld.of R2.n rfl (Br.dec (fun q => by omega) fun _ => ?_))
    exact ⟨W.length - (i + 1), by omega, i + 1, it_keep (p := (r22, i + 1)) hit1 e2 (by show ¬ vw49.heap.size = w.heap.size; omega), by omega, rfl, R2⟩
  · have hiW : i = W.length := by omega
    subst hiW
    rw [List.take_length] at hR
    have hsz2 : (r23 ++ (⟨#[48, 48, 48, 48, 48]⟩ : ByteArray)).size = (frF P).length + 5 := by rw [← bl_size, bl_app, List.length_append, hr]; rfl
    rw [hsz2, hs3]
    have z5 : (⟨#[48, 48, 48, 48, 48]⟩ : ByteArray).size = 5 := rfl
    rw [z5]
    exact ⟨by omega, by decide, by omega, rd_L1 hn hW hp hp4 hpv hr hR ⟨by omega, by omega⟩⟩
theorem rd_J2 (h : TkText n (bl t) W P) (hn : inW n = true) (hs : bl s = W ++ 46 :: frF P) (hR : RS w v w.heap.size vw2.heap.size 0 0) (hsz : w.heap.size < v.heap.size ∧ vw2.heap.size < v.heap.size) :
    S76J2 w vw2 (decide (n < 0)) (fun r e w1 => r = n ∧ e = 0 ∧ Ext (fun _ => False) w w1) s v := by
  unfold S76J2
  obtain ⟨f1, f2, f3, f4, f5⟩ := fr_fill h.p h.p4
  have mx : IntKind.i64.max = 9223372036854775807 := by decide
  have w6 := h.w6
  have w1 := h.w1
  have hsl : s.size = W.length + 1 + (frF P).length := by rw [← bl_size, hs, List.length_append, List.length_cons]; omega
  refine (c_cut hs (dig_46 h.w) (by omega) v).mono ?_
  rintro r22 r23 r24 v1 ⟨h1, h2, rfl, e1⟩
  have l1 : r22.size = W.length := by rw [← bl_size, h1]
  have l2 : r23.size = (frF P).length := by rw [← bl_size, h2]
  have R1 := hR.keep e1
  refine ⟨by rw [l1, l2]; omega, ?_⟩
  rw [eqL]
  refine Br.dec (fun q => ?_) fun _ => ?_
  · have q : bl (r22 ++ r23) = [] := q
    rw [bl_app, h1] at q
    have := congrArg List.length q
    rw [List.length_append, List.length_nil] at this
    omega
  refine (c_digs (by rw [l1]; omega) v1).mono ?_
  rintro r v2 ⟨rfl, e2⟩
  rw [h1, decide_eq_true (trim_dig h.w)]
  refine Br.f rfl ((c_digs (by rw [l2]; omega) v2).mono ?_)
  rintro r v3 ⟨rfl, e3⟩
  rw [h2, decide_eq_true (trim_dig f3)]
  have E := (e1.tr e2).tr e3
  have := E.size
  exact Br.f rfl (rd_L2 hn h.w h.w6 h.wv h.p h.p4 h.pv h1 h2 ((R1.keep e2).keep e3) ⟨by omega, by omega⟩)
theorem c_read (h : TkText n (bl t) W P) (hn : inW n = true) (w : World) : C76 t w fun r e w1 => r = n ∧ e = 0 ∧ Ext (fun _ => False) w w1 := by
  refine T76 _ _ _ ?_
  unfold S76
  obtain ⟨f1, f2, f3, f4, f5⟩ := fr_fill h.p h.p4
  have w6 := h.w6
  have w1 := h.w1
  have ht := h.t
  have hlen : t.size = (if n < 0 then 1 else 0) + (W.length + 1 + (frF P).length) := by
    rw [← bl_size, ht, List.length_append, List.length_append, List.length_cons]
    split <;> simp <;> omega
  have hlen2 : t.size ≤ 12 := by
    rw [hlen]
    split <;> omega
  refine (Hn.start w).nw (cs := [.int .i64 0]) fun w2 H => ?_
  have l12 : w.heap.size < w2.heap.size := H.lt 0 rfl
  refine H.nw (cs := [.int .i64 0]) fun w3 H => ?_
  have l13 : w.heap.size < w3.heap.size := H.lt 0 rfl
  have l23 : w2.heap.size < w3.heap.size := H.lt 1 rfl
  have R : RS w w3 w.heap.size w2.heap.size 0 0 := ⟨H.get 0 rfl, H.get 1 rfl, by omega, by omega, by omega, H.ext⟩
  refine Br.dec (fun q => by omega) fun _ => ?_
  refine (c_pre t _ w3).mono ?_
  rintro r v1 ⟨rfl, rfl⟩
  have hd : ∀ c ∈ W.head?, isDig c := fun c hc => h.w c (List.mem_of_mem_head? hc)
  obtain ⟨c0, W', hW'⟩ : ∃ c0 W', W = c0 :: W' := by
    cases W with
    | nil => simp at w1
    | cons c0 W' => exact ⟨c0, W', rfl⟩
  have hc0 := h.w c0 (by rw [hW']; exact List.mem_cons_self ..)
  have p1 : hasPrefix (bl t) (bl (⟨#[45]⟩ : ByteArray)) = decide (n < 0) := by
    rw [ht]
    show List.isPrefixOf [45] _ = _
    by_cases hneg : n < 0
    · rw [if_pos hneg, decide_eq_true hneg]
      rfl
    · rw [if_neg hneg, decide_eq_false hneg, hW']
      have : ((45 : UInt8) == c0) = false := by
        rw [beq_eq_false_iff_ne]
        intro e
        rw [← e] at hc0
        exact absurd hc0.1 (by decide)
      simp [List.isPrefixOf, this]
  rw [p1]
  refine Join.intro (Br.dec (fun hneg => ?_) fun hpos => ?_)
  · rw [if_pos hneg] at hlen ht
    refine ⟨by decide, by omega, rd_J2 h hn ?_ R ⟨l13, l23⟩⟩
    rw [bl_ext, ht]
    exact List.take_of_length_le (by simp; omega)
  · rw [if_neg hpos] at hlen ht
    refine (c_pre t _ _).mono ?_
    rintro r v1 ⟨rfl, rfl⟩
    have p2 : hasPrefix (bl t) (bl (⟨#[43]⟩ : ByteArray)) = false := by
      rw [ht, hW']
      show List.isPrefixOf [43] _ = _
      have : ((43 : UInt8) == c0) = false := by
        rw [beq_eq_false_iff_ne]
        intro e
        rw [← e] at hc0
        exact absurd hc0.1 (by decide)
      simp [List.isPrefixOf, this]
    rw [p2]
    exact Br.f rfl (rd_J2 h hn ht R ⟨l13, l23⟩)
end
end Tk
end Go.Proofs.YtpkadliieplblaaDoor
