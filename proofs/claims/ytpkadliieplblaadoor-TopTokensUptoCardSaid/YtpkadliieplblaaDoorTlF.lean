/- The lexer: an integer, the word obj. Conditions: sizes. -/
import Derived.Test.YtpkadliieplblaaDoorTlE
namespace Go.Proofs.YtpkadliieplblaaDoor
namespace Tl
open Sh Fix Tk Bui Go.Lib
set_option linter.unusedVariables false
set_option linter.unusedSimpArgs false
set_option maxRecDepth 8000
set_option maxHeartbeats 4000000
section
variable {w0 w : World} {s t : ByteArray}
attribute [local irreducible] Ld Sh.St Nw Nn Lt LdS
theorem c_cls_int {n : Int} {D : By} (h : IntT n (bl t) D) (w : World) : C74 t w fun r w1 => r = 1 ∧ Ext (fun _ => False) w w1 := by
  refine T74 _ _ _ ?_
  unfold S74
  have hl := h.len
  have d1 := h.d1
  have d21 := h.d21
  rw [bl_size] at hl
  refine (c_trimpm t w).mono ?_
  rintro r w2 ⟨hr, e2⟩
  rw [h.trim] at hr
  have hrl : r.size = D.length := by rw [← bl_size, hr]
  rw [hl, hrl]
  refine Br.dec (fun _ => ?_) fun q => absurd (by rw [i64_id] <;> split <;> omega) q
  rw [eqL]
  have hne : decide (r.data.toList = (⟨#[]⟩ : ByteArray).data.toList) = false := decide_eq_false fun q => by
    have q : bl r = [] := q
    rw [hr] at q
    rw [q] at d1
    simp at d1
  rw [hne]
  refine Br.t rfl ((c_trim10 r (by omega) w2).mono ?_)
  rintro r6 w3 ⟨h6, e3⟩
  rw [eqL]
  have he6 : decide (r6.data.toList = (⟨#[]⟩ : ByteArray).data.toList) = true := decide_eq_true (by
    show bl r6 = []
    rw [h6, hr, trim_dig h.d])
  rw [he6]
  exact Br.t rfl ⟨rfl, e2.tr e3⟩
theorem c_whole {n : Int} {D : By} (h : IntT n (bl t) D) (h1 : -2147483647 ≤ n) (h2 : n ≤ 2147483647) (w : World) : C75 t w fun r e w1 => r = n ∧ e = 0 ∧ Ext (fun _ => False) w w1 := by
  refine T75 _ _ _ ?_
  unfold S75
  have hl := h.len
  have d1 := h.d1
  have d21 := h.d21
  have hv := h.dv
  rw [bl_size] at hl
  refine (c_trimpm t w).mono ?_
  rintro r w2 ⟨hr, e2⟩
  rw [h.trim] at hr
  have hrl : r.size = D.length := by rw [← bl_size, hr]
  refine Nw.of ?_
  have e3 := (Ext.refl (fun _ => False) w2).alloc (.stringIter r 0)
  refine ⟨fun c st v => ∃ i : Nat, v.heap[w2.heap.size]? = some (.stringIter r i) ∧ i ≤ D.length ∧ c = D.length - i ∧ st = ((dval (D.take i) : Nat) : Int) ∧ Ext (fun _ => False) w v, D.length, ⟨0, by unfold World.alloc; simp, by omega, rfl, by simp [dval], e2.tr e3⟩, ?_⟩
  rintro c st v ⟨i, hit, hi, rfl, rfl, hE⟩
  unfold S75L1
  have hbi : w2.heap.size < v.heap.size := (Array.getElem?_eq_some_iff.1 hit).1
  refine nx_asc hit (by rw [hr]; exact dig_lt h.d) (by omega) (fun c hc => ?_) fun hend => ?_
  · rw [hr] at hc
    have hiD := (List.getElem?_eq_some_iff.1 hc).1
    have hdc := h.d c (List.mem_of_getElem? hc)
    have a2 := @dval_take_le D i
    have a3 := @dval_take_le D (i + 1)
    rw [dig_step (by omega) (by omega) hdc]
    have ev : (10 * ((dval (D.take i) : Nat) : Int) + ((c.toNat - 48 : Nat) : Int)) = ((dval (D.take (i + 1)) : Nat) : Int) := by
      rw [dval_take hc]
      omega
    rw [ev]
    refine Lt.of ⟨D.length - (i + 1), by omega, i + 1, itW_at (s := r) (p := i + 1) hbi, by omega, rfl, ?_, ?_⟩
    · rw [if_neg (by omega)]
    · exact Ext.new' hE (itW_ext v w2.heap.size r (i + 1)) fun j hj => by have := e2.size; have hj : j = _ := hj; omega
  · have hiD : i = D.length := by omega
    subst hiD
    rw [List.take_length, hv]
    refine Br.dec (fun q => absurd q (by omega)) fun _ => ⟨by decide, by split at hl <;> omega, ?_⟩
    by_cases hn : n < 0
    · have h0 : (bl t)[0]? = some 45 := by rw [h.t, if_pos hn]; rfl
      have hb0 : bAt t 0 = ((45 : UInt8).toNat : Int) := bAt_bl (i := 0) h0
      rw [hb0]
      refine Br.t rfl ⟨?_, rfl, hE⟩
      rw [i64_id (by omega)]
      omega
    · obtain ⟨c0, D', hD⟩ : ∃ c0 D', D = c0 :: D' := by
        cases D with
        | nil => simp at d1
        | cons c0 D' => exact ⟨c0, D', rfl⟩
      have h0 : (bl t)[0]? = some c0 := by rw [h.t, if_neg hn, hD]; rfl
      have hb0 : bAt t 0 = (c0.toNat : Int) := bAt_bl (i := 0) h0
      have hd0 := h.d c0 (by rw [hD]; exact List.mem_cons_self ..)
      have hd1 := hd0.1
      rw [hb0]
      refine Br.eq (fun q => absurd q (by omega)) fun _ => ⟨by omega, rfl, hE⟩
theorem c_word_int {n : Int} {D T rest : By} {b : Nat} (h : IntT n T D) (h1 : -2147483647 ≤ n) (h2 : n ≤ 2147483647) (hd : (bl s).drop b = T ++ rest) (hr : ∀ c, rest.head? = some c → regB c = false) (hb : b ≤ s.size) (hs : s.size ≤ 1099511627776) (w : World) :
    C52 (s, (b : Int)) w fun r e w1 => r = (1, (b : Int), ((b + T.length : Nat) : Int), n, ⟨#[]⟩) ∧ e = 0 ∧ Ext (fun _ => False) w w1 := by
  refine T52 (s, (b : Int)) _ _ ?_
  unfold S52
  refine (Hn.start w).nw (cs := [.string s, .int .i64 (b : Int)]) fun w2 H => ?_
  refine H.nw (cs := [.int .i64 0, .int .i64 0, .int .i64 0, .int .i64 0, .string ⟨#[]⟩]) fun w3 H => ?_
  simp only [List.cons_append, List.nil_append, add_lit, Nat.zero_add] at H ⊢
  iterate 3 refine H.ld 0 rfl rfl ?_
  refine (c_run s _ hb hs w3).mono ?_
  rintro r w4 ⟨hr4, e4⟩
  rw [hd, runL_app h.reg hr] at hr4
  subst hr4
  have H := H.keep e4
  have hTl : b + T.length ≤ s.size := by
    have := congrArg List.length hd
    rw [List.length_drop, List.length_append, bl_size] at this
    omega
  iterate 2 refine H.ld 0 rfl rfl ?_
  have hx : bl (s.extract ((b : Int)).toNat (((b + T.length : Nat) : Int)).toNat) = T := by
    rw [bl_ext, Int.toNat_natCast, Int.toNat_natCast, hd, show b + T.length - b = T.length by omega]
    simp
  refine ⟨by omega, by omega, by omega, by omega, ?_⟩
  rw [← hx] at h
  refine (c_cls_int h w4).mono ?_
  rintro r w5 ⟨rfl, e5⟩
  have H := H.keep e5
  refine Br.t rfl ((c_whole h h1 h2 w5).mono ?_)
  rintro r e w6 ⟨rfl, rfl, e6⟩
  have H := H.keep e6
  refine Br.f rfl (H.ld 0 rfl rfl ?_)
  iterate 5 (refine H.st 1 rfl (by simp) fun _ H => ?_; simp only [List.set_cons_zero, List.set_cons_succ] at H)
  iterate 5 refine H.ld 1 rfl rfl ?_
  exact ⟨rfl, by trivial, H.ext⟩
def objB : By := [111, 98, 106]
theorem c_cls_obj (ht : bl t = objB) (w : World) : C74 t w fun r w1 => r = 0 ∧ Ext (fun _ => False) w w1 := by
  refine T74 _ _ _ ?_
  unfold S74
  have hts : t.size = 3 := by rw [← bl_size, ht]; rfl
  refine (c_trimpm t w).mono ?_
  rintro r w2 ⟨hr, e2⟩
  rw [ht, show trimLeftS objB [43, 45] = objB from rfl] at hr
  have hrl : r.size = 3 := by rw [← bl_size, hr]; rfl
  rw [hts, hrl]
  refine Br.dec (fun _ => ?_) fun q => absurd (by decide) q
  rw [eqL]
  have hne : decide (r.data.toList = (⟨#[]⟩ : ByteArray).data.toList) = false := decide_eq_false fun q => by
    have q : bl r = [] := q
    rw [hr] at q
    cases q
  rw [hne]
  refine Br.t rfl ((c_trim10 r (by omega) w2).mono ?_)
  rintro r6 w3 ⟨h6, e3⟩
  rw [eqL]
  have hne6 : decide (r6.data.toList = (⟨#[]⟩ : ByteArray).data.toList) = false := decide_eq_false fun q => by
    have q : bl r6 = [] := q
    rw [h6, hr] at q
    exact absurd q (by decide)
  rw [hne6]
  refine Br.f rfl ((c_has1 t 46 w3).mono ?_)
  rintro r8 w4 ⟨rfl, rfl⟩
  rw [ht]
  exact Br.f rfl ⟨rfl, e2.tr e3⟩
theorem c_word_obj {rest : By} {b : Nat} (hd : (bl s).drop b = objB ++ rest) (hr : ∀ c, rest.head? = some c → regB c = false) (hb : b ≤ s.size) (hs : s.size ≤ 1099511627776) (w : World) :
    C52 (s, (b : Int)) w fun r e w1 => r = (5, (b : Int), ((b + 3 : Nat) : Int), 0, ba objB) ∧ e = 0 ∧ Ext (fun _ => False) w w1 := by
  refine T52 (s, (b : Int)) _ _ ?_
  unfold S52
  refine (Hn.start w).nw (cs := [.string s, .int .i64 (b : Int)]) fun w2 H => ?_
  refine H.nw (cs := [.int .i64 0, .int .i64 0, .int .i64 0, .int .i64 0, .string ⟨#[]⟩]) fun w3 H => ?_
  simp only [List.cons_append, List.nil_append, add_lit, Nat.zero_add] at H ⊢
  iterate 3 refine H.ld 0 rfl rfl ?_
  refine (c_run s _ hb hs w3).mono ?_
  rintro r w4 ⟨hr4, e4⟩
  rw [hd, runL_app (t := objB) (by decide) hr, show List.length objB = 3 from rfl] at hr4
  subst hr4
  have H := H.keep e4
  have hTl : b + 3 ≤ s.size := by
    have := congrArg List.length hd
    rw [List.length_drop, List.length_append, bl_size, show List.length objB = 3 from rfl] at this
    omega
  iterate 2 refine H.ld 0 rfl rfl ?_
  have hx : bl (s.extract ((b : Int)).toNat (((b + 3 : Nat) : Int)).toNat) = objB := by
    rw [bl_ext, Int.toNat_natCast, Int.toNat_natCast, hd, show b + 3 - b = 3 by omega]
    rfl
  have hxe : s.extract ((b : Int)).toNat (((b + 3 : Nat) : Int)).toNat = ba objB := by rw [← ba_bl (s.extract _ _), hx]
  refine ⟨by omega, by omega, by omega, by omega, ?_⟩
  rw [hxe]
  refine (c_cls_obj (bl_ba _) w4).mono ?_
  rintro r w5 ⟨rfl, e5⟩
  have H := H.keep e5
  refine Br.f rfl (Br.f rfl ?_)
  iterate 2 refine H.ld 0 rfl rfl ?_
  refine (c_told _ _ _ _ (show (((ba objB).size : Nat) : Int) ≤ 127 by decide) w5).mono ?_
  rintro r e v1 ⟨rfl, rfl, he⟩
  have H := H.keep he
  iterate 5 (refine H.st 1 rfl (by simp) fun _ H => ?_; simp only [List.set_cons_zero, List.set_cons_succ] at H)
  iterate 5 refine H.ld 1 rfl rfl ?_
  exact ⟨rfl, by trivial, H.ext⟩
end
end Tl
end Go.Proofs.YtpkadliieplblaaDoor
