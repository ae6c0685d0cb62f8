/- Inflate: the program's codes: Codes, Clone, New, Read. Conditions: sizes. -/
import Derived.Test.YtapgacggllbhiaaInE
import Derived.Test.YtapgacggllbhiaaBitR
namespace Go.Proofs.Ytapgacggllbhiaa
namespace Inf
open Sh Bit
set_option linter.unusedVariables false
set_option linter.unusedSimpArgs false
set_option maxRecDepth 4000
set_option maxHeartbeats 2000000
def codeL (lens : List Int) (i : Nat) : Int := if 0 < lens.getD i 0 then fs (cn lens) (lens.getD i 0).toNat + (cntT lens (lens.getD i 0).toNat i : Int) else 0
def codesT (lens : List Int) (i : Nat) : List Int := (List.range i).map (codeL lens) ++ List.replicate (lens.length - i) 0
def codes (lens : List Int) : List Int := (List.range lens.length).map (codeL lens)
theorem codesT_len (lens : List Int) {i : Nat} (hi : i ≤ lens.length) : (codesT lens i).length = lens.length := by
  unfold codesT
  simp
  omega
theorem codesT_set (lens : List Int) {i : Nat} (hi : i < lens.length) (x : Int) (hx : x = codeL lens i) : (codesT lens i).set i x = codesT lens (i + 1) := by
  unfold codesT
  rw [List.set_append_right _ _ (by simp), List.length_map, List.length_range, Nat.sub_self, show lens.length - i = (lens.length - (i + 1)) + 1 by omega, List.replicate_succ, List.set_cons_zero, List.range_succ, List.map_append, List.append_assoc, hx]
  rfl
theorem codesT_skip (lens : List Int) {i : Nat} (hi : i < lens.length) (hx : codeL lens i = 0) : codesT lens (i + 1) = codesT lens i := by
  unfold codesT
  rw [show lens.length - i = (lens.length - (i + 1)) + 1 by omega, List.replicate_succ, List.range_succ, List.map_append, List.append_assoc]
  simp [hx]
theorem codesT_end (lens : List Int) : codesT lens lens.length = codes lens := by unfold codesT codes; simp
theorem flat_zero (n : Nat) : (List.replicate n [Value.int .i64 0]).flatten = ints (List.replicate n 0) := by
  unfold ints
  induction n with
  | zero => rfl
  | succ n ih => rw [List.replicate_succ, List.flatten_cons, ih, List.replicate_succ]; rfl
theorem IV.blk {w : World} {g n : Nat} {l : List Int} {t : TypeId} (h : Blk w g (ints l).toArray t) (hn : n = l.length) : IV w ⟨some ⟨g, 0, none⟩, n, n⟩ l := ⟨hn, VRow.of h (by rw [ints_len, hn]; omega)⟩
theorem IV.row {w : World} {s : Slc} {l : List Int} {t : TypeId} (h : Row w s t 1 (ints l)) : IV w s l := by
  refine ⟨?_, h.view⟩
  have := h.1
  rw [ints_len] at this
  omega
theorem row_cap {w : World} {s : Slc} {t : TypeId} {k : Nat} {xs : List Value} (h : Row w s t k xs) : s.len ≤ s.cap := by
  rcases h.2 with h | ⟨g, cur, h1, h2, h3, h4, h5⟩
  · rw [h]; exact Nat.le_refl _
  · exact h3
/-- The tail of a slice. -/
theorem IV.drop {w : World} {s : Slc} {l : List Int} (h : IV w s l) (hc : s.len ≤ s.cap) {d : Nat} (hd : d ≤ l.length) : IV w (s.cut 1 d s.len s.cap) (l.drop d) ∧ (s.cut 1 d s.len s.cap).len ≤ (s.cut 1 d s.len s.cap).cap := by
  have h1 := h.1
  refine ⟨⟨?_, ?_⟩, ?_⟩
  · show s.len - d = _
    rw [List.length_drop]; omega
  · refine ⟨?_, fun j v hj => ?_⟩
    · rw [ints_len, List.length_drop]
      show _ = (s.len - d) * 1
      omega
    · have hjl : j < (l.drop d).length := by
        have := (List.getElem?_eq_some_iff.1 hj).1
        rw [ints_len] at this
        exact this
      rw [List.length_drop] at hjl
      obtain ⟨a, ha, hc'⟩ := h.2.2 (d + j) v (by
        rw [← hj]
        unfold ints
        rw [List.getElem?_map, List.getElem?_map, List.getElem?_drop])
      refine ⟨a.add d, ?_, by rw [add_add']; exact hc'⟩
      show (if s.cap = d then s.p else s.p.map (·.add (d * 1))) = _
      rw [if_neg (by omega), ha, Nat.mul_one]
      rfl
  · show s.len - d ≤ s.cap - d
    omega
theorem cut_own {s : Slc} {d j : Nat} (h : (s.cut 1 d s.len s.cap).own j) : s.own j := by
  obtain ⟨a, ha, rfl⟩ := h
  have ha : (if s.cap = d then s.p else s.p.map (·.add (d * 1))) = some a := ha
  split at ha
  · exact ⟨a, ha, rfl⟩
  · obtain ⟨x, hx, rfl⟩ := Option.map_eq_some_iff.1 ha
    exact ⟨x, hx, (add_block x _).symm⟩
def nx (lens : List Int) (i : Nat) (n : Nat) : Int := fs (cn lens) n + cf lens i n
theorem nx_step {lens : List Int} {i n : Nat} (h : lens.getD i 0 = (n : Int)) (hn : 0 < n) : upd (nx lens i) n (nx lens i n + 1) = nx lens (i + 1) := by
  have hc := cf_step h hn
  funext j
  have hj := congrFun hc j
  unfold upd at hj ⊢
  unfold nx
  by_cases e : j = n
  · subst e
    rw [if_pos rfl] at hj ⊢
    omega
  · rw [if_neg e] at hj ⊢
    rw [hj]
attribute [local irreducible] Ld St Nw Nn Lt LdS
section
variable {w : World} {s : Slc} {lens : List Int}
theorem c_codes (h : IV w s lens) : C9 s w fun r e w1 => e = chk lens ∧ Ext (fun _ => False) w w1 ∧ (chk lens = 0 → IV w1 r (codes lens) ∧ ∀ j, r.own j → w.heap.size ≤ j ∧ j < w1.heap.size) := by
  refine T9 _ _ _ ?_
  unfold S9
  refine (c_chk h).mono ?_
  rintro r w1 ⟨rfl, he1⟩
  refine Br.ne (fun q => ⟨rfl, he1, fun hh => absurd hh q⟩) fun q => ?_
  have hk := chk_lok q
  have hlen := hk.len
  refine (c_counted (h.keep he1) hk).mono ?_
  rintro r w2 ⟨rfl, he2⟩
  refine (c_firsts (f := cn lens) (fun n => cn_bd hlen n) w2).mono ?_
  rintro r w3 ⟨rfl, he3⟩
  have E3 := he1.tr (he2.tr he3)
  refine (Hn.start w3).nw fun w4 H => ?_
  simp only [List.nil_append, add_lit, Nat.zero_add] at H ⊢
  refine st16 H 0 rfl rfl fun w5 H => ?_
  simp only [List.set_cons_zero, List.set_cons_succ] at H
  rw [h.1]
  obtain ⟨w6, hrun, hw6⟩ := elI.make (zs := [.int .i64 0]) rfl w5 lens.length (by omega) (by omega)
  refine ⟨_, w6, hrun, ?_⟩
  have hlt5 := H.lt 0 rfl
  have H : Hn w3 w6 [(w3.heap.size, lst16 (nx lens 0), 51), (w5.heap.size, ints (codesT lens 0), 3)] := by
    have e0 : nx lens 0 = fs (cn lens) := by
      funext j
      unfold nx cf
      split
      · omega
      · show _ + ((0 : Nat) : Int) = _; omega
    have e1 : codesT lens 0 = List.replicate lens.length 0 := by unfold codesT; simp
    rw [e0, e1, hw6, flat_zero]
    exact (H.keep ((Ext.refl _ _).alloc _)).push (Blk.new _ _ _) H.size (by simp; omega)
  refine ⟨fun n st w7 => ∃ i : Nat, st = (i : Int) ∧ i ≤ lens.length ∧ n = lens.length - i ∧ Hn w3 w7 [(w3.heap.size, lst16 (nx lens i), 51), (w5.heap.size, ints (codesT lens i), 3)], lens.length, ⟨0, rfl, by omega, rfl, H⟩, ?_⟩
  rintro n st w7 ⟨i, rfl, hi, rfl, H⟩
  unfold S9L1
  rw [h.1]
  refine Br.dec (fun q1 => ⟨by omega, by omega, ?_⟩) fun q1 => ?_
  · have hlt : i < lens.length := by omega
    obtain ⟨a, ha, hc⟩ := ((h.keep E3).keep H.ext).get hlt
    rw [ha, Int.toNat_natCast]
    have hn := hk.nn i
    obtain ⟨m, hm⟩ := Int.eq_ofNat_of_zero_le hn.1
    have b1 := fs_bd (fun n => cn_bd hlen n) m
    have b2 := cf_bd (lens := lens) (i := i) (by omega) m
    have hp := two_pow_le (show m ≤ 15 by omega)
    have h15 : (2 : Int) ^ 15 = 32768 := by decide
    have hnx : nx lens i m = fs (cn lens) m + cf lens i m := rfl
    refine Nn.of (Ld.mk hc ?_)
    rw [hm]
    refine Br.dec (fun q2 => ⟨by omega, by omega, ?_⟩) fun q2 => ?_
    · have hcode : nx lens i m = codeL lens i := by
        unfold codeL
        rw [if_pos (by omega), hm, Int.toNat_natCast, hnx]
        unfold cf
        rw [if_neg (by omega)]
      simp only [add_lit, Int.toNat_natCast, Nat.mul_one, Nat.zero_add]
      refine H.ld 0 rfl (lst16_get _ (by omega)) ⟨by omega, by omega, Nn.of ?_⟩
      simp only [add_lit, Int.toNat_natCast, Nat.mul_one, Nat.zero_add]
      refine H.st 1 rfl (by rw [ints_len, codesT_len _ hi]; omega) fun w8 H => ?_
      simp only [List.set_cons_zero, List.set_cons_succ] at H
      rw [ints_set, codesT_set _ hlt _ hcode] at H
      refine ⟨by omega, by omega, H.ld 0 rfl (lst16_get _ (by omega)) ⟨by omega, by omega, H.st 0 rfl (by rw [lst16_len]; omega) fun w9 H => ?_⟩⟩
      simp only [List.set_cons_zero, List.set_cons_succ] at H
      rw [i64_id (n := nx lens i m + 1) (by omega), lst16_set _ (by omega), nx_step hm (by omega)] at H
      exact ⟨lens.length - (i + 1), by omega, i + 1, by rw [i64_id (by omega)]; rfl, by omega, rfl, H⟩
    · refine ⟨lens.length - (i + 1), by omega, i + 1, by rw [i64_id (by omega)]; rfl, by omega, rfl, ?_⟩
      have e : nx lens (i + 1) = nx lens i := by
        funext j
        unfold nx
        rw [cf_same (by omega)]
      rw [e, codesT_skip _ hlt (by unfold codeL; rw [if_neg (by omega)])]
      exact H
  · have : i = lens.length := by omega
    subst this
    rw [codesT_end] at H
    refine ⟨q.symm, E3.tr H.ext, fun _ => ⟨IV.blk (H.get 1 rfl) (by unfold codes; simp), fun j hj => ?_⟩⟩
    obtain ⟨a, ha, rfl⟩ := hj
    cases ha
    have := H.ge 1 rfl
    have := E3.size
    have := H.lt 1 rfl
    show w.heap.size ≤ w5.heap.size ∧ w5.heap.size < w7.heap.size
    omega
theorem c_clone (h : IV w s lens) (hlen : lens.length ≤ 100000) : C30 s w fun r w1 => IV w1 r lens ∧ Ext (fun _ => False) w w1 ∧ ∀ j, r.own j → w.heap.size ≤ j ∧ j < w1.heap.size := by
  refine T30 _ _ _ ?_
  unfold S30
  have h1 := h.1
  cases hp : s.p with
  | none =>
    have hl : lens = [] := by
      cases hl : lens with
      | nil => rfl
      | cons x r =>
        obtain ⟨a, ha, _⟩ := h.get (i := 0) (by rw [hl]; simp)
        rw [hp] at ha
        cases ha
    rw [hl]
    refine Br.t rfl ⟨IV.nil _, Ext.refl _ _, fun j hj => ?_⟩
    obtain ⟨a, ha, _⟩ := hj
    cases ha
  | some p =>
    refine Br.f rfl (Nw.of ?_)
    have e1 : Ext (fun _ => False) w (w.alloc (.cells #[] 3)) := (Ext.refl _ _).alloc _
    obtain ⟨s', w', r1, r2, r3, r4, r5⟩ := elI.app (ty := 22) (Row.new w #[] 3 1 0 rfl) (h.keep e1).2 (ints_one lens) (by show (0 + s.len) * 8 ≤ _; omega) (by show 0 + s.len ≤ _; omega)
    refine ⟨s', w', r1, IV.row (l := lens) (by simpa using r2), e1.trans r4 (fun _ h => h) (fun i hi hh => ?_), fun j hj => ?_⟩
    · obtain ⟨a, ha, rfl⟩ := hh
      cases ha
      exact absurd hi (Nat.lt_irrefl _)
    · refine ⟨?_, r2.own_lt hj⟩
      rcases r5 j hj with hh | hh
      · obtain ⟨a, ha, rfl⟩ := hh
        cases ha
        exact Nat.le_refl _
      · have := e1.size; omega
/-- A table's cells. -/
def tc (s1 s2 : Slc) (f g : Nat → Int) (s3 : Slc) : List Value := [Slc.v s1, Slc.v s2] ++ (lst16 f ++ (lst16 g ++ [Slc.v s3]))
theorem tc_n (s1 s2 : Slc) (f g : Nat → Int) (s3 : Slc) {j : Nat} (hj : j < 16) : (tc s1 s2 f g s3)[2 + j]? = some (.int .i64 (f j)) := by
  unfold tc
  rw [List.getElem?_append_right (by simp), show 2 + j - [Slc.v s1, Slc.v s2].length = j by simp, List.getElem?_append_left (by rw [lst16_len]; omega), lst16_get _ hj]
theorem tc_f (s1 s2 : Slc) (f g : Nat → Int) (s3 : Slc) {j : Nat} (hj : j < 16) : (tc s1 s2 f g s3)[18 + j]? = some (.int .i64 (g j)) := by
  unfold tc
  rw [List.getElem?_append_right (by simp; omega), show 18 + j - [Slc.v s1, Slc.v s2].length = 16 + j by simp; omega, List.getElem?_append_right (by rw [lst16_len]; omega), lst16_len, Nat.add_sub_cancel_left, List.getElem?_append_left (by rw [lst16_len]; omega), lst16_get _ hj]
def ordI (l : List Nat) : List Int := l.map Int.ofNat
theorem ordT_len {lens : List Int} (h : lens.length ≤ 288) : ∀ n, (ordT lens n).length ≤ n * 288
  | 0 => Nat.le_refl _
  | n + 1 => by
    have ih := ordT_len h n
    have : (idxs lens (n + 1)).length ≤ lens.length := cntT_le lens (n + 1) lens.length
    show (ordT lens n ++ idxs lens (n + 1)).length ≤ _
    rw [List.length_append]
    omega
/-- A table of a code: its blocks lie between lo and hi. -/
def TB (w : World) (lo hi b : Nat) (lens : List Int) : Prop := ∃ s1 s2 s3 : Slc, Blk w b (tc s1 s2 (cn lens) (fs (cn lens)) s3).toArray 56 ∧ IV w s1 lens ∧ IV w s2 (codes lens) ∧ IV w s3 (ordI (ordT lens 15)) ∧ s3.len ≤ s3.cap ∧
  (lo ≤ b ∧ b < hi) ∧ (∀ j, s1.own j → lo ≤ j ∧ j < hi) ∧ (∀ j, s2.own j → lo ≤ j ∧ j < hi) ∧ ∀ j, s3.own j → lo ≤ j ∧ j < hi
theorem TB.keep {F : Nat → Prop} {w w' : World} {lo hi b : Nat} (h : TB w lo hi b lens) (he : Ext F w w') (hF : ∀ j, lo ≤ j → j < hi → ¬ F j) : TB w' lo hi b lens := by
  obtain ⟨s1, s2, s3, h1, h2, h3, h4, h5, h6, h7, h8, h9⟩ := h
  exact ⟨s1, s2, s3, he.blk h1 (hF _ h6.1 h6.2), h2.keepF he (fun j hj => hF j (h7 j hj).1 (h7 j hj).2), h3.keepF he (fun j hj => hF j (h8 j hj).1 (h8 j hj).2), h4.keepF he (fun j hj => hF j (h9 j hj).1 (h9 j hj).2), h5, h6, h7, h8, h9⟩
theorem own_lt' {w : World} {s : Slc} {l : List Int} (h : IV w s l) (hl : l ≠ []) {j : Nat} (hj : s.own j) : j < w.heap.size := by
  obtain ⟨a, ha, rfl⟩ := hj
  obtain ⟨a2, ha2, hc⟩ := h.get (i := 0) (List.length_pos_iff.2 hl)
  rw [ha] at ha2
  cases ha2
  have := cell_lt' hc
  rw [add_block] at this
  exact this
end
end Inf
end Go.Proofs.Ytapgacggllbhiaa
