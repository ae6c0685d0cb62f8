/- Inflate: the program's codes: Codes, Clone, New, Read. Conditions: sizes. -/
import Derived.Test.YtjkoafjnmkchdaaQLAll3
import Derived.Test.YtjkoafjnmkchdaaQLAll2
import Derived.Laws.CopyRow
import Derived.Laws.IdiomCopy
import Derived.Laws.IdiomMaps
namespace Go.Proofs.Ytjkoafjnmkchdaa
namespace Inf
open Sh Bit
set_option linter.unusedVariables false
set_option linter.unusedSimpArgs false
set_option maxRecDepth 4000
set_option maxHeartbeats 2000000
def codeL (lens : List Int) (i : Nat) : Int := if 0 < lens.getD i 0 then fs (cn lens) (lens.getD i 0).toNat + (cntT lens (lens.getD i 0).toNat i : Int) else 0
def codesT (lens : List Int) (i : Nat) : List Int := (List.range i).map (codeL lens) ++ List.replicate (lens.length - i) 0
def codes (lens : List Int) : List Int := (List.range lens.length).map (codeL lens)
theorem codesT_len (lens : List Int) {i : Nat} (hi : i ≤ lens.length) : (codesT lens i).length = lens.length := by
  unfold codesT
  simp
  omega
theorem codesT_set (lens : List Int) {i : Nat} (hi : i < lens.length) (x : Int) (hx : x = codeL lens i) : (codesT lens i).set i x = codesT lens (i + 1) := by
  unfold codesT
  rw [List.set_append_right _ _ (by simp), List.length_map, List.length_range, Nat.sub_self, show lens.length - i = (lens.length - (i + 1)) + 1 by omega, List.replicate_succ, List.set_cons_zero, List.range_succ, List.map_append, List.append_assoc, hx]
  rfl
theorem codesT_skip (lens : List Int) {i : Nat} (hi : i < lens.length) (hx : codeL lens i = 0) : codesT lens (i + 1) = codesT lens i := by
  unfold codesT
  rw [show lens.length - i = (lens.length - (i + 1)) + 1 by omega, List.replicate_succ, List.range_succ, List.map_append, List.append_assoc]
  simp [hx]
theorem codesT_end (lens : List Int) : codesT lens lens.length = codes lens := by unfold codesT codes; simp
theorem flat_zero (n : Nat) : (List.replicate n [Value.int .i64 0]).flatten = ints (List.replicate n 0) := by
  unfold ints
  induction n with
  | zero => rfl
  | succ n ih => rw [List.replicate_succ, List.flatten_cons, ih, List.replicate_succ]; rfl
theorem IV.blk {w : World} {g n : Nat} {l : List Int} {t : TypeId} (h : Blk w g (ints l).toArray t) (hn : n = l.length) : IV w ⟨some ⟨g, 0, none⟩, n, n⟩ l := ⟨hn, VRow.of h (by rw [ints_len, hn]; omega)⟩
theorem IV.row {w : World} {s : Slc} {l : List Int} {t : TypeId} (h : Row w s t 1 (ints l)) : IV w s l := by
  refine ⟨?_, h.view⟩
  have := h.1
  rw [ints_len] at this
  omega
theorem row_cap {w : World} {s : Slc} {t : TypeId} {k : Nat} {xs : List Value} (h : Row w s t k xs) : s.len ≤ s.cap := by
  rcases h.2 with h | ⟨g, cur, h1, h2, h3, h4, h5⟩
  · rw [h]; exact Nat.le_refl _
  · exact h3
/-- The tail of a slice. -/
theorem IV.drop {w : World} {s : Slc} {l : List Int} (h : IV w s l) (hc : s.len ≤ s.cap) {d : Nat} (hd : d ≤ l.length) : IV w (s.cut 1 d s.len s.cap) (l.drop d) ∧ (s.cut 1 d s.len s.cap).len ≤ (s.cut 1 d s.len s.cap).cap := by
  have h1 := h.1
  refine ⟨⟨?_, ?_⟩, ?_⟩
  · show s.len - d = _
    rw [List.length_drop]; omega
  · refine ⟨?_, fun j v hj => ?_⟩
    · rw [ints_len, List.length_drop]
      show _ = (s.len - d) * 1
      omega
    · have hjl : j < (l.drop d).length := by
        have := (List.getElem?_eq_some_iff.1 hj).1
        rw [ints_len] at this
        exact this
      rw [List.length_drop] at hjl
      obtain ⟨a, ha, hc'⟩ := h.2.2 (d + j) v (by
        rw [← hj]
        unfold ints
        rw [List.getElem?_map, List.getElem?_map, List.getElem?_drop])
      refine ⟨a.add d, ?_, by rw [add_add']; exact hc'⟩
      show (if s.cap = d then s.p else s.p.map (·.add (d * 1))) = _
      rw [if_neg (by omega), ha, Nat.mul_one]
      rfl
  · show s.len - d ≤ s.cap - d
    omega
theorem cut_own {s : Slc} {d j : Nat} (h : (s.cut 1 d s.len s.cap).own j) : s.own j := by
  obtain ⟨a, ha, rfl⟩ := h
  have ha : (if s.cap = d then s.p else s.p.map (·.add (d * 1))) = some a := ha
  split at ha
  · exact ⟨a, ha, rfl⟩
  · obtain ⟨x, hx, rfl⟩ := Option.map_eq_some_iff.1 ha
    exact ⟨x, hx, (add_block x _).symm⟩
def nx (lens : List Int) (i : Nat) (n : Nat) : Int := fs (cn lens) n + cf lens i n
theorem nx_step {lens : List Int} {i n : Nat} (h : lens.getD i 0 = (n : Int)) (hn : 0 < n) : upd (nx lens i) n (nx lens i n + 1) = nx lens (i + 1) := by
  have hc := cf_step h hn
  funext j
  have hj := congrFun hc j
  unfold upd at hj ⊢
  unfold nx
  by_cases e : j = n
  · subst e
    rw [if_pos rfl] at hj ⊢
    omega
  · rw [if_neg e] at hj ⊢
    rw [hj]
attribute [local irreducible] Ld St Nw Nn Lt LdS
section
variable {w : World} {s : Slc} {lens : List Int}
theorem c_codes (h : IV w s lens) : C62 s w fun r e w1 => e = chk lens ∧ Ext (fun _ => False) w w1 ∧ (chk lens = 0 → IV w1 r (codes lens) ∧ ∀ j, r.own j → w.heap.size ≤ j ∧ j < w1.heap.size) := by
  refine T62 _ _ _ ?_
  unfold S62
  refine (c_chk h).mono ?_
  rintro r w1 ⟨rfl, he1⟩
  refine Br.ne (fun q => ⟨rfl, he1, fun hh => absurd hh q⟩) fun q => ?_
  have hk := chk_lok q
  have hlen := hk.len
  refine (c_counted (h.keep he1) hk).mono ?_
  rintro r w2 ⟨rfl, he2⟩
  refine (c_firsts (f := cn lens) (fun n => cn_bd hlen n) w2).mono ?_
  rintro r w3 ⟨rfl, he3⟩
  have E3 := he1.tr (he2.tr he3)
  refine (Hn.start w3).nw fun w4 H => ?_
  simp only [List.nil_append, add_lit, Nat.zero_add] at H ⊢
  refine st16 H 0 rfl rfl fun w5 H => ?_
  simp only [List.set_cons_zero, List.set_cons_succ] at H
  rw [h.1]
  obtain ⟨w6, hrun, hw6⟩ := elI.make (zs := [.int .i64 0]) rfl w5 lens.length (by omega) (by omega)
  refine ⟨_, w6, hrun, ?_⟩
  have hlt5 := H.lt 0 rfl
  have H : Hn w3 w6 [(w3.heap.size, lst16 (nx lens 0), 111), (w5.heap.size, ints (codesT lens 0), 3)] := by
    have e0 : nx lens 0 = fs (cn lens) := by
      funext j
      unfold nx cf
      split
      · omega
      · show _ + ((0 : Nat) : Int) = _; omega
    have e1 : codesT lens 0 = List.replicate lens.length 0 := by unfold codesT; simp
    rw [e0, e1, hw6, flat_zero]
    exact (H.keep ((Ext.refl _ _).alloc _)).push (Blk.new _ _ _) H.size (by simp; omega)
  refine ⟨fun n st w7 => ∃ i : Nat, st = (i : Int) ∧ i ≤ lens.length ∧ n = lens.length - i ∧ Hn w3 w7 [(w3.heap.size, lst16 (nx lens i), 111), (w5.heap.size, ints (codesT lens i), 3)], lens.length, ⟨0, rfl, by omega, rfl, H⟩, ?_⟩
  rintro n st w7 ⟨i, rfl, hi, rfl, H⟩
  unfold S62L1
  rw [h.1]
  refine Br.dec (fun q1 => ⟨by omega, by omega, ?_⟩) fun q1 => ?_
  · have hlt : i < lens.length := by omega
    obtain ⟨a, ha, hc⟩ := ((h.keep E3).keep H.ext).get hlt
    rw [ha, Int.toNat_natCast]
    have hn := hk.nn i
    obtain ⟨m, hm⟩ := Int.eq_ofNat_of_zero_le hn.1
    have b1 := fs_bd (fun n => cn_bd hlen n) m
    have b2 := cf_bd (lens := lens) (i := i) (by omega) m
    have hp := two_pow_le (show m ≤ 15 by omega)
    have h15 : (2 : Int) ^ 15 = 32768 := by decide
    have hnx : nx lens i m = fs (cn lens) m + cf lens i m := rfl
    refine Nn.of (Ld.mk hc ?_)
    rw [hm]
    refine Br.dec (fun q2 => ⟨by omega, by omega, ?_⟩) fun q2 => ?_
    · have hcode : nx lens i m = codeL lens i := by
        unfold codeL
        rw [if_pos (by omega), hm, Int.toNat_natCast, hnx]
        unfold cf
        rw [if_neg (by omega)]
      simp only [add_lit, Int.toNat_natCast, Nat.mul_one, Nat.zero_add]
      refine H.ld 0 rfl (lst16_get _ (by omega)) ⟨by omega, by omega, Nn.of ?_⟩
      simp only [add_lit, Int.toNat_natCast, Nat.mul_one, Nat.zero_add]
      refine H.st 1 rfl (by rw [ints_len, codesT_len _ hi]; omega) fun w8 H => ?_
      simp only [List.set_cons_zero, List.set_cons_succ] at H
      rw [ints_set, codesT_set _ hlt _ hcode] at H
      refine ⟨by omega, by omega, H.ld 0 rfl (lst16_get _ (by omega)) ⟨by omega, by omega, H.st 0 rfl (by rw [lst16_len]; omega) fun w9 H => ?_⟩⟩
      simp only [List.set_cons_zero, List.set_cons_succ] at H
      rw [i64_id (n := nx lens i m + 1) (by omega), lst16_set _ (by omega), nx_step hm (by omega)] at H
      exact ⟨lens.length - (i + 1), by omega, i + 1, by rw [i64_id (by omega)]; rfl, by omega, rfl, H⟩
    · refine ⟨lens.length - (i + 1), by omega, i + 1, by rw [i64_id (by omega)]; rfl, by omega, rfl, ?_⟩
      have e : nx lens (i + 1) = nx lens i := by
        funext j
        unfold nx
        rw [cf_same (by omega)]
      rw [e, codesT_skip _ hlt (by unfold codeL; rw [if_neg (by omega)])]
      exact H
  · have : i = lens.length := by omega
    subst this
    rw [codesT_end] at H
    refine ⟨q.symm, E3.tr H.ext, fun _ => ⟨IV.blk (H.get 1 rfl) (by unfold codes; simp), fun j hj => ?_⟩⟩
    obtain ⟨a, ha, rfl⟩ := hj
    cases ha
    have := H.ge 1 rfl
    have := E3.size
    have := H.lt 1 rfl
    show w.heap.size ≤ w5.heap.size ∧ w5.heap.size < w7.heap.size
    omega
theorem c_clone (h : IV w s lens) (hlen : lens.length ≤ 100000) : C63 s w fun r w1 => IV w1 r lens ∧ Ext (fun _ => False) w w1 ∧ ∀ j, r.own j → w.heap.size ≤ j ∧ j < w1.heap.size := by
  refine T63 _ _ _ ?_
  unfold S63
  have h1 := h.1
  cases hp : s.p with
  | none =>
    have hl : lens = [] := by
      cases hl : lens with
      | nil => rfl
      | cons x r =>
        obtain ⟨a, ha, _⟩ := h.get (i := 0) (by rw [hl]; simp)
        rw [hp] at ha
        cases ha
    rw [hl]
    refine Br.t rfl ⟨IV.nil _, Ext.refl _ _, fun j hj => ?_⟩
    obtain ⟨a, ha, _⟩ := hj
    cases ha
  | some p =>
    refine Br.f rfl (Nw.of ?_)
    have e1 : Ext (fun _ => False) w (w.alloc (.cells #[] 3)) := (Ext.refl _ _).alloc _
    obtain ⟨s', w', r1, r2, r3, r4, r5⟩ := elI.app (ty := 72) (Row.new w #[] 3 1 0 rfl) (h.keep e1).2 (ints_one lens) (by show (0 + s.len) * 8 ≤ _; omega) (by show 0 + s.len ≤ _; omega)
    refine ⟨s', w', r1, IV.row (l := lens) (by simpa using r2), e1.trans r4 (fun _ h => h) (fun i hi hh => ?_), fun j hj => ?_⟩
    · obtain ⟨a, ha, rfl⟩ := hh
      cases ha
      exact absurd hi (Nat.lt_irrefl _)
    · refine ⟨?_, r2.own_lt hj⟩
      rcases r5 j hj with hh | hh
      · obtain ⟨a, ha, rfl⟩ := hh
        cases ha
        exact Nat.le_refl _
      · have := e1.size; omega
/-- A table's cells. -/
def tc (s1 s2 : Slc) (f g : Nat → Int) (s3 : Slc) : List Value := [Slc.v s1, Slc.v s2] ++ (lst16 f ++ (lst16 g ++ [Slc.v s3]))
theorem tc_n (s1 s2 : Slc) (f g : Nat → Int) (s3 : Slc) {j : Nat} (hj : j < 16) : (tc s1 s2 f g s3)[2 + j]? = some (.int .i64 (f j)) := by
  unfold tc
  rw [List.getElem?_append_right (by simp), show 2 + j - [Slc.v s1, Slc.v s2].length = j by simp, List.getElem?_append_left (by rw [lst16_len]; omega), lst16_get _ hj]
theorem tc_f (s1 s2 : Slc) (f g : Nat → Int) (s3 : Slc) {j : Nat} (hj : j < 16) : (tc s1 s2 f g s3)[18 + j]? = some (.int .i64 (g j)) := by
  unfold tc
  rw [List.getElem?_append_right (by simp; omega), show 18 + j - [Slc.v s1, Slc.v s2].length = 16 + j by simp; omega, List.getElem?_append_right (by rw [lst16_len]; omega), lst16_len, Nat.add_sub_cancel_left, List.getElem?_append_left (by rw [lst16_len]; omega), lst16_get _ hj]
def ordI (l : List Nat) : List Int := l.map Int.ofNat
theorem ordT_len {lens : List Int} (h : lens.length ≤ 288) : ∀ n, (ordT lens n).length ≤ n * 288
  | 0 => Nat.le_refl _
  | n + 1 => by
    have ih := ordT_len h n
    have : (idxs lens (n + 1)).length ≤ lens.length := cntT_le lens (n + 1) lens.length
    show (ordT lens n ++ idxs lens (n + 1)).length ≤ _
    rw [List.length_append]
    omega
/-- A table of a code: its blocks lie between lo and hi. -/
def TB (w : World) (lo hi b : Nat) (lens : List Int) : Prop := ∃ s1 s2 s3 : Slc, Blk w b (tc s1 s2 (cn lens) (fs (cn lens)) s3).toArray 114 ∧ IV w s1 lens ∧ IV w s2 (codes lens) ∧ IV w s3 (ordI (ordT lens 15)) ∧ s3.len ≤ s3.cap ∧
  (lo ≤ b ∧ b < hi) ∧ (∀ j, s1.own j → lo ≤ j ∧ j < hi) ∧ (∀ j, s2.own j → lo ≤ j ∧ j < hi) ∧ ∀ j, s3.own j → lo ≤ j ∧ j < hi
theorem TB.keep {F : Nat → Prop} {w w' : World} {lo hi b : Nat} (h : TB w lo hi b lens) (he : Ext F w w') (hF : ∀ j, lo ≤ j → j < hi → ¬ F j) : TB w' lo hi b lens := by
  obtain ⟨s1, s2, s3, h1, h2, h3, h4, h5, h6, h7, h8, h9⟩ := h
  exact ⟨s1, s2, s3, he.blk h1 (hF _ h6.1 h6.2), h2.keepF he (fun j hj => hF j (h7 j hj).1 (h7 j hj).2), h3.keepF he (fun j hj => hF j (h8 j hj).1 (h8 j hj).2), h4.keepF he (fun j hj => hF j (h9 j hj).1 (h9 j hj).2), h5, h6, h7, h8, h9⟩
theorem own_lt' {w : World} {s : Slc} {l : List Int} (h : IV w s l) (hl : l ≠ []) {j : Nat} (hj : s.own j) : j < w.heap.size := by
  obtain ⟨a, ha, rfl⟩ := hj
  obtain ⟨a2, ha2, hc⟩ := h.get (i := 0) (List.length_pos_iff.2 hl)
  rw [ha] at ha2
  cases ha2
  have := cell_lt' hc
  rw [add_block] at this
  exact this
end
end Inf
end Go.Proofs.Ytjkoafjnmkchdaa

/- Inflate: the program's tables: New, Read. Conditions: sizes. -/
namespace Go.Proofs.Ytjkoafjnmkchdaa
namespace Inf
open Sh Bit
set_option linter.unusedVariables false
set_option linter.unusedSimpArgs false
set_option maxRecDepth 4000
set_option maxHeartbeats 2000000
theorem ordI_app (l m : List Nat) : ordI (l ++ m) = ordI l ++ ordI m := by unfold ordI; rw [List.map_append]
theorem ordI_len (l : List Nat) : (ordI l).length = l.length := by unfold ordI; simp
/-- The signs of k lengths from n on. -/
def ordR (lens : List Int) : Nat → Nat → List Nat
  | 0, _ => []
  | k + 1, n => idxs lens n ++ ordR lens k (n + 1)
theorem ordT_R (lens : List Int) : ∀ k l, ordT lens (l + k) = ordT lens l ++ ordR lens k (l + 1)
  | 0, l => by simp [ordR]
  | k + 1, l => by
    rw [show l + (k + 1) = (l + 1) + k by omega, ordT_R lens k (l + 1)]
    show (ordT lens l ++ idxs lens (l + 1)) ++ _ = ordT lens l ++ (idxs lens (l + 1) ++ ordR lens k (l + 1 + 1))
    rw [List.append_assoc]
theorem ordR_nil {lens : List Int} (hk : Lok lens) : ∀ k n, longest lens < n → ordR lens k n = []
  | 0, _, _ => rfl
  | k + 1, n, h => by
    have h1 : idxs lens n = [] := List.eq_nil_of_length_eq_zero (cnt_long hk h)
    show idxs lens n ++ ordR lens k (n + 1) = []
    rw [h1, ordR_nil hk k (n + 1) (by omega)]
    rfl
theorem long_cnt {lens : List Int} (hk : Lok lens) (h : 1 ≤ longest lens) : 0 < cnt lens (longest lens) := by
  rcases long_mem (lens := lens) lens.length with h0 | ⟨j, h1, h2⟩
  · unfold longest at h; rw [h0] at h; exact absurd h (by decide)
  · have hn := (used_kr hk lens.length).2.2.2.2.1
    have h3 : lens.getD j 0 = (longest lens : Int) := by rw [h2]; unfold longest; omega
    have := (idxs_at h3 h1).2
    omega
theorem ordR_ne {lens : List Int} (hk : Lok lens) : ∀ k n, 1 ≤ n → n ≤ longest lens → longest lens < n + k → 0 < (ordR lens k n).length
  | 0, n, _, h, h2 => by omega
  | k + 1, n, h0, h, h2 => by
    show 0 < (idxs lens n ++ ordR lens k (n + 1)).length
    rw [List.length_append]
    by_cases he : n = longest lens
    · have : (idxs lens n).length = cnt lens n := rfl
      have h3 := long_cnt hk (by omega)
      rw [← he] at h3
      omega
    · have := ordR_ne hk k (n + 1) (by omega) (by omega) (by omega)
      omega
theorem long15 {lens : List Int} (hk : Lok lens) : longest lens ≤ 15 := by
  have := (used_kr hk lens.length).2.2.2.2.2
  unfold longest
  omega
/-- The program's reader, that reads least significant bits first. -/
def RB (w : World) (b : Nat) (s : ByteArray) (p : Nat) : Prop := p ≤ 8 * s.size ∧ ∃ way : Int, (way = 0 ∨ way = 1) ∧ RdB w b s p way
theorem RB.keep {F : Nat → Prop} {w w' : World} {b : Nat} {s : ByteArray} {p : Nat} (h : RB w b s p) (he : Ext F w w') (hF : ¬ F b) : RB w' b s p := by
  obtain ⟨h1, way, h2, h3⟩ := h
  exact ⟨h1, way, h2, he.blk h3 hF⟩
theorem RB.lt {w : World} {b : Nat} {s : ByteArray} {p : Nat} (h : RB w b s p) : b < w.heap.size := by
  obtain ⟨h1, way, h2, h3⟩ := h
  exact Blk.lt h3
/-- What Low answers. -/
def NumR (s : ByteArray) (p n : Nat) (v e : Int) (q : Nat) : Prop := (num s p n = .ok (v, q) ∧ e = 0) ∨ (num s p n = .error 4 ∧ e = 4)
attribute [local irreducible] Ld St Nw Nn Lt LdS
section
variable {w : World} {s : Slc} {lens : List Int}
theorem c_new (h : IV w s lens) : C42 s w fun r e w1 => e = chk lens ∧ Ext (fun _ => False) w w1 ∧ (chk lens ≠ 0 → r = none) ∧ (chk lens = 0 → ∃ b, r = some (⟨b, 0, none⟩ : Addr) ∧ TB w1 w.heap.size w1.heap.size b lens) := by
  refine T42 _ _ _ ?_
  unfold S42
  refine (c_codes h).mono ?_
  rintro r2 e w1 ⟨rfl, he1, h1⟩
  refine Br.ne (fun q => ⟨rfl, he1, fun _ => rfl, fun hh => absurd hh q⟩) fun q => ?_
  obtain ⟨v2, o2⟩ := h1 q
  have hk := chk_lok q
  have hlen := hk.len
  refine (c_clone (h.keep he1) (by omega)).mono ?_
  rintro r5 w2 ⟨v5, he2, o5⟩
  refine (c_counted ((h.keep he1).keep he2) hk).mono ?_
  rintro r7 w3 ⟨rfl, he3⟩
  have z1 := he1.size
  have z2 := he2.size
  have z3 := he3.size
  refine (Hn.start w3).nw fun w4 H => ?_
  simp only [List.nil_append] at H
  have H : Hn w3 w4 [(w3.heap.size, tc r5 r2 (cn lens) (fun _ => 0) ⟨none, 0, 0⟩, 114)] := H
  refine Nn.of ?_
  simp only [add_lit, Nat.zero_add]
  refine ld16o (f := cn lens) H 2 0 rfl (fun j hj => tc_n _ _ _ _ _ hj) ?_
  refine (c_firsts (f := cn lens) (fun n => cn_bd hlen n) w4).mono ?_
  rintro r w5 ⟨rfl, he5⟩
  have H := H.keep he5
  refine Nn.of ?_
  simp only [add_lit, Nat.zero_add]
  refine st16o (pre := [Slc.v r5, Slc.v r2] ++ lst16 (cn lens)) (zs := lst16 fun _ => 0) (post := [Slc.v ⟨none, 0, 0⟩]) H 18 0 rfl rfl rfl fun w6 H => ?_
  simp only [List.set_cons_zero] at H
  have H : Hn w3 w6 [(w3.heap.size, tc r5 r2 (cn lens) (fs (cn lens)) ⟨none, 0, 0⟩, 114)] := H
  refine ⟨fun n st w7 => ∃ l : Nat, st = ((l + 1 : Nat) : Int) ∧ l ≤ 15 ∧ n = 15 - l ∧ ∃ s3 : Slc, Row w7 s3 3 1 (ints (ordI (ordT lens l))) ∧ (∀ j, s3.own j → w3.heap.size < j) ∧ Hn w3 w7 [(w3.heap.size, tc r5 r2 (cn lens) (fs (cn lens)) s3, 114)], 15, ⟨0, rfl, by omega, rfl, ⟨none, 0, 0⟩, Row.nil _ _ _, fun j hj => (by obtain ⟨a, ha, _⟩ := hj; cases ha), H⟩, ?_⟩
  rintro n st w7 ⟨l, rfl, hl, rfl, s3, hrow, own3, H⟩
  unfold S42L2
  refine Br.dec (fun q1 => ?_) fun q1 => ?_
  · refine ⟨fun n st w8 => ∃ i : Nat, st = (i : Int) ∧ i ≤ lens.length ∧ n = lens.length - i ∧ ∃ s3 : Slc, Row w8 s3 3 1 (ints (ordI (ordT lens l ++ idxT lens (l + 1) i))) ∧ (∀ j, s3.own j → w3.heap.size < j) ∧ Hn w3 w8 [(w3.heap.size, tc r5 r2 (cn lens) (fs (cn lens)) s3, 114)], lens.length, ⟨0, rfl, by omega, rfl, s3, by rw [show idxT lens (l + 1) 0 = [] by rfl, List.append_nil]; exact hrow, own3, H⟩, ?_⟩
    rintro n st w8 ⟨i, rfl, hi, rfl, s3, hrow, own3, H⟩
    unfold S42L1
    rw [h.1]
    refine Br.dec (fun q2 => ⟨by omega, by omega, ?_⟩) fun q2 => ?_
    · have hlt : i < lens.length := by omega
      obtain ⟨a, ha, hc⟩ := ((((h.keep he1).keep he2).keep he3).keep H.ext).get hlt
      rw [ha, Int.toNat_natCast]
      have hsc := idxT_succ lens (l + 1) i
      refine Nn.of (Ld.mk hc (Br.eq (fun q3 => Nn.of ?_) fun q3 => ?_))
      · rw [if_pos q3] at hsc
        simp only [add_lit, Nat.zero_add]
        refine H.ld 0 rfl rfl ?_
        have hlt8 := H.lt 0 rfl
        refine H.nw' fun w9 H9 he9 => ?_
        simp only [List.cons_append, List.nil_append] at H9
        have hb1 := ordT_len hlen l
        have hb2 : (idxT lens (l + 1) i).length ≤ i := cntT_le lens (l + 1) i
        have hrl := hrow.1
        rw [ints_len, ordI_len, List.length_append] at hrl
        obtain ⟨s4, w10, g1, g2, g3, g4, g5⟩ := elI.app1 (ty := 72) (ys := [.int .i64 (i : Int)]) (hrow.keep he9 fun _ _ h => h) (H9.get 1 rfl) rfl (by intro v hv; rw [List.mem_singleton.1 hv]; rfl) (by omega) (by omega)
        refine ⟨s4, w10, g1, Nn.of ?_⟩
        have own8 : ∀ j, s3.own j → j < w8.heap.size := fun j hj => hrow.own_lt hj
        have H10 := (H9.left (L := [_]) (M := [_])).other g4 fun j hj => ⟨by have := own3 j hj; omega, by have := own3 j hj; simp; omega⟩
        simp only [add_lit, Nat.zero_add]
        have own4 : ∀ j, s4.own j → w3.heap.size < j := fun j hj => by
          rcases g5 j hj with hh | hh
          · exact own3 j hh
          · have := he9.size; omega
        refine H10.st' 0 rfl (by show 34 < 35; omega) fun w11 H he11 => ?_
        simp only [List.set_cons_zero] at H
        refine ⟨lens.length - (i + 1), by omega, i + 1, by rw [i64_id (by omega)]; rfl, by omega, rfl, s4, ?_, own4, H⟩
        have e : ints (ordI (ordT lens l ++ idxT lens (l + 1) (i + 1))) = ints (ordI (ordT lens l ++ idxT lens (l + 1) i)) ++ [.int .i64 (i : Int)] := by
          rw [hsc, ← List.append_assoc, ordI_app, ints_app]
          rfl
        rw [e]
        exact g2.keep he11 fun j hj e => by have := own4 j hj; have e : j = w3.heap.size := e; omega
      · rw [if_neg q3] at hsc
        exact ⟨lens.length - (i + 1), by omega, i + 1, by rw [i64_id (by omega)]; rfl, by omega, rfl, s3, by rw [hsc]; exact hrow, own3, H⟩
    · have : i = lens.length := by omega
      subst this
      exact ⟨15 - (l + 1), by omega, l + 1, by rw [i64_id (by omega)]; rfl, by omega, rfl, s3, hrow, own3, H⟩
  · have : l = 15 := by omega
    subst this
    have z7 := H.lt 0 rfl
    have E := (he1.tr he2).tr he3
    refine ⟨q.symm, E.tr H.ext, fun hh => absurd q hh, fun _ => ⟨_, rfl, r5, r2, s3, H.get 0 rfl, (v5.keep he3).keep H.ext, ((v2.keep he2).keep he3).keep H.ext, IV.row hrow, row_cap hrow, ⟨by omega, z7⟩, fun j hj => ?_, fun j hj => ?_, fun j hj => ?_⟩⟩
    · have := o5 j hj; omega
    · have := o2 j hj; omega
    · have := own3 j hj; have := hrow.own_lt hj; omega
theorem getD_app {l m : List Int} {i : Nat} (h : i < l.length) : (l ++ m).getD i 0 = l.getD i 0 := by
  rw [List.getD_eq_getElem?_getD, List.getElem?_append_left h, List.getD_eq_getElem?_getD]
theorem ordI_get (l : List Nat) (i : Nat) : (ordI l).getD i 0 = ((l.getD i 0 : Nat) : Int) := by
  unfold ordI
  rw [List.getD_eq_getElem?_getD, List.getElem?_map, List.getD_eq_getElem?_getD]
  cases l[i]? <;> rfl
theorem sgo_zero {lens : List Int} {b : ByteArray} {n : Nat} {c f : Int} {p : Nat} : sgo lens b 0 n c f p = .error 13 := rfl
/-- What a table's Read answers. -/
def TR (lens : List Int) (b : ByteArray) (p : Nat) (v e : Int) (q : Nat) : Prop := (∃ g : Nat, sym lens b p = .ok (g, q) ∧ v = (g : Int) ∧ e = 0) ∨ (sym lens b p = .error e ∧ e ≠ 0)
end
end Inf
end Go.Proofs.Ytjkoafjnmkchdaa

/- Slices of bytes that own their row: append, the string of them. Condition: sizes below 2^40. -/
namespace Go.Proofs.Ytjkoafjnmkchdaa
namespace Sh
set_option linter.unusedVariables false
set_option linter.unusedSimpArgs false

/-- The cells of these bytes. -/
def bcs (l : List UInt8) : List Value := l.map fun b => .int .u8 (b.toNat : Int)
theorem bcs_len (l : List UInt8) : (bcs l).length = l.length := by simp [bcs]
theorem bcs_append (l m : List UInt8) : bcs (l ++ m) = bcs l ++ bcs m := by simp [bcs]
theorem bcs_one (l : List UInt8) : ∀ v ∈ bcs l, v.oneCell' = true := by
  intro v hv
  obtain ⟨b, _, rfl⟩ := List.mem_map.1 hv
  rfl
theorem bcs_get {l : List UInt8} {i : Nat} {b : UInt8} (h : l[i]? = some b) : (bcs l)[i]? = some (.int .u8 (b.toNat : Int)) := by simp [bcs, h]
/-- A slice of bytes that owns its row. -/
def BRow (w : World) (s : Slc) (l : List UInt8) : Prop := Row w s 5 1 (bcs l)
theorem BRow.len {w : World} {s : Slc} {l : List UInt8} (h : BRow w s l) : s.len = l.length := by
  have := h.1
  rw [bcs_len] at this
  omega
theorem BRow.nil (w : World) : BRow w ⟨none, 0, 0⟩ [] := Row.nil w _ _
theorem BRow.keep {F : Nat → Prop} {w w' : World} {s : Slc} {l : List UInt8} (h : BRow w s l) (he : Ext F w w') (hn : ∀ j, s.own j → ¬ F j) : BRow w' s l := Row.keep h he hn
theorem BRow.own_lt {w : World} {s : Slc} {l : List UInt8} (h : BRow w s l) {j : Nat} (hj : s.own j) : j < w.heap.size := Row.own_lt h hj
theorem BRow.get {w : World} {s : Slc} {l : List UInt8} (h : BRow w s l) {i : Nat} {b : UInt8} (hi : l[i]? = some b) : ∃ g, s.p = some ⟨g, 0, none⟩ ∧ w.cell? ⟨g, i, none⟩ = some (.int .u8 (b.toNat : Int)) := Row.cell h (bcs_get hi)

theorem und_bytes : Try.prog.underlying 40 = some (.slice 5) := by kernel_rfl
theorem und_byte : Try.prog.underlying 5 = some (.int .u8) := by kernel_rfl
theorem und_string : Try.prog.underlying 9 = some .string := by kernel_rfl
theorem info_byte' : (match Try.prog.info? 5 with
  | some i => Nat.beq i.size 1 && Nat.beq i.bytes 1 && (match i.zero with
    | some z => Nat.beq z.cells.size 1
    | none => false)
  | none => false) = true := by kernel_rfl
theorem info_byte : ∃ i z, Try.prog.info? 5 = some i ∧ i.size = 1 ∧ i.bytes = 1 ∧ i.zero = some z ∧ z.cells.size = 1 := by
  have h := info_byte'
  split at h
  · rename_i i hi
    simp only [Bool.and_eq_true] at h
    obtain ⟨⟨h1, h2⟩, h3⟩ := h
    split at h3
    · rename_i z hz
      exact ⟨i, z, hi, Nat.eq_of_beq_eq_true h1, Nat.eq_of_beq_eq_true h2, hz, Nat.eq_of_beq_eq_true h3⟩
    · cases h3
  · cases h

section
variable {w : World} {s : Slc} {ty : TypeId} {l news : List UInt8} {x : Value}
/-- What append answers. -/
def Appended (w : World) (s : Slc) (l : List UInt8) (r : Sem Value) : Prop :=
  ∃ s' w', RunV Try.prog r w (Slc.v s') w' ∧ BRow w' s' l ∧ Ext s.own w w' ∧ ∀ j, s'.own j → s.own j ∨ w.heap.size ≤ j
theorem app_any {u : TypeId} (hu : (∃ e', Try.prog.underlying u = some (.slice e')) ∨ Try.prog.underlying u = some .string)
    (hlen : Builtin.lenOf x = pure news.length) (hcells : ∀ w' : World, w'.heap = w.heap → (Builtin.firstCells 1 news.length x).run Try.prog w' = .ok (bcs news).toArray w')
    (own : BRow w s l) (hb : l.length + news.length ≤ 1099511627776) : Appended w s (l ++ news) (Builtin.append_ #[40, u] ty #[Slc.v s, x]) := by
  obtain ⟨i, z, hi, h1, h2, hz, hzs⟩ := info_byte
  have hsl := own.len
  obtain ⟨s', w', hr, ho, _, he, hf⟩ := append_any (P := Try.prog) (w := w) (s := s) (t := 40) (u := u) (ty := ty) (e := 5) (i := i) (z := z) (xs := bcs l) (news := bcs news) (x := x) (m := news.length)
    und_bytes hu hi hz (by rw [hzs, h1]) hlen (by rw [h1]; exact hcells) (by rw [bcs_len, h1, Nat.mul_one]) (bcs_one news) (by rw [h1]; exact own) (by rw [h2, hsl]; omega) (by rw [hsl]; omega)
  exact ⟨s', w', hr, by unfold BRow; rw [bcs_append, ← h1]; exact ho, he, hf⟩
theorem app_str (own : BRow w s l) (t : ByteArray) (hb : l.length + t.size ≤ 1099511627776) : Appended w s (l ++ t.data.toList) (Builtin.append_ #[40, 9] ty #[Slc.v s, .string t]) := by
  have hl : t.data.toList.length = t.size := Array.length_toList
  have hx : t.extract 0 t.size = t := by simp
  refine app_any (.inr und_string) (by rw [hl]; rfl) (fun w' _ => ?_) own (by rw [hl]; exact hb)
  show Result.ok _ _ = _
  congr 1
  apply Array.ext'
  rw [hl, hx]
  simp [bcs]
theorem app_row {s2 : Slc} {m : List UInt8} (own : BRow w s l) (h2 : BRow w s2 m) (hb : l.length + m.length ≤ 1099511627776) : Appended w s (l ++ m) (Builtin.append_ #[40, 40] ty #[Slc.v s, Slc.v s2]) := by
  refine app_any (.inl ⟨_, und_bytes⟩) (by rw [← h2.len]; rfl) (fun w' hw' => ?_) own hb
  rcases h2.2 with rfl | ⟨g, cur, hp, hg, hle, hsz, htk⟩
  · have : m = [] := List.eq_nil_of_length_eq_zero (by have := h2.len; simpa using this.symm)
    subst this
    exact run_firstCells_none (P := Try.prog) (w := w') 1 0 0 0
  · obtain ⟨p, len, cap⟩ := s2
    simp only at hp
    subst hp
    refine run_firstCells_some w' 1 m.length ⟨g, 0, none⟩ len cap (bcs m) (by rw [bcs_len, Nat.mul_one]) fun j v hj => ?_
    obtain ⟨g', hg', h⟩ := Row.cell h2 hj
    cases hg'
    simpa [World.cell?, hw'] using h
theorem app_one {g : Nat} {b : UInt8} (own : BRow w s l) (hg : Blk w g #[.int .u8 (b.toNat : Int)] 5) (hb : l.length + 1 ≤ 1099511627776) :
    Appended w s (l ++ [b]) (Builtin.append_ #[40, 40] ty #[Slc.v s, Slc.v ⟨some ⟨g, 0, none⟩, 1, 1⟩]) :=
  app_row own (s2 := ⟨some ⟨g, 0, none⟩, 1, 1⟩) (m := [b]) ⟨rfl, .inr ⟨g, _, rfl, hg, Nat.le_refl _, rfl, rfl⟩⟩ hb

theorem strOfNums_bytes (l : List UInt8) : strOfNums (l.map fun b => (b.toNat : Int)) = ⟨l.toArray⟩ := by
  unfold strOfNums
  congr 1
  simp [Function.comp_def]
/-- string(b). -/
theorem str_row (h : BRow w s l) : RunV Try.prog (convert 40 9 (Slc.v s)) w (.string ⟨l.toArray⟩) w := by
  rcases h.2 with rfl | ⟨g, cur, hp, hg, hle, hsz, htk⟩
  · have : l = [] := List.eq_nil_of_length_eq_zero (by have := h.len; simpa using this.symm)
    subst this
    exact run_convert_bytes_nil w _ _ und_bytes und_byte 0 0 _ und_string
  · obtain ⟨p, len, cap⟩ := s
    simp only at hp
    subst hp
    have := run_convert_bytes_arg (P := Try.prog) w 40 5 und_bytes und_byte g 0 len cap (l.map fun b => (b.toNat : Int)) (by rw [List.length_map]; exact h.len.symm) (fun i hi => by
      have hil : i < l.length := by have := h.len; simp only at this; omega
      obtain ⟨g', hg', hc⟩ := h.get (List.getElem?_eq_getElem hil)
      cases hg'
      rw [Nat.zero_add, hc]
      simp [List.getD, hil]) 9 und_string
    rw [strOfNums_bytes] at this
    exact this
/-- One byte of a row is stored. -/
theorem BRow.set (h : BRow w s l) {i : Nat} (hi : i < l.length) (b : UInt8) : ∃ g, s.p = some ⟨g, 0, none⟩ ∧ CanSt w ⟨g, i, none⟩ ∧ BRow (w.setCell ⟨g, i, none⟩ (.int .u8 (b.toNat : Int))) s (l.set i b) ∧ Ext (· = g) w (w.setCell ⟨g, i, none⟩ (.int .u8 (b.toNat : Int))) := by
  rcases h.2 with rfl | ⟨g, cur, hp, hg, hle, hsz, htk⟩
  · have := h.len
    simp only at this
    omega
  · have hlen := h.len
    have hlt : i < cur.size := by omega
    refine ⟨g, hp, hg.can hlt, ⟨by rw [bcs_len, List.length_set, hlen, Nat.mul_one], .inr ⟨g, _, hp, hg.set i _, hle, by simpa using hsz, ?_⟩⟩, (Ext.refl (· = g) w).set (.inl rfl) _⟩
    rw [Array.toList_setIfInBounds, List.take_set, htk]
    simp [bcs, List.map_set]
end
end Sh
end Go.Proofs.Ytjkoafjnmkchdaa

/- The formulas of 13 functions of the program, written by program (gen.py); the kernel checks each. No condition. -/
namespace Go.Proofs.Ytjkoafjnmkchdaa
open Sh
set_option linter.unusedVariables false
set_option maxRecDepth 100000

def C88 (x1 : Int) (y2 : Int) (w : World) (R : Int → Int → World → Prop) : Prop :=
  Calls Try.prog 88 #[.int .u64 x1, .int .u64 y2] w fun e w' => ∃ r0 : Int, ∃ r1 : Int, e = .returned (.tuple #[.int .u64 r0, .int .u64 r1]) ∧ R r0 r1 w'
theorem C88.mono {x1 : Int} {y2 : Int} {w : World} {R R' : Int → Int → World → Prop} (h : C88 x1 y2 w R) (hr : ∀ r0 r1 w', R r0 r1 w' → R' r0 r1 w') : C88 x1 y2 w R' :=
  Calls.mono h fun _ _ ⟨r0, r1, he, hR⟩ => ⟨r0, r1, he, hr _ _ _ hR⟩
def C77 (x1 : Int) (y2 : Int) (w : World) (R : Int → Int → World → Prop) : Prop :=
  Calls Try.prog 77 #[.int .u64 x1, .int .u64 y2] w fun e w' => ∃ r0 : Int, ∃ r1 : Int, e = .returned (.tuple #[.int .u64 r0, .int .u64 r1]) ∧ R r0 r1 w'
theorem C77.mono {x1 : Int} {y2 : Int} {w : World} {R R' : Int → Int → World → Prop} (h : C77 x1 y2 w R) (hr : ∀ r0 r1 w', R r0 r1 w' → R' r0 r1 w') : C77 x1 y2 w R' :=
  Calls.mono h fun _ _ ⟨r0, r1, he, hR⟩ => ⟨r0, r1, he, hr _ _ _ hR⟩
def C61 (x1 : Slc) (count2 : Int) (w : World) (R : Slc → World → Prop) (PR : Value → World → Prop) : Prop :=
  Calls Try.prog 61 #[Slc.v x1, .int .i64 count2] w fun e w' => (∃ r0 : Slc, e = .returned (Slc.v r0) ∧ R r0 w') ∨ ∃ v, e = .panicked (onePanic v) ∧ PR v w'
theorem C61.mono {x1 : Slc} {count2 : Int} {w : World} {R R' : Slc → World → Prop} {PR PR' : Value → World → Prop} (h : C61 x1 count2 w R PR) (hr : ∀ r0 w', R r0 w' → R' r0 w') (hp : ∀ v w', PR v w' → PR' v w') : C61 x1 count2 w R' PR' :=
  Calls.mono h fun _ _ he => he.elim (fun ⟨r0, he, hR⟩ => .inl ⟨r0, he, hr _ _ hR⟩) fun ⟨v, he, hP⟩ => .inr ⟨v, he, hp _ _ hP⟩
def C41 (w : World) (R : Slc → Slc → World → Prop) (PR : Value → World → Prop) : Prop :=
  Calls Try.prog 41 #[] w fun e w' => (∃ r0 : Slc, ∃ r1 : Slc, e = .returned (.tuple #[Slc.v r0, Slc.v r1]) ∧ R r0 r1 w') ∨ ∃ v, e = .panicked (onePanic v) ∧ PR v w'
theorem C41.mono {w : World} {R R' : Slc → Slc → World → Prop} {PR PR' : Value → World → Prop} (h : C41 w R PR) (hr : ∀ r0 r1 w', R r0 r1 w' → R' r0 r1 w') (hp : ∀ v w', PR v w' → PR' v w') : C41 w R' PR' :=
  Calls.mono h fun _ _ he => he.elim (fun ⟨r0, r1, he, hR⟩ => .inl ⟨r0, r1, he, hr _ _ _ hR⟩) fun ⟨v, he, hP⟩ => .inr ⟨v, he, hp _ _ hP⟩
def C26 (s1 : ByteArray) (vat2 : Int) (n3 : Int) (w : World) (R : Int → Int → Int → World → Prop) : Prop :=
  Calls Try.prog 26 #[.string s1, .int .i64 vat2, .int .i64 n3] w fun e w' => ∃ r0 : Int, ∃ r1 : Int, ∃ r2 : Int, e = .returned (.tuple #[.int .i64 r0, .int .i64 r1, .int .i64 r2]) ∧ R r0 r1 r2 w'
theorem C26.mono {s1 : ByteArray} {vat2 : Int} {n3 : Int} {w : World} {R R' : Int → Int → Int → World → Prop} (h : C26 s1 vat2 n3 w R) (hr : ∀ r0 r1 r2 w', R r0 r1 r2 w' → R' r0 r1 r2 w') : C26 s1 vat2 n3 w R' :=
  Calls.mono h fun _ _ ⟨r0, r1, r2, he, hR⟩ => ⟨r0, r1, r2, he, hr _ _ _ _ hR⟩
def C52 (s1 : ByteArray) (vfrom2 : Int) (out3 : Slc) (most4 : Int) (w : World) (R : Slc → Int → Int → World → Prop) : Prop :=
  Calls Try.prog 52 #[.string s1, .int .i64 vfrom2, Slc.v out3, .int .i64 most4] w fun e w' => ∃ r0 : Slc, ∃ r1 : Int, ∃ r2 : Int, e = .returned (.tuple #[Slc.v r0, .int .i64 r1, .int .i64 r2]) ∧ R r0 r1 r2 w'
theorem C52.mono {s1 : ByteArray} {vfrom2 : Int} {out3 : Slc} {most4 : Int} {w : World} {R R' : Slc → Int → Int → World → Prop} (h : C52 s1 vfrom2 out3 most4 w R) (hr : ∀ r0 r1 r2 w', R r0 r1 r2 w' → R' r0 r1 r2 w') : C52 s1 vfrom2 out3 most4 w R' :=
  Calls.mono h fun _ _ ⟨r0, r1, r2, he, hR⟩ => ⟨r0, r1, r2, he, hr _ _ _ _ hR⟩
def C53 (w : World) (R : Slc → Slc → World → Prop) : Prop :=
  Calls Try.prog 53 #[] w fun e w' => ∃ r0 : Slc, ∃ r1 : Slc, e = .returned (.tuple #[Slc.v r0, Slc.v r1]) ∧ R r0 r1 w'
theorem C53.mono {w : World} {R R' : Slc → Slc → World → Prop} (h : C53 w R) (hr : ∀ r0 r1 w', R r0 r1 w' → R' r0 r1 w') : C53 w R' :=
  Calls.mono h fun _ _ ⟨r0, r1, he, hR⟩ => ⟨r0, r1, he, hr _ _ _ hR⟩
def C71 (s1 : ByteArray) (vat2 : Int) (lens3 : Slc) (many4 : Int) (w : World) (R : Slc → Int → Int → World → Prop) : Prop :=
  Calls Try.prog 71 #[.string s1, .int .i64 vat2, Slc.v lens3, .int .i64 many4] w fun e w' => ∃ r0 : Slc, ∃ r1 : Int, ∃ r2 : Int, e = .returned (.tuple #[Slc.v r0, .int .i64 r1, .int .i64 r2]) ∧ R r0 r1 r2 w'
theorem C71.mono {s1 : ByteArray} {vat2 : Int} {lens3 : Slc} {many4 : Int} {w : World} {R R' : Slc → Int → Int → World → Prop} (h : C71 s1 vat2 lens3 many4 w R) (hr : ∀ r0 r1 r2 w', R r0 r1 r2 w' → R' r0 r1 r2 w') : C71 s1 vat2 lens3 many4 w R' :=
  Calls.mono h fun _ _ ⟨r0, r1, r2, he, hR⟩ => ⟨r0, r1, r2, he, hr _ _ _ _ hR⟩
def C54 (s1 : ByteArray) (vfrom2 : Int) (w : World) (R : Slc → Slc → Int → Int → World → Prop) : Prop :=
  Calls Try.prog 54 #[.string s1, .int .i64 vfrom2] w fun e w' => ∃ r0 : Slc, ∃ r1 : Slc, ∃ r2 : Int, ∃ r3 : Int, e = .returned (.tuple #[Slc.v r0, Slc.v r1, .int .i64 r2, .int .i64 r3]) ∧ R r0 r1 r2 r3 w'
theorem C54.mono {s1 : ByteArray} {vfrom2 : Int} {w : World} {R R' : Slc → Slc → Int → Int → World → Prop} (h : C54 s1 vfrom2 w R) (hr : ∀ r0 r1 r2 r3 w', R r0 r1 r2 r3 w' → R' r0 r1 r2 r3 w') : C54 s1 vfrom2 w R' :=
  Calls.mono h fun _ _ ⟨r0, r1, r2, r3, he, hR⟩ => ⟨r0, r1, r2, r3, he, hr _ _ _ _ _ hR⟩
def C74 (s1 : ByteArray) (vat2 : Int) (sign3 : Int) (far4 : Slc) (out5 : Slc) (most6 : Int) (w : World) (R : Slc → Int → Int → World → Prop) : Prop :=
  Calls Try.prog 74 #[.string s1, .int .i64 vat2, .int .i64 sign3, Slc.v far4, Slc.v out5, .int .i64 most6] w fun e w' => ∃ r0 : Slc, ∃ r1 : Int, ∃ r2 : Int, e = .returned (.tuple #[Slc.v r0, .int .i64 r1, .int .i64 r2]) ∧ R r0 r1 r2 w'
theorem C74.mono {s1 : ByteArray} {vat2 : Int} {sign3 : Int} {far4 : Slc} {out5 : Slc} {most6 : Int} {w : World} {R R' : Slc → Int → Int → World → Prop} (h : C74 s1 vat2 sign3 far4 out5 most6 w R) (hr : ∀ r0 r1 r2 w', R r0 r1 r2 w' → R' r0 r1 r2 w') : C74 s1 vat2 sign3 far4 out5 most6 w R' :=
  Calls.mono h fun _ _ ⟨r0, r1, r2, he, hR⟩ => ⟨r0, r1, r2, he, hr _ _ _ _ hR⟩
def C56 (s1 : ByteArray) (vat2 : Int) (near3 : Slc) (far4 : Slc) (out5 : Slc) (most6 : Int) (w : World) (R : Slc → Int → Int → World → Prop) : Prop :=
  Calls Try.prog 56 #[.string s1, .int .i64 vat2, Slc.v near3, Slc.v far4, Slc.v out5, .int .i64 most6] w fun e w' => ∃ r0 : Slc, ∃ r1 : Int, ∃ r2 : Int, e = .returned (.tuple #[Slc.v r0, .int .i64 r1, .int .i64 r2]) ∧ R r0 r1 r2 w'
theorem C56.mono {s1 : ByteArray} {vat2 : Int} {near3 : Slc} {far4 : Slc} {out5 : Slc} {most6 : Int} {w : World} {R R' : Slc → Int → Int → World → Prop} (h : C56 s1 vat2 near3 far4 out5 most6 w R) (hr : ∀ r0 r1 r2 w', R r0 r1 r2 w' → R' r0 r1 r2 w') : C56 s1 vat2 near3 far4 out5 most6 w R' :=
  Calls.mono h fun _ _ ⟨r0, r1, r2, he, hR⟩ => ⟨r0, r1, r2, he, hr _ _ _ _ hR⟩
def C27 (s1 : ByteArray) (vat2 : Int) (kind3 : Int) (out4 : Slc) (most5 : Int) (w : World) (R : Slc → Int → Int → World → Prop) : Prop :=
  Calls Try.prog 27 #[.string s1, .int .i64 vat2, .int .i64 kind3, Slc.v out4, .int .i64 most5] w fun e w' => ∃ r0 : Slc, ∃ r1 : Int, ∃ r2 : Int, e = .returned (.tuple #[Slc.v r0, .int .i64 r1, .int .i64 r2]) ∧ R r0 r1 r2 w'
theorem C27.mono {s1 : ByteArray} {vat2 : Int} {kind3 : Int} {out4 : Slc} {most5 : Int} {w : World} {R R' : Slc → Int → Int → World → Prop} (h : C27 s1 vat2 kind3 out4 most5 w R) (hr : ∀ r0 r1 r2 w', R r0 r1 r2 w' → R' r0 r1 r2 w') : C27 s1 vat2 kind3 out4 most5 w R' :=
  Calls.mono h fun _ _ ⟨r0, r1, r2, he, hR⟩ => ⟨r0, r1, r2, he, hr _ _ _ _ hR⟩
def C10 (s1 : ByteArray) (most2 : Int) (w : World) (R : ByteArray → Int → Int → World → Prop) : Prop :=
  Calls Try.prog 10 #[.string s1, .int .i64 most2] w fun e w' => ∃ r0 : ByteArray, ∃ r1 : Int, ∃ r2 : Int, e = .returned (.tuple #[.string r0, .int .i64 r1, .int .i64 r2]) ∧ R r0 r1 r2 w'
theorem C10.mono {s1 : ByteArray} {most2 : Int} {w : World} {R R' : ByteArray → Int → Int → World → Prop} (h : C10 s1 most2 w R) (hr : ∀ r0 r1 r2 w', R r0 r1 r2 w' → R' r0 r1 r2 w') : C10 s1 most2 w R' :=
  Calls.mono h fun _ _ ⟨r0, r1, r2, he, hR⟩ => ⟨r0, r1, r2, he, hr _ _ _ _ hR⟩

/-- math/bits.Mul64 -/
def S88 (x1 : Int) (y2 : Int) (w : World) (R : Int → Int → World → Prop) : Prop :=
  Lt (Int.fdiv (IntKind.u64.wrap ((iand .u64 x1 4294967295) * (iand .u64 y2 4294967295))) (2 ^ 32)) fun (x3 : Int) =>
  Lt (IntKind.u64.wrap ((IntKind.u64.wrap ((Int.fdiv x1 (2 ^ 32)) * (iand .u64 y2 4294967295))) + x3)) fun (x4 : Int) =>
  Lt (IntKind.u64.wrap ((iand .u64 x4 4294967295) + (IntKind.u64.wrap ((iand .u64 x1 4294967295) * (Int.fdiv y2 (2 ^ 32)))))) fun (x5 : Int) =>
  Lt (IntKind.u64.wrap ((IntKind.u64.wrap ((Int.fdiv x1 (2 ^ 32)) * (Int.fdiv y2 (2 ^ 32)))) + (Int.fdiv x4 (2 ^ 32)))) fun (x6 : Int) =>
  R (IntKind.u64.wrap (x6 + (Int.fdiv x5 (2 ^ 32)))) (IntKind.u64.wrap (x1 * y2)) w
def pl88 : Plan := (.seq (.reg .seq) (.seq (.reg .seq) (.seq (.reg .seq) (.seq (.reg .seq) (.seq (.reg .seq) (.seq (.reg .seq) (.seq (.reg .seq) (.seq (.reg .seq) (.seq (.reg .seq) (.seq (.reg .seq) (.seq (.reg .seq) (.seq (.reg .seq) .leaf))))))))))))
set_option maxRecDepth 100000 in
theorem T88 (x1 : Int) (y2 : Int) (w : World) (R : Int → Int → World → Prop) (h : S88 x1 y2 w R) : C88 x1 y2 w R := by
  have e : fnT Try.prog ⟨FF, MAY, (fun _ _ => False)⟩ pl88 Try.f88 [.int .u64 x1, .int .u64 y2] w [(.one (.int .u64)), (.one (.int .u64))] (fun s w => R s.1 s.2 w) = S88 x1 y2 w R := by kernel_rfl
  exact (fn_calls okF okM Try.func88 (by kernel_rfl) (by kernel_rfl) (e.mpr h)).mono fun _ _ ⟨s, he, hR⟩ => ⟨s.1, s.2, he, hR⟩

/-- math/bits.Mul -/
def S77 (x1 : Int) (y2 : Int) (w : World) (R : Int → Int → World → Prop) : Prop :=
  C88 x1 y2 w fun r3 r4 vw5 =>
    R r3 r4 vw5
def pl77 : Plan := (.seq (.reg .seq) (.seq (.cond (.seq (.reg .seq) (.seq (.reg .seq) .leaf)) .leaf) (.seq (.reg .seq) (.seq (.reg .seq) .leaf))))
set_option maxRecDepth 100000 in
theorem T77 (x1 : Int) (y2 : Int) (w : World) (R : Int → Int → World → Prop) (h : S77 x1 y2 w R) : C77 x1 y2 w R := by
  have e : fnT Try.prog ⟨FF, MAY, (fun _ _ => False)⟩ pl77 Try.f77 [.int .u64 x1, .int .u64 y2] w [(.one (.int .u64)), (.one (.int .u64))] (fun s w => R s.1 s.2 w) = S77 x1 y2 w R := by kernel_rfl
  exact (fn_calls okF okM Try.func77 (by kernel_rfl) (by kernel_rfl) (e.mpr h)).mono fun _ _ ⟨s, he, hR⟩ => ⟨s.1, s.2, he, hR⟩

def S61L1 (x6 : Slc) (R : Slc → World → Prop) (I12 : Int → World → Prop) (s10 : Int) (vw11 : World) : Prop :=
  Br (decide (s10 < ((x6.len : Nat) : Int))) (0 ≤ s10 ∧ s10 ≤ ((x6.len : Nat) : Int) ∧ 0 ≤ s10 ∧ s10 ≤ ((x6.cap : Nat) : Int) ∧ Rn Try.prog (Builtin.copy_ #[72, 72] 3 #[Slc.v (x6.cut 1 ((s10).toNat) x6.len x6.cap), Slc.v (x6.cut 1 0 ((s10).toNat) x6.cap)]) vw11.drew (Value.int .i64) fun (x13 : Int) vw14 =>
    I12 (IntKind.i64.wrap (s10 + x13)) vw14) (R x6 vw11)
/-- slices.Repeat[[]int,int] -/
def S61 (x1 : Slc) (count2 : Int) (w : World) (R : Slc → World → Prop) (PR : Value → World → Prop) : Prop :=
  Br (decide (count2 < 0)) (PR (.iface 9 (.string ((⟨#[99, 97, 110, 110, 111, 116, 32, 98, 101, 32, 110, 101, 103, 97, 116, 105, 118, 101]⟩ : ByteArray)))) w) (C77 (IntKind.u64.wrap ((x1.len : Nat) : Int)) (IntKind.u64.wrap count2) w fun r3 r4 vw5 =>
      Br (decide (r3 > 0)) (PR (.iface 9 (.string ((⟨#[116, 104, 101, 32, 114, 101, 115, 117, 108, 116, 32, 111, 102, 32, 40, 108, 101, 110, 40, 120, 41, 32, 42, 32, 99, 111, 117, 110, 116, 41, 32, 111, 118, 101, 114, 102, 108, 111, 119, 115]⟩ : ByteArray)))) vw5) (Br (decide (r4 > 9223372036854775807)) (PR (.iface 9 (.string ((⟨#[116, 104, 101, 32, 114, 101, 115, 117, 108, 116, 32, 111, 102, 32, 40, 108, 101, 110, 40, 120, 41, 32, 42, 32, 99, 111, 117, 110, 116, 41, 32, 111, 118, 101, 114, 102, 108, 111, 119, 115]⟩ : ByteArray)))) vw5) (Rn Try.prog (Instr.makeSlice 72 (.int .i64 (IntKind.i64.wrap r4)) (.int .i64 (IntKind.i64.wrap r4))) vw5 Slc.v fun (x6 : Slc) vw7 =>
          Rn Try.prog (Builtin.copy_ #[72, 72] 3 #[Slc.v x6, Slc.v x1]) vw7 (Value.int .i64) fun (x8 : Int) vw9 =>
          Lp (σ := Int) (S61L1 x6 R) x8 vw9)))
def pl61 : Plan := (.seq (.reg .seq) (.seq (.seq (.reg .seq) (.cond (.reg .seq) .leaf)) (.seq (.reg .seq) (.seq (.seq (.reg .seq) (.cond (.reg .seq) .leaf)) (.seq (.reg .seq) (.seq (.reg .seq) (.seq (.block (.loop [(8, (.one (.int .i64)))] [7] (.seq (.seq (.reg .seq) (.cond .leaf .leaf)) (.block (.reg (.held [7] (.take 0 (.take 1 (.take 2 (.take 3 (.take 4 (.take 5 (.take 6 (.eff 7 (some []) (.take 8 (.take 9 .done)))))))))))))))) (.seq (.reg .seq) .leaf))))))))
set_option maxRecDepth 100000 in
theorem T61 (x1 : Slc) (count2 : Int) (w : World) (R : Slc → World → Prop) (PR : Value → World → Prop) (h : S61 x1 count2 w R PR) : C61 x1 count2 w R PR := by
  have e : fnT Try.prog ⟨FF, MAY, PR⟩ pl61 Try.f61 [Slc.v x1, .int .i64 count2] w [(.one .slc)] (fun s w => R s w) = S61 x1 count2 w R PR := by kernel_rfl
  exact (fn_callsP okF okM Try.func61 (by kernel_rfl) (by kernel_rfl) (e.mpr h)).mono fun _ _ he => he.elim (fun ⟨s, he, hR⟩ => .inl ⟨s, he, hR⟩) .inr

def S41L1 (R : Slc → Slc → World → Prop) (PR : Value → World → Prop) (I17 : (Slc × Int) → World → Prop) (s15 : Slc × Int) (vw16 : World) : Prop :=
  Br (decide (s15.2 < 4)) (0 ≤ s15.2 ∧ s15.2 < (4 : Nat) ∧ ∃ x18 : Int × Int, (#[.int .i64 144, .int .i64 8, .int .i64 112, .int .i64 9, .int .i64 24, .int .i64 7, .int .i64 8, .int .i64 8] : Array Value).extract ((s15.2).toNat * 2) ((s15.2).toNat * 2 + 2) = #[.int .i64 (x18.1), .int .i64 (x18.2)] ∧ Nw vw16 (.cells #[.int .i64 0, .int .i64 0] 106) fun vw19 =>
    St vw19 (⟨vw16.heap.size, 0, none⟩ : Addr) (.int .i64 (x18.1)) fun vw20 =>
    St vw20 ((⟨vw16.heap.size, 0, none⟩ : Addr).add 1) (.int .i64 (x18.2)) fun vw21 =>
    Ld vw21 ((⟨vw16.heap.size, 0, none⟩ : Addr).add 1) (Value.int .i64) fun (x22 : Int) =>
    Nw vw21 (.cells #[.int .i64 x22] 3) fun vw23 =>
    Ld vw23 (⟨vw16.heap.size, 0, none⟩ : Addr) (Value.int .i64) fun (x24 : Int) =>
    C61 (⟨some ⟨vw21.heap.size, 0, none⟩, 1, 1⟩ : Slc) x24 vw23 (fun r25 vw26 =>
      Rn Try.prog (Builtin.append_ #[72, 72] 72 #[Slc.v s15.1, Slc.v r25]) vw26 Slc.v fun (x27 : Slc) vw28 =>
      I17 (x27, IntKind.i64.wrap (s15.2 + 1)) vw28) PR) (Nw vw16 (.cells #[.int .i64 5] 3) fun vw29 =>
    C61 (⟨some ⟨vw16.heap.size, 0, none⟩, 1, 1⟩ : Slc) 32 vw29 (fun r30 vw31 =>
      R s15.1 r30 vw31) PR)
/-- foliant/inflate.Fixed -/
def S41 (w : World) (R : Slc → Slc → World → Prop) (PR : Value → World → Prop) : Prop :=
  Lp (σ := Slc × Int) (S41L1 R PR) ((⟨none, 0, 0⟩ : Slc), 0) w
def pl41 : Plan := (.seq (.reg .seq) (.seq (.seq (.reg .seq) (.block (.loop [(0, (.one .slc)), (9, (.one (.int .i64)))] [8] (.seq (.reg .seq) (.seq (.cond .leaf .leaf) (.seq (.block (.seq (.reg .seq) (.reg .seq))) (.reg .seq))))))) (.seq (.reg .seq) .leaf)))
set_option maxRecDepth 100000 in
theorem T41 (w : World) (R : Slc → Slc → World → Prop) (PR : Value → World → Prop) (h : S41 w R PR) : C41 w R PR := by
  have e : fnT Try.prog ⟨FF, MAY, PR⟩ pl41 Try.f41 [] w [(.one .slc), (.one .slc)] (fun s w => R s.1 s.2 w) = S41 w R PR := by kernel_rfl
  exact (fn_callsP okF okM Try.func41 (by kernel_rfl) (by kernel_rfl) (e.mpr h)).mono fun _ _ he => he.elim (fun ⟨s, he, hR⟩ => .inl ⟨s.1, s.2, he, hR⟩) .inr

def S26L1 (s1 : ByteArray) (vat2 : Int) (n3 : Int) (R : Int → Int → Int → World → Prop) (I12 : (Int × Int) → World → Prop) (s10 : Int × Int) (vw11 : World) : Prop :=
  Br (decide (s10.2 < n3)) (C51 s1 (IntKind.i64.wrap (vat2 + s10.2)) vw11 fun r13 vw14 =>
      Br (decide (r13 < 0)) (R 0 0 4 vw14) (0 ≤ (IntKind.u64.wrap s10.2) ∧ Lt (IntKind.i64.wrap (s10.1 + (IntKind.i64.wrap (r13 * 2 ^ (min (IntKind.u64.wrap s10.2).toNat 64))))) fun (x15 : Int) =>
        I12 (x15, IntKind.i64.wrap (s10.2 + 1)) vw14)) (R s10.1 (IntKind.i64.wrap (vat2 + n3)) 0 vw11)
/-- foliant/foliantref11.number -/
def S26 (s1 : ByteArray) (vat2 : Int) (n3 : Int) (w : World) (R : Int → Int → Int → World → Prop) : Prop :=
  Lp (σ := Int × Int) (S26L1 s1 vat2 n3 R) (0, 0) w
def pl26 : Plan := (.seq (.reg .seq) (.seq (.reg .seq) (.seq (.seq (.reg .seq) (.block (.loop [(9, (.one (.int .i64))), (10, (.one (.int .i64)))] [0, 1, 2] (.seq (.seq (.reg .seq) (.cond .leaf .leaf)) (.seq (.block (.seq (.reg .seq) (.seq (.seq (.reg .seq) (.cond (.seq (.reg .seq) .leaf) .leaf)) (.reg .seq)))) (.reg .seq)))))) (.seq (.reg .seq) .leaf))))
set_option maxRecDepth 100000 in
theorem T26 (s1 : ByteArray) (vat2 : Int) (n3 : Int) (w : World) (R : Int → Int → Int → World → Prop) (h : S26 s1 vat2 n3 w R) : C26 s1 vat2 n3 w R := by
  have e : fnT Try.prog ⟨FF, MAY, (fun _ _ => False)⟩ pl26 Try.f26 [.string s1, .int .i64 vat2, .int .i64 n3] w [(.one (.int .i64)), (.one (.int .i64)), (.one (.int .i64))] (fun s w => R s.1 s.2.1 s.2.2 w) = S26 s1 vat2 n3 w R := by kernel_rfl
  exact (fn_calls okF okM Try.func26 (by kernel_rfl) (by kernel_rfl) (e.mpr h)).mono fun _ _ ⟨s, he, hR⟩ => ⟨s.1, s.2.1, s.2.2, he, hR⟩

/-- foliant/foliantref11.stored -/
def S52 (s1 : ByteArray) (vfrom2 : Int) (out3 : Slc) (most4 : Int) (w : World) (R : Slc → Int → Int → World → Prop) : Prop :=
  C26 s1 (IntKind.i64.wrap ((IntKind.i64.wrap (Int.tdiv (IntKind.i64.wrap (vfrom2 + 7)) 8)) * 8)) 16 w fun r5 r6 r7 vw8 =>
    Br (r7 != 0) (R (⟨none, 0, 0⟩ : Slc) 0 r7 vw8) (C26 s1 r6 16 vw8 fun r9 r10 r11 vw12 =>
        Br (r11 != 0) (R (⟨none, 0, 0⟩ : Slc) 0 r11 vw12) (Br (r9 != (IntKind.i64.wrap (65535 - r5))) (R (⟨none, 0, 0⟩ : Slc) 0 3 vw12) (Br (decide (r5 > (IntKind.i64.wrap (most4 - ((out3.len : Nat) : Int))))) (R (⟨none, 0, 0⟩ : Slc) 0 5 vw12) (Lt (decide (r5 > (IntKind.i64.wrap ((((s1).size : Nat) : Int) - (IntKind.i64.wrap (Int.tdiv r10 8)))))) fun (x14 : Bool) =>
              Br x14 (R (⟨none, 0, 0⟩ : Slc) 0 4 vw12) (0 ≤ (IntKind.i64.wrap ((IntKind.i64.wrap (Int.tdiv r10 8)) + r5)) ∧ (IntKind.i64.wrap ((IntKind.i64.wrap (Int.tdiv r10 8)) + r5)) ≤ (((s1).size : Nat) : Int) ∧ 0 ≤ (IntKind.i64.wrap (Int.tdiv r10 8)) ∧ (IntKind.i64.wrap (Int.tdiv r10 8)) ≤ (((IntKind.i64.wrap ((IntKind.i64.wrap (Int.tdiv r10 8)) + r5)).toNat : Nat) : Int) ∧ Lt (s1.extract ((IntKind.i64.wrap (Int.tdiv r10 8)).toNat) ((IntKind.i64.wrap ((IntKind.i64.wrap (Int.tdiv r10 8)) + r5)).toNat)) fun (x15 : ByteArray) =>
                Rn Try.prog (Builtin.append_ #[40, 9] 40 #[Slc.v out3, .string x15]) vw12 Slc.v fun (x16 : Slc) vw17 =>
                R x16 (IntKind.i64.wrap (r10 + (IntKind.i64.wrap (8 * r5)))) 0 vw17)))))
def pl52 : Plan := (.seq (.reg .seq) (.seq (.reg .seq) (.seq (.reg .seq) (.seq (.seq (.reg .seq) (.cond (.seq (.reg .seq) .leaf) .leaf)) (.seq (.reg .seq) (.seq (.seq (.reg .seq) (.cond (.seq (.reg .seq) .leaf) .leaf)) (.seq (.seq (.reg .seq) (.cond (.seq (.reg .seq) .leaf) .leaf)) (.seq (.seq (.reg .seq) (.cond (.seq (.reg .seq) .leaf) .leaf)) (.seq (.seq (.reg .seq) (.cond (.seq (.reg .seq) .leaf) .leaf)) (.seq (.reg .seq) .leaf))))))))))
set_option maxRecDepth 100000 in
theorem T52 (s1 : ByteArray) (vfrom2 : Int) (out3 : Slc) (most4 : Int) (w : World) (R : Slc → Int → Int → World → Prop) (h : S52 s1 vfrom2 out3 most4 w R) : C52 s1 vfrom2 out3 most4 w R := by
  have e : fnT Try.prog ⟨FF, MAY, (fun _ _ => False)⟩ pl52 Try.f52 [.string s1, .int .i64 vfrom2, Slc.v out3, .int .i64 most4] w [(.one .slc), (.one (.int .i64)), (.one (.int .i64))] (fun s w => R s.1 s.2.1 s.2.2 w) = S52 s1 vfrom2 out3 most4 w R := by kernel_rfl
  exact (fn_calls okF okM Try.func52 (by kernel_rfl) (by kernel_rfl) (e.mpr h)).mono fun _ _ ⟨s, he, hR⟩ => ⟨s.1, s.2.1, s.2.2, he, hR⟩

def S53J1 (s16 : Slc × Int) (I18 : (Slc × Int) → World → Prop) (s19 : Int) (vw20 : World) : Prop :=
  Br (decide (s16.2 ≥ 256)) (Br (decide (s16.2 < 280)) (Nw vw20 (.cells #[.int .i64 7] 3) fun vw21 =>
      Rn Try.prog (Builtin.append_ #[72, 72] 72 #[Slc.v s16.1, Slc.v ((⟨some ⟨vw20.heap.size, 0, none⟩, 1, 1⟩ : Slc))]) vw21 Slc.v fun (x22 : Slc) vw23 =>
      I18 (x22, IntKind.i64.wrap (s16.2 + 1)) vw23) (Nw vw20 (.cells #[.int .i64 s19] 3) fun vw24 =>
      Rn Try.prog (Builtin.append_ #[72, 72] 72 #[Slc.v s16.1, Slc.v ((⟨some ⟨vw20.heap.size, 0, none⟩, 1, 1⟩ : Slc))]) vw24 Slc.v fun (x25 : Slc) vw26 =>
      I18 (x25, IntKind.i64.wrap (s16.2 + 1)) vw26)) (Nw vw20 (.cells #[.int .i64 s19] 3) fun vw27 =>
    Rn Try.prog (Builtin.append_ #[72, 72] 72 #[Slc.v s16.1, Slc.v ((⟨some ⟨vw20.heap.size, 0, none⟩, 1, 1⟩ : Slc))]) vw27 Slc.v fun (x28 : Slc) vw29 =>
    I18 (x28, IntKind.i64.wrap (s16.2 + 1)) vw29)
def S53L1 (s16 : Slc × Int) (R : Slc → Slc → World → Prop) (I33 : (Slc × Int) → World → Prop) (s31 : Slc × Int) (vw32 : World) : Prop :=
  Br (decide (s31.2 < 32)) (Nw vw32 (.cells #[.int .i64 5] 3) fun vw34 =>
    Rn Try.prog (Builtin.append_ #[72, 72] 72 #[Slc.v s31.1, Slc.v ((⟨some ⟨vw32.heap.size, 0, none⟩, 1, 1⟩ : Slc))]) vw34 Slc.v fun (x35 : Slc) vw36 =>
    I33 (x35, IntKind.i64.wrap (s31.2 + 1)) vw36) (R s16.1 s31.1 vw32)
def S53L2 (R : Slc → Slc → World → Prop) (I18 : (Slc × Int) → World → Prop) (s16 : Slc × Int) (vw17 : World) : Prop :=
  Br (decide (s16.2 < 288)) (Join (S53J1 s16 I18) fun (vJ30 : Int → World → Prop) =>
      Br (decide (s16.2 ≥ 144)) (Br (decide (s16.2 < 256)) (vJ30 9 vw17) (vJ30 8 vw17)) (vJ30 8 vw17)) (Lp (σ := Slc × Int) (S53L1 s16 R) ((⟨none, 0, 0⟩ : Slc), 0) vw17)
/-- foliant/foliantref11.Fixed -/
def S53 (w : World) (R : Slc → Slc → World → Prop) : Prop :=
  Lp (σ := Slc × Int) (S53L2 R) ((⟨none, 0, 0⟩ : Slc), 0) w
def pl53 : Plan := (.seq (.reg .seq) (.seq (.reg .seq) (.seq (.seq (.reg .seq) (.block (.loop [(2, (.one .slc)), (4, (.one (.int .i64)))] [3] (.seq (.seq (.reg .seq) (.cond .leaf .leaf)) (.seq (.block (.seq (.reg .seq) (.join [(5, (.one (.int .i64)))] [2, 3, 4] (.seq (.reg .seq) (.cond (.reg .seq) .leaf)) (.seq (.seq (.reg .seq) (.cond (.reg .seq) .leaf)) (.reg .seq))))) (.reg .seq)))))) (.seq (.seq (.reg .seq) (.block (.loop [(3, (.one .slc)), (6, (.one (.int .i64)))] [2] (.seq (.seq (.reg .seq) (.cond .leaf .leaf)) (.seq (.block (.reg .seq)) (.reg .seq)))))) (.seq (.reg .seq) .leaf)))))
set_option maxRecDepth 100000 in
theorem T53 (w : World) (R : Slc → Slc → World → Prop) (h : S53 w R) : C53 w R := by
  have e : fnT Try.prog ⟨FF, MAY, (fun _ _ => False)⟩ pl53 Try.f53 [] w [(.one .slc), (.one .slc)] (fun s w => R s.1 s.2 w) = S53 w R := by kernel_rfl
  exact (fn_calls okF okM Try.func53 (by kernel_rfl) (by kernel_rfl) (e.mpr h)).mono fun _ _ ⟨s, he, hR⟩ => ⟨s.1, s.2, he, hR⟩

def S71L1 (I48 : (Int × Slc) → World → Prop) (s58 : Int) (s62 : Int × Int) (r64 : Int) (r65 : Int) (I71 : (Slc × Int) → World → Prop) (s69 : Slc × Int) (vw70 : World) : Prop :=
  Br (decide (s69.2 < (IntKind.i64.wrap (s62.2 + r64)))) (Nw vw70 (.cells #[.int .i64 s58] 3) fun vw72 =>
    Rn Try.prog (Builtin.append_ #[72, 72] 72 #[Slc.v s69.1, Slc.v ((⟨some ⟨vw70.heap.size, 0, none⟩, 1, 1⟩ : Slc))]) vw72 Slc.v fun (x73 : Slc) vw74 =>
    I71 (x73, IntKind.i64.wrap (s69.2 + 1)) vw74) (I48 (r65, s69.1) vw70)
def S71J1 (s1 : ByteArray) (many4 : Int) (s46 : Int × Slc) (I48 : (Int × Slc) → World → Prop) (r50 : Int) (s58 : Int) (R : Slc → Int → Int → World → Prop) (s62 : Int × Int) (vw63 : World) : Prop :=
  C26 s1 r50 s62.1 vw63 fun r64 r65 r66 vw67 =>
    Br (r66 != 0) (R (⟨none, 0, 0⟩ : Slc) 0 r66 vw67) (Lt (decide ((IntKind.i64.wrap (s62.2 + r64)) > (IntKind.i64.wrap (many4 - ((s46.2.len : Nat) : Int))))) fun (x68 : Bool) =>
      Br x68 (R (⟨none, 0, 0⟩ : Slc) 0 3 vw67) (Lp (σ := Slc × Int) (S71L1 I48 s58 s62 r64 r65) (s46.2, 0) vw67))
def S71J2 (s1 : ByteArray) (many4 : Int) (s46 : Int × Slc) (I48 : (Int × Slc) → World → Prop) (r49 : Int) (r50 : Int) (s58 : Int) (R : Slc → Int → Int → World → Prop) (s60 : Int) (vw61 : World) : Prop :=
  Join (S71J1 s1 many4 s46 I48 r50 s58 R) fun (vJ75 : (Int × Int) → World → Prop) =>
    Br (r49 == 18) (vJ75 (7, 11) vw61) (vJ75 (s60, 3) vw61)
def S71J3 (s1 : ByteArray) (many4 : Int) (s46 : Int × Slc) (I48 : (Int × Slc) → World → Prop) (r49 : Int) (r50 : Int) (R : Slc → Int → Int → World → Prop) (s58 : Int) (vw59 : World) : Prop :=
  Join (S71J2 s1 many4 s46 I48 r49 r50 s58 R) fun (vJ76 : Int → World → Prop) =>
    Br (r49 == 17) (vJ76 3 vw59) (vJ76 2 vw59)
def S71J4 (s1 : ByteArray) (many4 : Int) (s46 : Int × Slc) (I48 : (Int × Slc) → World → Prop) (r49 : Int) (r50 : Int) (R : Slc → Int → Int → World → Prop) (s56 : Unit) (vw57 : World) : Prop :=
  Join (S71J3 s1 many4 s46 I48 r49 r50 R) fun (vJ77 : Int → World → Prop) =>
    Br (r49 == 16) (0 ≤ (IntKind.i64.wrap (((s46.2.len : Nat) : Int) - 1)) ∧ (IntKind.i64.wrap (((s46.2.len : Nat) : Int) - 1)) < (s46.2.len : Nat) ∧ Nn s46.2.p fun a78 =>
      Ld vw57 (a78.add ((IntKind.i64.wrap (((s46.2.len : Nat) : Int) - 1)).toNat * 1)) (Value.int .i64) fun (x79 : Int) =>
      vJ77 x79 vw57) (vJ77 0 vw57)
def S71L2 (s1 : ByteArray) (lens3 : Slc) (many4 : Int) (R : Slc → Int → Int → World → Prop) (I48 : (Int × Slc) → World → Prop) (s46 : Int × Slc) (vw47 : World) : Prop :=
  Br (decide (((s46.2.len : Nat) : Int) < many4)) (C73 lens3 s1 s46.1 vw47 fun r49 r50 r51 vw52 =>
      Br (r51 != 0) (R (⟨none, 0, 0⟩ : Slc) 0 r51 vw52) (Br (decide (r49 < 16)) (Nw vw52 (.cells #[.int .i64 r49] 3) fun vw53 =>
          Rn Try.prog (Builtin.append_ #[72, 72] 72 #[Slc.v s46.2, Slc.v ((⟨some ⟨vw52.heap.size, 0, none⟩, 1, 1⟩ : Slc))]) vw53 Slc.v fun (x54 : Slc) vw55 =>
          I48 (r50, x54) vw55) (Join (S71J4 s1 many4 s46 I48 r49 r50 R) fun (vJ80 : Unit → World → Prop) =>
            Br (r49 == 16) (Br (((s46.2.len : Nat) : Int) == 0) (R (⟨none, 0, 0⟩ : Slc) 0 3 vw52) (vJ80 () vw52)) (vJ80 () vw52)))) (R s46.2 s46.1 0 vw47)
/-- foliant/foliantref11.all -/
def S71 (s1 : ByteArray) (vat2 : Int) (lens3 : Slc) (many4 : Int) (w : World) (R : Slc → Int → Int → World → Prop) : Prop :=
  Lp (σ := Int × Slc) (S71L2 s1 lens3 many4 R) (vat2, (⟨none, 0, 0⟩ : Slc)) w
def pl71 : Plan := (.seq (.reg .seq) (.seq (.reg .seq) (.seq (.block (.loop [(1, (.one (.int .i64))), (11, (.one .slc))] [0, 2, 3] (.seq (.seq (.reg .seq) (.cond .leaf .leaf)) (.block (.seq (.reg .seq) (.seq (.seq (.reg .seq) (.cond (.seq (.reg .seq) .leaf) .leaf)) (.seq (.seq (.reg .seq) (.cond (.seq (.reg .seq) .leaf) .leaf)) (.join [] [0, 2, 3, 11, 12, 13] (.seq (.reg .seq) (.cond (.seq (.reg .seq) .leaf) .leaf)) (.seq (.reg .seq) (.join [(17, (.one (.int .i64)))] [0, 2, 3, 11, 12, 13, 15, 16] (.seq (.reg .seq) (.cond (.reg .seq) .leaf)) (.join [(15, (.one (.int .i64)))] [0, 2, 3, 11, 12, 13, 16, 17] (.seq (.reg .seq) (.cond (.reg .seq) .leaf)) (.join [(15, (.one (.int .i64))), (16, (.one (.int .i64)))] [0, 2, 3, 11, 13, 17] (.seq (.reg .seq) (.cond (.reg .seq) .leaf)) (.seq (.reg .seq) (.seq (.seq (.reg .seq) (.cond (.seq (.reg .seq) .leaf) .leaf)) (.seq (.seq (.reg .seq) (.cond (.seq (.reg .seq) .leaf) .leaf)) (.seq (.seq (.reg .seq) (.block (.loop [(11, (.one .slc)), (21, (.one (.int .i64)))] [0, 2, 3, 16, 17, 18, 19] (.seq (.seq (.reg .seq) (.cond .leaf .leaf)) (.seq (.block (.reg .seq)) (.reg .seq)))))) (.reg .seq))))))))))))))))) (.seq (.reg .seq) .leaf))))
set_option maxRecDepth 100000 in
theorem T71 (s1 : ByteArray) (vat2 : Int) (lens3 : Slc) (many4 : Int) (w : World) (R : Slc → Int → Int → World → Prop) (h : S71 s1 vat2 lens3 many4 w R) : C71 s1 vat2 lens3 many4 w R := by
  have e : fnT Try.prog ⟨FF, MAY, (fun _ _ => False)⟩ pl71 Try.f71 [.string s1, .int .i64 vat2, Slc.v lens3, .int .i64 many4] w [(.one .slc), (.one (.int .i64)), (.one (.int .i64))] (fun s w => R s.1 s.2.1 s.2.2 w) = S71 s1 vat2 lens3 many4 w R := by kernel_rfl
  exact (fn_calls okF okM Try.func71 (by kernel_rfl) (by kernel_rfl) (e.mpr h)).mono fun _ _ ⟨s, he, hR⟩ => ⟨s.1, s.2.1, s.2.2, he, hR⟩

def S54L1 (s1 : ByteArray) (r3 : Int) (r7 : Int) (r11 : Int) (vw14 : World) (x16 : Slc) (R : Slc → Slc → Int → Int → World → Prop) (I31 : (Int × Int) → World → Prop) (s29 : Int × Int) (vw30 : World) : Prop :=
  Br (decide (s29.2 < (IntKind.i64.wrap (r11 + 4)))) (C26 s1 s29.1 3 vw30 fun r32 r33 r34 vw35 =>
      Br (r34 != 0) (R (⟨none, 0, 0⟩ : Slc) (⟨none, 0, 0⟩ : Slc) 0 r34 vw35) (0 ≤ s29.2 ∧ s29.2 < ((⟨some ⟨vw14.heap.size, 0, none⟩, 19, 19⟩ : Slc).len : Nat) ∧ Nn (⟨some ⟨vw14.heap.size, 0, none⟩, 19, 19⟩ : Slc).p fun a36 =>
        Ld vw35 (a36.add ((s29.2).toNat * 1)) (Value.int .i64) fun (x37 : Int) =>
        0 ≤ x37 ∧ x37 < (x16.len : Nat) ∧ Nn x16.p fun a38 =>
        St vw35 (a38.add ((x37).toNat * 1)) (.int .i64 r32) fun vw39 =>
        I31 (r33, IntKind.i64.wrap (s29.2 + 1)) vw39)) (C55 x16 vw30 fun r42 vw43 =>
      Br (r42 != 0) (R (⟨none, 0, 0⟩ : Slc) (⟨none, 0, 0⟩ : Slc) 0 r42 vw43) (C71 s1 s29.1 x16 (IntKind.i64.wrap ((IntKind.i64.wrap ((IntKind.i64.wrap (r3 + 257)) + r7)) + 1)) vw43 fun r44 r45 r46 vw47 =>
          Br (r46 != 0) (R (⟨none, 0, 0⟩ : Slc) (⟨none, 0, 0⟩ : Slc) 0 r46 vw47) (0 ≤ (IntKind.i64.wrap (r3 + 257)) ∧ (IntKind.i64.wrap (r3 + 257)) ≤ ((r44.cap : Nat) : Int) ∧ 0 ≤ (IntKind.i64.wrap (r3 + 257)) ∧ (IntKind.i64.wrap (r3 + 257)) ≤ ((r44.len : Nat) : Int) ∧ R (r44.cut 1 0 ((IntKind.i64.wrap (r3 + 257)).toNat) r44.cap) (r44.cut 1 ((IntKind.i64.wrap (r3 + 257)).toNat) r44.len r44.cap) r45 0 vw47.drew)))
/-- foliant/foliantref11.lengths -/
def S54 (s1 : ByteArray) (vfrom2 : Int) (w : World) (R : Slc → Slc → Int → Int → World → Prop) : Prop :=
  C26 s1 vfrom2 5 w fun r3 r4 r5 vw6 =>
    Br (r5 != 0) (R (⟨none, 0, 0⟩ : Slc) (⟨none, 0, 0⟩ : Slc) 0 r5 vw6) (Br (decide (r3 > 29)) (R (⟨none, 0, 0⟩ : Slc) (⟨none, 0, 0⟩ : Slc) 0 3 vw6) (C26 s1 r4 5 vw6 fun r7 r8 r9 vw10 =>
          Br (r9 != 0) (R (⟨none, 0, 0⟩ : Slc) (⟨none, 0, 0⟩ : Slc) 0 r9 vw10) (Br (decide (r7 > 29)) (R (⟨none, 0, 0⟩ : Slc) (⟨none, 0, 0⟩ : Slc) 0 3 vw10) (C26 s1 r8 4 vw10 fun r11 r12 r13 vw14 =>
                Br (r13 != 0) (R (⟨none, 0, 0⟩ : Slc) (⟨none, 0, 0⟩ : Slc) 0 r13 vw14) (Nw vw14 (.cells #[.int .i64 16, .int .i64 17, .int .i64 18, .int .i64 0, .int .i64 8, .int .i64 7, .int .i64 9, .int .i64 6, .int .i64 10, .int .i64 5, .int .i64 11, .int .i64 4, .int .i64 12, .int .i64 3, .int .i64 13, .int .i64 2, .int .i64 14, .int .i64 1, .int .i64 15] 3) fun vw15 =>
                  Rn Try.prog (Instr.makeSlice 72 (.int .i64 19) (.int .i64 19)) vw15 Slc.v fun (x16 : Slc) vw17 =>
                  Lp (σ := Int × Int) (S54L1 s1 r3 r7 r11 vw14 x16 R) (r12, 0) vw17)))))
def pl54 : Plan := (.seq (.reg .seq) (.seq (.reg .seq) (.seq (.seq (.reg .seq) (.cond (.seq (.reg .seq) .leaf) .leaf)) (.seq (.seq (.reg .seq) (.cond (.seq (.reg .seq) .leaf) .leaf)) (.seq (.reg .seq) (.seq (.seq (.reg .seq) (.cond (.seq (.reg .seq) .leaf) .leaf)) (.seq (.seq (.reg .seq) (.cond (.seq (.reg .seq) .leaf) .leaf)) (.seq (.reg .seq) (.seq (.seq (.reg .seq) (.cond (.seq (.reg .seq) .leaf) .leaf)) (.seq (.reg .seq) (.seq (.reg .seq) (.seq (.seq (.reg .seq) (.block (.loop [(15, (.one (.int .i64))), (19, (.one (.int .i64)))] [0, 8, 11, 14, 17, 18] (.seq (.seq (.reg .seq) (.cond .leaf .leaf)) (.seq (.block (.seq (.reg .seq) (.seq (.seq (.reg .seq) (.cond (.seq (.reg .seq) .leaf) .leaf)) (.reg .seq)))) (.reg .seq)))))) (.seq (.seq (.reg .seq) (.seq (.reg .seq) (.cond (.seq (.reg .seq) .leaf) .leaf))) (.seq (.reg .seq) (.seq (.seq (.reg .seq) (.cond (.seq (.reg .seq) .leaf) .leaf)) (.seq (.reg .still) .leaf))))))))))))))))
set_option maxRecDepth 100000 in
theorem T54 (s1 : ByteArray) (vfrom2 : Int) (w : World) (R : Slc → Slc → Int → Int → World → Prop) (h : S54 s1 vfrom2 w R) : C54 s1 vfrom2 w R := by
  have e : fnT Try.prog ⟨FF, MAY, (fun _ _ => False)⟩ pl54 Try.f54 [.string s1, .int .i64 vfrom2] w [(.one .slc), (.one .slc), (.one (.int .i64)), (.one (.int .i64))] (fun s w => R s.1 s.2.1 s.2.2.1 s.2.2.2 w) = S54 s1 vfrom2 w R := by kernel_rfl
  exact (fn_calls okF okM Try.func54 (by kernel_rfl) (by kernel_rfl) (e.mpr h)).mono fun _ _ ⟨s, he, hR⟩ => ⟨s.1, s.2.1, s.2.2.1, s.2.2.2, he, hR⟩

def S74L1 (r13 : Int) (r23 : Int) (r26 : Int) (R : Slc → Int → Int → World → Prop) (I39 : (Slc × Int) → World → Prop) (s37 : Slc × Int) (vw38 : World) : Prop :=
  Br (decide (s37.2 < r13)) (0 ≤ (IntKind.i64.wrap (((s37.1.len : Nat) : Int) - r26)) ∧ (IntKind.i64.wrap (((s37.1.len : Nat) : Int) - r26)) < (s37.1.len : Nat) ∧ Nn s37.1.p fun a40 =>
    Ld vw38 (a40.add ((IntKind.i64.wrap (((s37.1.len : Nat) : Int) - r26)).toNat * 1)) (Value.int .u8) fun (x41 : Int) =>
    Nw vw38 (.cells #[.int .u8 x41] 5) fun vw42 =>
    Rn Try.prog (Builtin.append_ #[40, 40] 40 #[Slc.v s37.1, Slc.v ((⟨some ⟨vw38.heap.size, 0, none⟩, 1, 1⟩ : Slc))]) vw42 Slc.v fun (x43 : Slc) vw44 =>
    I39 (x43, IntKind.i64.wrap (s37.2 + 1)) vw44) (R s37.1 r23 0 vw38)
/-- foliant/foliantref11.copied -/
def S74 (s1 : ByteArray) (vat2 : Int) (sign3 : Int) (far4 : Slc) (out5 : Slc) (most6 : Int) (w : World) (R : Slc → Int → Int → World → Prop) : Prop :=
  Br (decide (sign3 > 285)) (R (⟨none, 0, 0⟩ : Slc) 0 13 w) (C82 sign3 w fun r7 vw8 =>
      C26 s1 vat2 r7 vw8 fun r9 r10 r11 vw12 =>
        Br (r11 != 0) (R (⟨none, 0, 0⟩ : Slc) 0 r11 vw12) (C83 sign3 r9 vw12 fun r13 r14 vw15 =>
            C73 far4 s1 r10 vw15 fun r16 r17 r18 vw19 =>
              Br (r18 != 0) (R (⟨none, 0, 0⟩ : Slc) 0 r18 vw19) (Br (decide (r16 > 29)) (R (⟨none, 0, 0⟩ : Slc) 0 13 vw19) (C84 r16 vw19 fun r20 vw21 =>
                    C26 s1 r17 r20 vw21 fun r22 r23 r24 vw25 =>
                      Br (r24 != 0) (R (⟨none, 0, 0⟩ : Slc) 0 r24 vw25) (C85 r16 r22 vw25 fun r26 r27 vw28 =>
                          Br (decide (r26 > ((out5.len : Nat) : Int))) (R (⟨none, 0, 0⟩ : Slc) 0 14 vw28) (Br (decide (r13 > (IntKind.i64.wrap (most6 - ((out5.len : Nat) : Int))))) (R (⟨none, 0, 0⟩ : Slc) 0 5 vw28) (Lp (σ := Slc × Int) (S74L1 r13 r23 r26 R) (out5, 0) vw28)))))))
def pl74 : Plan := (.seq (.reg .seq) (.seq (.seq (.reg .seq) (.cond (.seq (.reg .seq) .leaf) .leaf)) (.seq (.reg .seq) (.seq (.seq (.reg .seq) (.cond (.seq (.reg .seq) .leaf) .leaf)) (.seq (.reg .seq) (.seq (.reg .seq) (.seq (.seq (.reg .seq) (.cond (.seq (.reg .seq) .leaf) .leaf)) (.seq (.seq (.reg .seq) (.cond (.seq (.reg .seq) .leaf) .leaf)) (.seq (.reg .seq) (.seq (.seq (.reg .seq) (.cond (.seq (.reg .seq) .leaf) .leaf)) (.seq (.reg .seq) (.seq (.seq (.reg .seq) (.cond (.seq (.reg .seq) .leaf) .leaf)) (.seq (.seq (.reg .seq) (.cond (.seq (.reg .seq) .leaf) .leaf)) (.seq (.seq (.reg .seq) (.block (.loop [(4, (.one .slc)), (28, (.one (.int .i64)))] [18, 24, 26] (.seq (.seq (.reg .seq) (.cond .leaf .leaf)) (.seq (.block (.reg .seq)) (.reg .seq)))))) (.seq (.reg .seq) .leaf)))))))))))))))
set_option maxRecDepth 100000 in
theorem T74 (s1 : ByteArray) (vat2 : Int) (sign3 : Int) (far4 : Slc) (out5 : Slc) (most6 : Int) (w : World) (R : Slc → Int → Int → World → Prop) (h : S74 s1 vat2 sign3 far4 out5 most6 w R) : C74 s1 vat2 sign3 far4 out5 most6 w R := by
  have e : fnT Try.prog ⟨FF, MAY, (fun _ _ => False)⟩ pl74 Try.f74 [.string s1, .int .i64 vat2, .int .i64 sign3, Slc.v far4, Slc.v out5, .int .i64 most6] w [(.one .slc), (.one (.int .i64)), (.one (.int .i64))] (fun s w => R s.1 s.2.1 s.2.2 w) = S74 s1 vat2 sign3 far4 out5 most6 w R := by kernel_rfl
  exact (fn_calls okF okM Try.func74 (by kernel_rfl) (by kernel_rfl) (e.mpr h)).mono fun _ _ ⟨s, he, hR⟩ => ⟨s.1, s.2.1, s.2.2, he, hR⟩

def S56L1 (s1 : ByteArray) (near3 : Slc) (far4 : Slc) (most6 : Int) (R : Slc → Int → Int → World → Prop) (I9 : (Int × Slc) → World → Prop) (s7 : Int × Slc) (vw8 : World) : Prop :=
  C73 near3 s1 s7.1 vw8 fun r10 r11 r12 vw13 =>
    Br (r12 != 0) (R (⟨none, 0, 0⟩ : Slc) 0 r12 vw13) (Br (r10 == 256) (R s7.2 r11 0 vw13) (Br (decide (r10 > 256)) (C74 s1 r11 r10 far4 s7.2 most6 vw13 fun r18 r19 r20 vw21 =>
            Br (r20 != 0) (R (⟨none, 0, 0⟩ : Slc) 0 r20 vw21) (I9 (r19, r18) vw21)) (Br (decide (((s7.2.len : Nat) : Int) ≥ most6)) (R (⟨none, 0, 0⟩ : Slc) 0 5 vw13) (Nw vw13 (.cells #[.int .u8 (IntKind.u8.wrap r10)] 5) fun vw22 =>
            Rn Try.prog (Builtin.append_ #[40, 40] 40 #[Slc.v s7.2, Slc.v ((⟨some ⟨vw13.heap.size, 0, none⟩, 1, 1⟩ : Slc))]) vw22 Slc.v fun (x23 : Slc) vw24 =>
            I9 (r11, x23) vw24))))
/-- foliant/foliantref11.signs -/
def S56 (s1 : ByteArray) (vat2 : Int) (near3 : Slc) (far4 : Slc) (out5 : Slc) (most6 : Int) (w : World) (R : Slc → Int → Int → World → Prop) : Prop :=
  Lp (σ := Int × Slc) (S56L1 s1 near3 far4 most6 R) (vat2, out5) w
def pl56 : Plan := (.seq (.reg .seq) (.block (.loop [(1, (.one (.int .i64))), (4, (.one .slc))] [0, 2, 3, 5] (.block (.seq (.reg .seq) (.seq (.seq (.reg .seq) (.cond (.seq (.reg .seq) .leaf) .leaf)) (.seq (.seq (.reg .seq) (.cond (.seq (.reg .seq) .leaf) .leaf)) (.seq (.seq (.reg .seq) (.cond (.seq (.reg .seq) (.seq (.seq (.reg .seq) (.cond (.seq (.reg .seq) .leaf) .leaf)) (.seq (.reg .seq) .leaf))) .leaf)) (.seq (.seq (.reg .seq) (.cond (.seq (.reg .seq) .leaf) .leaf)) (.reg .seq))))))))))
set_option maxRecDepth 100000 in
theorem T56 (s1 : ByteArray) (vat2 : Int) (near3 : Slc) (far4 : Slc) (out5 : Slc) (most6 : Int) (w : World) (R : Slc → Int → Int → World → Prop) (h : S56 s1 vat2 near3 far4 out5 most6 w R) : C56 s1 vat2 near3 far4 out5 most6 w R := by
  have e : fnT Try.prog ⟨FF, MAY, (fun _ _ => False)⟩ pl56 Try.f56 [.string s1, .int .i64 vat2, Slc.v near3, Slc.v far4, Slc.v out5, .int .i64 most6] w [(.one .slc), (.one (.int .i64)), (.one (.int .i64))] (fun s w => R s.1 s.2.1 s.2.2 w) = S56 s1 vat2 near3 far4 out5 most6 w R := by kernel_rfl
  exact (fn_calls okF okM Try.func56 (by kernel_rfl) (by kernel_rfl) (e.mpr h)).mono fun _ _ ⟨s, he, hR⟩ => ⟨s.1, s.2.1, s.2.2, he, hR⟩

/-- foliant/foliantref11.block -/
def S27 (s1 : ByteArray) (vat2 : Int) (kind3 : Int) (out4 : Slc) (most5 : Int) (w : World) (R : Slc → Int → Int → World → Prop) : Prop :=
  Br (kind3 == 3) (R (⟨none, 0, 0⟩ : Slc) 0 3 w) (Br (kind3 == 0) (C52 s1 vat2 out4 most5 w fun r10 r11 r12 vw13 =>
        R r10 r11 r12 vw13) (C53 w fun r14 r15 vw16 =>
        Br (kind3 == 2) (C54 s1 vat2 vw16 fun r32 r33 r34 r35 vw36 =>
            Br (r35 != 0) (R (⟨none, 0, 0⟩ : Slc) 0 r35 vw36) (0 ≤ (256 : Int) ∧ (256 : Int) < (r32.len : Nat) ∧ Nn r32.p fun a37 =>
              Ld vw36 (a37.add (((256 : Int)).toNat * 1)) (Value.int .i64) fun (x38 : Int) =>
              Br (x38 == 0) (R (⟨none, 0, 0⟩ : Slc) 0 13 vw36) (C55 r32 vw36 fun r39 vw40 =>
                  Br (r39 != 0) (R (⟨none, 0, 0⟩ : Slc) 0 r39 vw40) (C55 r33 vw40 fun r41 vw42 =>
                      Br (r41 != 0) (R (⟨none, 0, 0⟩ : Slc) 0 r41 vw42) (C56 s1 r34 r32 r33 out4 most5 vw42 fun r43 r44 r45 vw46 =>
                          R r43 r44 r45 vw46))))) (C56 s1 vat2 r14 r15 out4 most5 vw16 fun r47 r48 r49 vw50 =>
            R r47 r48 r49 vw50)))
def pl27 : Plan := (.seq (.reg .seq) (.seq (.seq (.reg .seq) (.cond (.seq (.reg .seq) .leaf) .leaf)) (.seq (.seq (.reg .seq) (.cond (.seq (.reg .seq) .leaf) .leaf)) (.seq (.reg .seq) (.seq (.seq (.reg .seq) (.cond (.seq (.reg .seq) (.seq (.seq (.reg .seq) (.cond (.seq (.reg .seq) .leaf) .leaf)) (.seq (.seq (.reg .seq) (.cond (.seq (.reg .seq) .leaf) .leaf)) (.seq (.seq (.reg .seq) (.seq (.reg .seq) (.cond (.seq (.reg .seq) .leaf) .leaf))) (.seq (.seq (.reg .seq) (.seq (.reg .seq) (.cond (.seq (.reg .seq) .leaf) .leaf))) (.reg .seq)))))) .leaf)) (.seq (.reg .seq) .leaf))))))
set_option maxRecDepth 100000 in
theorem T27 (s1 : ByteArray) (vat2 : Int) (kind3 : Int) (out4 : Slc) (most5 : Int) (w : World) (R : Slc → Int → Int → World → Prop) (h : S27 s1 vat2 kind3 out4 most5 w R) : C27 s1 vat2 kind3 out4 most5 w R := by
  have e : fnT Try.prog ⟨FF, MAY, (fun _ _ => False)⟩ pl27 Try.f27 [.string s1, .int .i64 vat2, .int .i64 kind3, Slc.v out4, .int .i64 most5] w [(.one .slc), (.one (.int .i64)), (.one (.int .i64))] (fun s w => R s.1 s.2.1 s.2.2 w) = S27 s1 vat2 kind3 out4 most5 w R := by kernel_rfl
  exact (fn_calls okF okM Try.func27 (by kernel_rfl) (by kernel_rfl) (e.mpr h)).mono fun _ _ ⟨s, he, hR⟩ => ⟨s.1, s.2.1, s.2.2, he, hR⟩

def S10L1 (s1 : ByteArray) (most2 : Int) (R : ByteArray → Int → Int → World → Prop) (I5 : (Slc × Int) → World → Prop) (s3 : Slc × Int) (vw4 : World) : Prop :=
  C26 s1 s3.2 1 vw4 fun r6 r7 r8 vw9 =>
    Br (r8 != 0) (R (⟨#[]⟩ : ByteArray) 0 r8 vw9) (C26 s1 r7 2 vw9 fun r10 r11 r12 vw13 =>
        Br (r12 != 0) (R (⟨#[]⟩ : ByteArray) 0 r12 vw13) (C27 s1 r11 r10 s3.1 (if 1048576 < most2 then 1048576 else most2) vw13 fun r14 r15 r16 vw17 =>
            Br (r16 != 0) (R (⟨#[]⟩ : ByteArray) 0 r16 vw17) (Br (r6 == 1) (Rn Try.prog (convert 40 9 (Slc.v r14)) vw17 Value.string fun (x18 : ByteArray) vw19 =>
                R x18 (IntKind.i64.wrap (Int.tdiv (IntKind.i64.wrap (r15 + 7)) 8)) 0 vw19) (I5 (r14, r15) vw17))))
/-- foliant/foliantref11.All -/
def S10 (s1 : ByteArray) (most2 : Int) (w : World) (R : ByteArray → Int → Int → World → Prop) : Prop :=
  Br (decide (most2 < 0)) (R (⟨#[]⟩ : ByteArray) 0 1 w) (Lp (σ := Slc × Int) (S10L1 s1 most2 R) ((⟨none, 0, 0⟩ : Slc), 0) w)
def pl10 : Plan := (.seq (.reg .seq) (.seq (.seq (.reg .seq) (.cond (.seq (.reg .seq) .leaf) .leaf)) (.seq (.reg .seq) (.seq (.reg .seq) (.seq (.reg .seq) (.block (.loop [(7, (.one .slc)), (8, (.one (.int .i64)))] [0, 1] (.block (.seq (.reg .seq) (.seq (.seq (.reg .seq) (.cond (.seq (.reg .seq) .leaf) .leaf)) (.seq (.reg .seq) (.seq (.seq (.reg .seq) (.cond (.seq (.reg .seq) .leaf) .leaf)) (.seq (.reg .seq) (.seq (.seq (.reg .seq) (.cond (.seq (.reg .seq) .leaf) .leaf)) (.seq (.reg .seq) (.seq (.reg .seq) (.cond (.seq (.reg .seq) .leaf) .leaf)))))))))))))))))
set_option maxRecDepth 100000 in
theorem T10 (s1 : ByteArray) (most2 : Int) (w : World) (R : ByteArray → Int → Int → World → Prop) (h : S10 s1 most2 w R) : C10 s1 most2 w R := by
  have e : fnT Try.prog ⟨FF, MAY, (fun _ _ => False)⟩ pl10 Try.f10 [.string s1, .int .i64 most2] w [(.one .str), (.one (.int .i64)), (.one (.int .i64))] (fun s w => R s.1 s.2.1 s.2.2 w) = S10 s1 most2 w R := by kernel_rfl
  exact (fn_calls okF okM Try.func10 (by kernel_rfl) (by kernel_rfl) (e.mpr h)).mono fun _ _ ⟨s, he, hR⟩ => ⟨s.1, s.2.1, s.2.2, he, hR⟩

end Go.Proofs.Ytjkoafjnmkchdaa

/- Inflate: the program's bits, room, stored, copied, coded. Conditions: sizes. -/
namespace Go.Proofs.Ytjkoafjnmkchdaa
namespace Inf
open Sh Bit
set_option linter.unusedVariables false
set_option linter.unusedSimpArgs false
set_option maxRecDepth 4000
set_option maxHeartbeats 2000000
/-- The cells of a decompression. -/
def fcells (rb : Nat) (o : Slc) (most : Nat) : Array Value := #[.pointer (at0 rb), Slc.v o, .int .i64 (most : Int)]
/-- What may change. -/
def XF (fb rb : Nat) (o : Slc) : Nat → Prop := fun j => j = fb ∨ j = rb ∨ o.own j
structure Mv (fb rb : Nat) (w w1 : World) (o o1 : Slc) : Prop where
  ext : Ext (XF fb rb o) w w1
  own : ∀ j, o1.own j → o.own j ∨ w.heap.size ≤ j
section
variable {w w1 w2 : World} {fb rb : Nat} {o o1 o2 : Slc} {s : ByteArray} {out : List UInt8} {p most : Nat}
theorem Mv.refl : Mv fb rb w w o o := ⟨Ext.refl _ _, fun j h => .inl h⟩
theorem Mv.of (h : Ext (XF fb rb o) w w1) : Mv fb rb w w1 o o := ⟨h, fun j h => .inl h⟩
theorem Mv.rd (h : Ext (· = rb) w w1) : Mv fb rb w w1 o o := .of (h.mono fun i _ e => .inr (.inl e))
theorem Mv.no (h : Ext (fun _ => False) w w1) : Mv fb rb w w1 o o := .of (h.mono fun i _ e => e.elim)
theorem Mv.tr (h : Mv fb rb w w1 o o1) (k : Mv fb rb w1 w2 o1 o2) : Mv fb rb w w2 o o2 := by
  refine ⟨h.ext.trans k.ext (fun _ h => h) fun i hi e => ?_, fun j hj => ?_⟩
  · rcases e with e | e | e
    · exact .inl e
    · exact .inr (.inl e)
    · rcases h.own i e with e | e
      · exact .inr (.inr e)
      · omega
  · have := h.ext.size
    rcases k.own j hj with e | e
    · exact h.own j e
    · exact .inr (by omega)
/-- Where a table may lie. -/
structure Sep (lo hi fb rb : Nat) (o : Slc) (w : World) : Prop where
  f : fb < lo ∨ hi ≤ fb
  r : rb < lo ∨ hi ≤ rb
  o : ∀ j, o.own j → j < lo ∨ hi ≤ j
  h : hi ≤ w.heap.size
theorem Sep.mv {lo hi : Nat} (h : Sep lo hi fb rb o w) (m : Mv fb rb w w1 o o1) : Sep lo hi fb rb o1 w1 := by
  have := m.ext.size
  have := h.h
  refine ⟨h.f, h.r, fun j hj => ?_, by omega⟩
  rcases m.own j hj with e | e
  · exact h.o j e
  · omega
theorem TB.mv {lo hi tb : Nat} {lens : List Int} (h : TB w lo hi tb lens) (k : Sep lo hi fb rb o w) (m : Ext (XF fb rb o) w w1) : TB w1 lo hi tb lens :=
  h.keep m fun j h1 h2 e => by
    have := k.f
    have := k.r
    rcases e with e | e | e
    · omega
    · omega
    · have := k.o j e; omega
attribute [local irreducible] Ld St Nw Nn Lt LdS
theorem Mv.er (h : Mv fb rb w w1 o o1) (k : Ext (XF fb rb o1) w1 w2) : Ext (XF fb rb o) w w2 := (h.tr (.of k)).ext
end
end Inf
end Go.Proofs.Ytjkoafjnmkchdaa

/- Inflate: the program's copies and signs. Conditions: sizes. -/
namespace Go.Proofs.Ytjkoafjnmkchdaa
namespace Inf
open Sh Bit
set_option linter.unusedVariables false
set_option linter.unusedSimpArgs false
set_option maxRecDepth 4000
set_option maxHeartbeats 2000000
theorem LdS.mk {α : Type} {S : World → Prop} {V : α → Value} {K : α → Prop} {x : α} {a : Addr} (h : ∀ w, S w → w.cell? a = some (V x)) (k : K x) : LdS S a V K := ⟨x, h, k⟩
theorem getD_some {l : List UInt8} {i : Nat} (h : i < l.length) : l[i]? = some (l.getD i 0) := by
  rw [List.getD_eq_getElem?_getD, List.getElem?_eq_getElem h]
  rfl
theorem more24 {k : Nat} (hk : k ≤ 29) : moreL k ≤ 24 ∧ moreD k ≤ 24 := by
  constructor
  · unfold moreL; split <;> omega
  · unfold moreD; omega
theorem more6 {k : Nat} (hk : k ≤ 28) : moreL k ≤ 6 := by unfold moreL; split <;> omega
theorem base_pos {k : Nat} (hk : k ≤ 30) : 1 ≤ baseD k ∧ 1 ≤ baseL k := by
  constructor
  · induction k with
    | zero => exact Nat.le_refl _
    | succ k ih => exact Nat.le_trans (ih (by omega)) (Nat.le_add_right _ _)
  · induction k with
    | zero => show 1 ≤ 3; omega
    | succ k ih => exact Nat.le_trans (ih (by omega)) (Nat.le_add_right _ _)
attribute [local irreducible] Ld St Nw Nn Lt LdS
section
variable {w : World} {fb rb : Nat} {o : Slc} {s : ByteArray} {out : List UInt8} {p most : Nat}
end
end Inf
end Go.Proofs.Ytjkoafjnmkchdaa

/- Inflate: slices.Repeat, the laid variables, the program's Fixed and lengths. Conditions: sizes. -/
namespace Go.Proofs.Ytjkoafjnmkchdaa
namespace Inf
open Sh Bit
set_option linter.unusedVariables false
set_option linter.unusedSimpArgs false
set_option maxRecDepth 4000
set_option maxHeartbeats 2000000
theorem iand_u64 {x y : Nat} (hx : x < 2 ^ 63) (hy : y < 2 ^ 63) : iand .u64 (x : Int) (y : Int) = ((x &&& y : Nat) : Int) := by
  unfold iand
  rw [ofInt_nat, ofInt_nat]
  have h1 : (BitVec.ofNat IntKind.u64.bits x &&& BitVec.ofNat IntKind.u64.bits y).toNat = x &&& y := by
    rw [BitVec.toNat_and, BitVec.toNat_ofNat, BitVec.toNat_ofNat, Nat.mod_eq_of_lt (by simp [IntKind.bits]; omega), Nat.mod_eq_of_lt (by simp [IntKind.bits]; omega)]
  rw [h1]
  have h2 : x &&& y < 2 ^ 63 := Nat.and_lt_two_pow x hy
  exact u64_id (by omega)
theorem low32 {x : Nat} (hx : x < 4294967296) : iand .u64 (x : Int) 4294967295 = (x : Int) := by
  have := iand_u64 (x := x) (y := 4294967295) (by omega) (by omega)
  rw [show (4294967295 : Int) = ((4294967295 : Nat) : Int) by rfl, this, show (4294967295 : Nat) = 2 ^ 32 - 1 by decide, Nat.and_two_pow_sub_one_eq_mod, Nat.mod_eq_of_lt (by omega)]
theorem fdiv32 {x : Nat} (hx : x < 4294967296) : Int.fdiv (x : Int) (2 ^ 32) = 0 := by
  rw [fdiv_pow, show (2 : Int) ^ 32 = 4294967296 by decide]
  omega
attribute [local irreducible] Ld St Nw Nn Lt LdS
section
variable {w : World}
theorem c_mul64 {c : Nat} (hc : c ≤ 1000000) (w : World) : C88 1 (c : Int) w fun hi lo w1 => hi = 0 ∧ lo = (c : Int) ∧ w1 = w := by
  refine T88 _ _ _ _ ?_
  unfold S88
  have h1 : iand .u64 (1 : Int) 4294967295 = 1 := low32 (x := 1) (by omega)
  have h2 : Int.fdiv (1 : Int) (2 ^ 32) = 0 := fdiv32 (x := 1) (by omega)
  refine Lt.of (Lt.of (Lt.of (Lt.of ?_)))
  rw [h1, h2, low32 (x := c) (by omega), fdiv32 (x := c) (by omega)]
  simp only [Int.one_mul, Int.zero_mul, Int.mul_zero]
  rw [u64_id (n := (c : Int)) (by omega), fdiv32 (x := c) (by omega)]
  have e0 : IntKind.u64.wrap 0 = 0 := u64_id (by omega)
  simp only [e0, Int.add_zero]
  have h3 : iand .u64 (0 : Int) 4294967295 = 0 := low32 (x := 0) (by omega)
  have h4 : Int.fdiv (0 : Int) (2 ^ 32) = 0 := fdiv32 (x := 0) (by omega)
  simp only [h3, h4, e0, Int.add_zero]
  simp
theorem c_mulB {c : Nat} (hc : c ≤ 1000000) (w : World) : C77 1 (c : Int) w fun hi lo w1 => hi = 0 ∧ lo = (c : Int) ∧ w1 = w := by
  refine T77 _ _ _ _ ?_
  unfold S77
  exact c_mul64 hc w
theorem und_ints : Try.prog.underlying 72 = some (.slice 3) := by kernel_rfl
theorem info_int : (Try.prog.info? 3).map (·.size) = some 1 := by kernel_rfl
def repT (c k : Nat) (x : Int) : List Int := List.replicate k x ++ List.replicate (c - k) 0
theorem repT_len {c k : Nat} (hk : k ≤ c) (x : Int) : (repT c k x).length = c := by unfold repT; simp; omega
theorem repT_put {c k n : Nat} (h : k + n ≤ c) (x : Int) : (ints (repT c k x)).take k ++ ints (List.replicate n x) ++ (ints (repT c k x)).drop (k + n) = ints (repT c (k + n) x) := by
  unfold ints repT
  rw [List.map_append, List.take_left' (by simp), List.drop_append]
  simp only [List.map_replicate, List.map_append, List.length_replicate, List.drop_replicate]
  rw [show k - (k + n) = 0 by omega, show k + n - k = n by omega, List.replicate_zero, List.nil_append, List.replicate_append_replicate, show c - k - n = c - (k + n) by omega]
theorem setRow_blk {w : World} {g : Nat} {cur : Array Value} {t : TypeId} (h : Blk w g cur t) (cs : Array Value) : Blk (w.setRow g cs) g cs t ∧ Ext (· = g) w (w.setRow g cs) :=
  ⟨setRow_heap w g cur cs t _ h, ⟨rfl, rfl, rfl, by simp [World.setRow], fun k _ hk => setRow_other w g k _ (fun e => hk e)⟩⟩
theorem copy_rep {w : World} {g c k n sLen sCap : Nat} {x : Int} {a : Addr} (hB : Blk w g (ints (repT c k x)).toArray 3) (hn : n = Nat.min sLen (c - k)) (hk : k ≤ c) (hsrc : ∀ j v, (ints (List.replicate n x))[j]? = some v → w.cell? (a.add j) = some v) :
    ∃ w', RunV Try.prog (Builtin.copy_ #[72, 72] 3 #[Slc.v ⟨some ⟨g, k, none⟩, c - k, c - k⟩, Slc.v ⟨some a, sLen, sCap⟩]) w (.int .i64 (n : Int)) w' ∧ Blk w' g (ints (repT c (k + n) x)).toArray 3 ∧ Ext (· = g) w w' := by
  have hnc : n ≤ c - k := by rw [hn]; exact Nat.min_le_right _ _
  have hl : (ints (List.replicate n x)).length = n := by rw [ints_len, List.length_replicate]
  have h := run_copy_row (P := Try.prog) w 72 72 3 3 g k (c - k) (c - k) a sLen sCap (ints (repT c k x)).toArray 3 (ints (List.replicate n x)) und_ints info_int hB (by rw [hl, hn]) hsrc (by rw [hl, List.size_toArray, ints_len, repT_len hk]; omega) (ints_one _)
  rw [hl] at h
  have e : ((ints (repT c k x)).toArray.toList.take k ++ ints (List.replicate n x) ++ (ints (repT c k x)).toArray.toList.drop (k + n)) = ints (repT c (k + n) x) := repT_put (by omega) x
  rw [e] at h
  obtain ⟨b1, b2⟩ := setRow_blk hB (ints (repT c (k + n) x)).toArray
  exact ⟨_, h, b1, b2⟩
theorem c_repeat {g c : Nat} {x : Int} (hg : Blk w g #[.int .i64 x] 3) (hc : 1 ≤ c) (hc2 : c ≤ 1000) :
    C61 (⟨some ⟨g, 0, none⟩, 1, 1⟩ : Slc) (c : Int) w (fun r w1 => IV w1 r (List.replicate c x) ∧ Ext (fun _ => False) w w1 ∧ ∀ j, r.own j → w.heap.size ≤ j ∧ j < w1.heap.size) fun _ _ => False := by
  refine T61 _ _ _ _ _ ?_
  unfold S61
  refine Br.f (by simp) ?_
  rw [show IntKind.u64.wrap (((⟨some ⟨g, 0, none⟩, 1, 1⟩ : Slc).len : Nat) : Int) = 1 from u64_id (n := 1) (by omega), u64_id (n := (c : Int)) (by omega)]
  refine (c_mulB (by omega) w).mono ?_
  rintro hi lo w1 ⟨rfl, rfl, rfl⟩
  refine Br.f (by decide) (Br.f (by simp; omega) ?_)
  rw [i64_id (n := (c : Int)) (by omega)]
  obtain ⟨w2, hrun, hw2⟩ := elI.make (zs := [.int .i64 0]) rfl w1 c (by omega) (by omega)
  refine ⟨_, w2, hrun, ?_⟩
  have e2 : Ext (fun _ => False) w1 w2 := by rw [hw2]; exact (Ext.refl _ _).alloc _
  have hB : Blk w2 w1.heap.size (ints (repT c 0 x)).toArray 3 := by
    have e : repT c 0 x = List.replicate c 0 := by unfold repT; simp
    rw [hw2, flat_zero, e]
    exact Blk.new _ _ _
  have hsrc := e2.blk hg (fun h => h)
  obtain ⟨w3, hrun3, hB3, e3⟩ := copy_rep (n := 1) (sLen := 1) (sCap := 1) (a := ⟨g, 0, none⟩) hB ((Nat.min_eq_left (a := 1) (b := c - 0) (by omega)).symm) (by omega) fun j v hj => by
    have h0 : j = 0 := by
      have := (List.getElem?_eq_some_iff.1 hj).1
      rw [ints_len, List.length_replicate] at this
      omega
    subst h0
    have hv : Value.int .i64 x = v := by simpa [ints] using hj
    rw [add_lit, hsrc.cell, ← hv]
    rfl
  refine ⟨_, w3, hrun3, ?_⟩
  have new : ∀ {a b : World}, Ext (fun _ => False) w1 a → Ext (· = w1.heap.size) a b → Ext (fun _ => False) w1 b := fun a b => a.trans b (fun _ h => h) fun i hi e => by have e : i = w1.heap.size := e; omega
  refine ⟨fun n st w4 => ∃ k : Nat, st = (k : Int) ∧ 1 ≤ k ∧ k ≤ c ∧ n = c - k ∧ Blk w4 w1.heap.size (ints (repT c k x)).toArray 3 ∧ Ext (fun _ => False) w1 w4, c - 1, ⟨1, rfl, by omega, by omega, rfl, hB3, new e2 e3⟩, ?_⟩
  rintro n st w4 ⟨k, rfl, hk1, hk, rfl, hB4, e4⟩
  unfold S61L1
  refine Br.dec (fun q => ?_) fun q => ?_
  · have q : k < c := by have q : (k : Int) < (c : Int) := q; omega
    have cut1 : Slc.cut (⟨some ⟨w1.heap.size, 0, none⟩, c, c⟩ : Slc) 1 k c c = ⟨some ⟨w1.heap.size, k, none⟩, c - k, c - k⟩ := by
      unfold Slc.cut
      rw [if_neg (by omega)]
      simp only [Option.map_some, add_lit, Nat.zero_add, Nat.mul_one]
    have cut2 : Slc.cut (⟨some ⟨w1.heap.size, 0, none⟩, c, c⟩ : Slc) 1 0 k c = ⟨some ⟨w1.heap.size, 0, none⟩, k, c⟩ := by
      unfold Slc.cut
      rw [if_neg (by omega)]
      simp only [Option.map_some, add_lit, Nat.zero_add, Nat.zero_mul, Nat.sub_zero]
    obtain ⟨w5, hrun5, hB5, e5⟩ := copy_rep (n := Nat.min k (c - k)) (sLen := k) (sCap := c) (a := ⟨w1.heap.size, 0, none⟩) hB4.drew rfl hk fun j v hj => by
      have hjl := (List.getElem?_eq_some_iff.1 hj).1
      rw [ints_len, List.length_replicate] at hjl
      have hjk : j < k := Nat.lt_of_lt_of_le hjl (Nat.min_le_left _ _)
      have hv : Value.int .i64 x = v := by
        have := ints_get (l := List.replicate (Nat.min k (c - k)) x) (i := j) (by rw [List.length_replicate]; exact hjl)
        rw [this] at hj
        rw [List.getD_eq_getElem?_getD, List.getElem?_replicate, if_pos hjl] at hj
        exact Option.some.inj hj
      rw [add_lit, hB4.drew.cell, Nat.zero_add, List.getElem?_toArray, ints_get (by rw [repT_len hk]; omega), ← hv]
      unfold repT
      rw [List.getD_eq_getElem?_getD, List.getElem?_append_left (by rw [List.length_replicate]; omega), List.getElem?_replicate, if_pos hjk]
      rfl
    have hmin : 1 ≤ Nat.min k (c - k) := Nat.le_min.2 ⟨hk1, by omega⟩
    have hmin2 : Nat.min k (c - k) ≤ c - k := Nat.min_le_right _ _
    show 0 ≤ (k : Int) ∧ (k : Int) ≤ ((c : Nat) : Int) ∧ 0 ≤ (k : Int) ∧ (k : Int) ≤ ((c : Nat) : Int) ∧ _
    simp only [Int.toNat_natCast]
    rw [cut1, cut2]
    generalize Nat.min k (c - k) = z at *
    refine ⟨by omega, by omega, by omega, by omega, _, w5, hrun5, c - (k + z), by omega, k + z, by rw [i64_id (by omega)]; rfl, by omega, by omega, rfl, hB5, new e4.drew e5⟩
  · have q : ¬ k < c := by have q : ¬ (k : Int) < (c : Int) := q; omega
    have hkc : k = c := by omega
    subst hkc
    have e : repT k k x = List.replicate k x := by unfold repT; simp
    rw [e] at hB4
    refine ⟨IV.blk hB4 (by simp), e4, fun j hj => ?_⟩
    obtain ⟨a, ha, rfl⟩ := hj
    cases ha
    exact ⟨Nat.le_refl _, hB4.lt⟩
/-! ### The program's Fixed -/
def fixT : Nat → List Int
  | 0 => []
  | k + 1 => fixT k ++ (if k = 0 then List.replicate 144 8 else if k = 1 then List.replicate 112 9 else if k = 2 then List.replicate 24 7 else List.replicate 8 8)
theorem fixT_len : ∀ k, k ≤ 4 → (fixT k).length ≤ k * 144
  | 0, _ => Nat.le_refl _
  | k + 1, h => by
    have ih := fixT_len k (by omega)
    have e : fixT (k + 1) = fixT k ++ (if k = 0 then List.replicate 144 8 else if k = 1 then List.replicate 112 9 else if k = 2 then List.replicate 24 7 else List.replicate 8 8) := rfl
    rw [e, List.length_append]
    split
    · simp; omega
    · split
      · simp; omega
      · split
        · simp; omega
        · simp; omega
theorem c_Fixed (w : World) : C41 w (fun a b w1 => IV w1 a fixL ∧ IV w1 b fixD ∧ Ext (fun _ => False) w w1) fun _ _ => False := by
  refine T41 _ _ _ ?_
  unfold S41
  refine ⟨fun n st w1 => ∃ (k : Nat) (o : Slc), st = (o, (k : Int)) ∧ k ≤ 4 ∧ n = 4 - k ∧ Row w1 o 3 1 (ints (fixT k)) ∧ (∀ j, o.own j → w.heap.size ≤ j) ∧ Ext (fun _ => False) w w1, 4, ⟨0, ⟨none, 0, 0⟩, rfl, by omega, rfl, Row.nil _ _ _, fun j hj => (by obtain ⟨a, ha, _⟩ := hj; cases ha), Ext.refl _ _⟩, ?_⟩
  rintro n st w1 ⟨k, o, rfl, hk, rfl, hrow, hown, he⟩
  unfold S41L1
  dsimp only
  have hlen := fixT_len k hk
  have hrl := hrow.1
  rw [ints_len] at hrl
  refine Br.dec (fun q => ?_) fun q => ?_
  · have hcase : ∃ m l : Nat, (#[.int .i64 144, .int .i64 8, .int .i64 112, .int .i64 9, .int .i64 24, .int .i64 7, .int .i64 8, .int .i64 8] : Array Value).extract ((k : Int).toNat * 2) ((k : Int).toNat * 2 + 2) = #[.int .i64 (m : Int), .int .i64 (l : Int)] ∧ 1 ≤ m ∧ m ≤ 144 ∧ fixT (k + 1) = fixT k ++ List.replicate m (l : Int) := by
      have hc : k = 0 ∨ k = 1 ∨ k = 2 ∨ k = 3 := by omega
      rcases hc with rfl | rfl | rfl | rfl
      · exact ⟨144, 8, rfl, by omega, by omega, rfl⟩
      · exact ⟨112, 9, rfl, by omega, by omega, rfl⟩
      · exact ⟨24, 7, rfl, by omega, by omega, rfl⟩
      · exact ⟨8, 8, rfl, by omega, by omega, rfl⟩
    obtain ⟨m, l, hex, hm1, hm2, hfix⟩ := hcase
    refine ⟨by omega, by omega, ((m : Int), (l : Int)), hex, ?_⟩
    refine (Hn.start w1).nw fun w2 H => ?_
    simp only [List.nil_append] at H
    iterate 2 (refine H.st 0 rfl (by simp) fun _ H => ?_; simp only [List.nil_append, List.cons_append, List.set_cons_zero, List.set_cons_succ, Nat.zero_add] at H)
    iterate 1 refine H.ld 0 rfl rfl ?_
    refine H.nw fun w5 H => ?_
    simp only [List.cons_append, List.nil_append] at H
    iterate 1 refine H.ld 0 rfl rfl ?_
    refine (c_repeat (H.get 1 rfl) hm1 (by omega)).mono ?_ fun _ _ h => h.elim
    rintro r w6 ⟨hv, e6, o6⟩
    have E6 := H.ext.tr e6
    obtain ⟨o7, w7, hrun, hrow7, hl7, e7, own7⟩ := elI.app (ty := 72) (hrow.keep E6 fun _ _ h => h) hv.2 (ints_one _) (by rw [hv.1, List.length_replicate]; omega) (by rw [hv.1, List.length_replicate]; omega)
    refine ⟨o7, w7, hrun, 4 - (k + 1), by omega, k + 1, o7, by rw [i64_id (by omega)]; rfl, by omega, rfl, ?_, fun j hj => ?_, (he.tr E6).trans e7 (fun _ h => h) fun i hi h => by have := hown i h; omega⟩
    · rw [hfix, ints_app]; exact hrow7
    · have := E6.size
      have := he.size
      rcases own7 j hj with h | h
      · exact hown j h
      · omega
  · have : k = 4 := by omega
    subst this
    refine (Hn.start w1).nw fun w2 H => ?_
    simp only [List.nil_append] at H
    refine (c_repeat (c := 32) (H.get 0 rfl) (by omega) (by omega)).mono ?_ fun _ _ h => h.elim
    rintro r w3 ⟨hv, e3, o3⟩
    have hr : IV w1 o fixL := IV.row hrow
    exact ⟨(hr.keep H.ext).keep e3, hv, he.tr (H.ext.tr e3)⟩
end
end Inf
end Go.Proofs.Ytjkoafjnmkchdaa

/- Inflate: the laid variables; the program's lengths. Conditions: sizes, the laid variables. -/
namespace Go.Proofs.Ytjkoafjnmkchdaa
namespace Inf
open Sh Bit
set_option linter.unusedVariables false
set_option linter.unusedSimpArgs false
set_option maxRecDepth 4000
set_option maxHeartbeats 2000000
def repV (n : Int) : (Int × Int) × Bool := if n = 16 then ((3, 2), true) else if n = 17 then ((3, 3), true) else if n = 18 then ((11, 7), true) else ((0, 0), false)
/-- No block of the decompression is a laid one. -/
structure Low (N fb rb : Nat) (o : Slc) : Prop where
  f : N ≤ fb
  r : N ≤ rb
  o : ∀ j, o.own j → N ≤ j
section
variable {w w1 : World} {fb rb N : Nat} {o o1 : Slc} {s : ByteArray} {out : List UInt8} {p most : Nat}
theorem Low.mv (h : Low N fb rb o) (m : Mv fb rb w w1 o o1) (hw : N ≤ w.heap.size) : Low N fb rb o1 := ⟨h.f, h.r, fun j hj => by
  rcases m.own j hj with e | e
  · exact h.o j e
  · omega⟩
theorem elI_make0 (w : World) (c : Nat) (hc : c ≤ 1000000) : ∃ w', RunV Try.prog (Instr.makeSlice 72 (.int .i64 0) (.int .i64 (c : Int))) w (Slc.v ⟨some ⟨w.heap.size, 0, none⟩, 0, c⟩) w' ∧ Ext (fun _ => False) w w' ∧ Row w' ⟨some ⟨w.heap.size, 0, none⟩, 0, c⟩ 3 1 [] := by
  obtain ⟨i, hi, h1, h8, hz⟩ := elI.info
  have hr := run_make (P := Try.prog) w 72 3 i (.int .i64 0) und_ints hi hz .i64 .i64 0 c (by omega) (by omega) (by rw [h8]; omega) (by omega)
  simp only [Int.toNat_natCast] at hr
  refine ⟨_, hr, (Ext.refl _ _).alloc _, by simp, .inr ⟨_, _, rfl, Blk.new _ _ _, by simp, ?_, by simp⟩⟩
  rw [h1]
  exact size_madeCells _ _
theorem repV_lit {g : Nat} (h : g < 16) : repV (g : Int) = ((0, 0), false) := by
  unfold repV
  rw [if_neg (by omega), if_neg (by omega), if_neg (by omega)]
theorem repV_rep {g : Nat} (h : ¬ g < 16) (h2 : g < 19) : repV (g : Int) = ((((repL g : Nat) : Int), ((repB g : Nat) : Int)), true) := by
  have : g = 16 ∨ g = 17 ∨ g = 18 := by omega
  rcases this with rfl | rfl | rfl <;> rfl
attribute [local irreducible] Ld St Nw Nn Lt LdS
end
end Inf
end Go.Proofs.Ytjkoafjnmkchdaa

/- Inflate: the program's dynamic and fixed blocks, block, All. Conditions: sizes, the laid variables. -/
namespace Go.Proofs.Ytjkoafjnmkchdaa
namespace Inf
open Sh Bit
set_option linter.unusedVariables false
set_option linter.unusedSimpArgs false
set_option maxRecDepth 4000
set_option maxHeartbeats 2000000
theorem chk_fixL : chk fixL = 0 := by decide +kernel
theorem chk_fixD : chk fixD = 0 := by decide +kernel
/-- Lengths that are read are not negative. -/
theorem lensF_nn {s : ByteArray} {lens l2 : List Int} {many q : Nat} : ∀ (k : Nat) (l : List Int) (p : Nat), (∀ x ∈ l, 0 ≤ x) → lensF lens s many k l p = .ok (l2, q) → ∀ x ∈ l2, 0 ≤ x
  | 0, _, _, _, h => by cases h
  | k + 1, l, p, hl, h => by
    unfold lensF at h
    split at h
    · cases h; exact hl
    · split at h
      · cases h
      · split at h
        · exact lensF_nn k _ _ (fun x hx => by
            rcases List.mem_append.1 hx with hx | hx
            · exact hl x hx
            · rw [List.mem_singleton.1 hx]; omega) h
        · split at h
          · cases h
          · split at h
            · cases h
            · split at h
              · cases h
              · refine lensF_nn k _ _ (fun x hx => ?_) h
                rcases List.mem_append.1 hx with hx | hx
                · exact hl x hx
                · rw [List.eq_of_mem_replicate hx]
                  split
                  · by_cases hz : l.length - 1 < l.length
                    · exact getD_in (P := fun x => 0 ≤ x) hl hz
                    · rw [List.getD_eq_getElem?_getD, List.getElem?_eq_none (by omega)]
                      exact Int.le_refl _
                  · exact Int.le_refl _
theorem IV.take {w : World} {s : Slc} {l : List Int} (h : IV w s l) {n : Nat} (hn : n ≤ l.length) : IV w (s.cut 1 0 n s.cap) (l.take n) := by
  refine ⟨?_, ?_, fun j v hj => ?_⟩
  · show n - 0 = _
    rw [List.length_take]; omega
  · rw [ints_len, List.length_take]
    show _ = (n - 0) * 1
    omega
  · have hjl : j < (l.take n).length := by
      have := (List.getElem?_eq_some_iff.1 hj).1
      rw [ints_len] at this
      exact this
    rw [List.length_take] at hjl
    obtain ⟨a, ha, hc⟩ := h.2.2 j v (by
      rw [← hj]
      unfold ints
      rw [List.getElem?_map, List.getElem?_map, List.getElem?_take_of_lt (by omega)])
    refine ⟨a, ?_, hc⟩
    show (if s.cap = 0 then s.p else s.p.map (·.add (0 * 1))) = _
    split
    · exact ha
    · rw [ha, Nat.zero_mul]
      show some (a.add 0) = _
      have e : a.add 0 = a := by unfold Addr.add; split <;> (try split) <;> simp_all
      rw [e]
section
variable {w : World} {fb rb N : Nat} {o : Slc} {s : ByteArray} {out : List UInt8} {p most : Nat}
theorem TB.no {w w1 : World} {lo hi b : Nat} {lens : List Int} (h : TB w lo hi b lens) (he : Ext (fun _ => False) w w1) : TB w1 lo hi b lens := h.keep he fun _ _ _ h => h
attribute [local irreducible] Ld St Nw Nn Lt LdS
def dynR (s : ByteArray) (most : Nat) (out : List UInt8) (p : Nat) : Except Int (List UInt8 × Nat) := match dyn s p with
  | .error e => .error e
  | .ok (a, b, q) => signsF s a b most (8 * s.size + 1) out q
theorem order_lt : ∀ i, i < 19 → order.getD i 0 < 19 := by decide
end
end Inf
end Go.Proofs.Ytjkoafjnmkchdaa

/- Inflate: the program's block and All. Conditions: sizes, the laid variables. -/
namespace Go.Proofs.Ytjkoafjnmkchdaa
namespace Inf
open Sh Bit
set_option linter.unusedVariables false
set_option linter.unusedSimpArgs false
set_option maxRecDepth 4000
set_option maxHeartbeats 2000000
def blkF (s : ByteArray) (most : Nat) (out : List UInt8) (p : Nat) : Except Int (Int × List UInt8 × Nat) := match num s p 1 with
  | .error e => .error e
  | .ok (last, p1) => match num s p1 2 with
    | .error e => .error e
    | .ok (kind, p2) => match block s most kind out p2 with
      | .error e => .error e
      | .ok (o, q) => .ok (last, o, q)
theorem blkF_ok {s : ByteArray} {most p q : Nat} {out o : List UInt8} {last : Int} (hm : out.length ≤ most) (h : blkF s most out p = .ok (last, o, q)) : p < q ∧ q ≤ 8 * s.size ∧ o.length ≤ most := by
  unfold blkF at h
  split at h
  · cases h
  · rename_i l p1 h1
    obtain ⟨a1, a2, a3, a4⟩ := num_bd h1
    split at h
    · cases h
    · rename_i k p2 h2
      obtain ⟨b1, b2, b3, b4⟩ := num_bd h2
      split at h
      · cases h
      · rename_i o2 q2 h3
        cases h
        obtain ⟨c1, c2, c3⟩ := block_ok b4 hm h3
        exact ⟨by omega, c2, c3⟩
theorem allF_blk (s : ByteArray) (most k : Nat) (out : List UInt8) (p : Nat) : allF s most (k + 1) out p = match blkF s most out p with
    | .error e => .error e
    | .ok (last, o, q) => if last = 1 then .ok (o, (q + 7) / 8) else allF s most k o q := by
  conv => lhs; unfold allF
  unfold blkF
  cases num s p 1 with
  | error e => rfl
  | ok x =>
    obtain ⟨last, p1⟩ := x
    dsimp only
    cases num s p1 2 with
    | error e => rfl
    | ok y =>
      obtain ⟨kind, p2⟩ := y
      dsimp only
      cases block s most kind out p2 with
      | error e => rfl
      | ok z => rfl
attribute [local irreducible] Ld St Nw Nn Lt LdS
section
variable {w : World} {fb rb N : Nat} {o : Slc} {s : ByteArray} {out : List UInt8} {p most : Nat}
end
end Inf
end Go.Proofs.Ytjkoafjnmkchdaa

/- Inflate: the reference's number, stored, copied, signs, Fixed. Conditions: sizes. -/
namespace Go.Proofs.Ytjkoafjnmkchdaa
namespace Inf
open Sh Bit
set_option linter.unusedVariables false
set_option linter.unusedSimpArgs false
set_option maxRecDepth 4000
set_option maxHeartbeats 2000000
/-- What a step of the reference answers. -/
def OutE (r : Except Int (List UInt8 × Nat)) (w w1 : World) (o x : Slc) (q e : Int) : Prop :=
  (∃ out1 q1, r = .ok (out1, q1) ∧ e = 0 ∧ q = ((q1 : Nat) : Int) ∧ BRow w1 x out1 ∧ Ext o.own w w1 ∧ ∀ j, x.own j → o.own j ∨ w.heap.size ≤ j) ∨
  ∃ y : Int, r = .error y ∧ e = y ∧ y ≠ 0 ∧ Ext o.own w w1
theorem no_own {w w1 : World} {o : Slc} (h : Ext (fun _ => False) w w1) : Ext o.own w w1 := h.mono fun _ _ e => e.elim
theorem OutE.pre {r : Except Int (List UInt8 × Nat)} {w w1 w2 : World} {o x : Slc} {q e : Int} (h : OutE r w1 w2 o x q e) (he : Ext (fun _ => False) w w1) : OutE r w w2 o x q e := by
  have := he.size
  rcases h with ⟨a, b, h1, h2, h3, h4, h5, h6⟩ | ⟨y, h1, h2, h3, h4⟩
  · exact .inl ⟨a, b, h1, h2, h3, h4, (no_own he).tr h5, fun j hj => by rcases h6 j hj with e | e; exact .inl e; exact .inr (by omega)⟩
  · exact .inr ⟨y, h1, h2, h3, (no_own he).tr h4⟩
attribute [local irreducible] Ld St Nw Nn Lt LdS
section
variable {w : World} {o : Slc} {s : ByteArray} {out : List UInt8} {p most : Nat}
theorem r_number {n : Nat} (hn : n ≤ 24) (hs : s.size ≤ 1000000) (hp : p ≤ 8 * s.size) (w : World) : C26 s (p : Int) (n : Int) w fun v q e w1 => ((∃ q1 : Nat, num s p n = .ok (v, q1) ∧ q = (q1 : Int) ∧ e = 0) ∨ (num s p n = .error 4 ∧ e = 4)) ∧ Ext (fun _ => False) w w1 := by
  refine T26 _ _ _ _ _ ?_
  unfold S26
  refine ⟨fun k st w1 => ∃ i : Nat, st = (tk s 1 p i, (i : Int)) ∧ i ≤ n ∧ k = n - i ∧ p + i ≤ 8 * s.size ∧ Ext (fun _ => False) w w1, n, ⟨0, rfl, by omega, rfl, by omega, Ext.refl _ _⟩, ?_⟩
  rintro k st w1 ⟨i, rfl, hi, rfl, hpi, he⟩
  unfold S26L1
  dsimp only
  refine Br.dec (fun q => ?_) fun q => ?_
  · rw [i64_id (n := (p : Int) + (i : Int)) (by omega), show (p : Int) + (i : Int) = ((p + i : Nat) : Int) by omega]
    refine (r_bit (p := p + i) hs (by omega) w1).mono ?_
    rintro r w2 ⟨hr, e2⟩
    have E := he.tr e2
    by_cases hend : 8 * s.size ≤ p + i
    · rw [if_pos hend] at hr
      subst hr
      refine Br.t rfl ⟨.inr ⟨?_, rfl⟩, E⟩
      unfold num
      rw [if_neg (by omega)]
    · rw [if_neg hend] at hr
      subst hr
      have hb := bt_bd s 1 (p + i)
      have ht := tk_bd s 1 p i
      have ht1 := tk_bd s 1 p (i + 1)
      have hp24 := two_pow_24 (show i ≤ 24 by omega)
      have hp25 := two_pow_24 (show i + 1 ≤ 24 by omega)
      have e1 : tk s 1 p (i + 1) = tk s 1 p i + bt s 1 (p + i) * 2 ^ i := by
        show (if (1 : Int) = 1 then _ else _) = _
        rw [if_pos rfl]
      refine Br.dec (fun q2 => by omega) fun q2 => ⟨by rw [u64_id (by omega)]; omega, Lt.of ?_⟩
      rw [u64_id (n := (i : Int)) (by omega), Int.toNat_natCast, show min i 64 = i by omega]
      generalize bt s 1 (p + i) * 2 ^ i = z at *
      rw [i64_id (n := z) (by omega), i64_id (n := (i : Int) + 1) (by omega), i64_id (by omega), ← e1]
      exact ⟨n - (i + 1), by omega, i + 1, rfl, by omega, rfl, by omega, E⟩
  · have : i = n := by omega
    subst this
    rw [i64_id (by omega)]
    refine ⟨.inl ⟨p + i, ?_, rfl, rfl⟩, he⟩
    unfold num
    rw [if_pos hpi]
theorem r_stored (h : BRow w o out) (hm : most ≤ 1048576) (hl : out.length ≤ most) (hs : s.size ≤ 1000000) (hp : p ≤ 8 * s.size) : C52 s (p : Int) o (most : Int) w fun x q e w1 => OutE (stored s p out most) w w1 o x q e := by
  refine T52 _ _ _ _ _ _ ?_
  unfold S52
  generalize hR : stored s p out most = R0
  unfold stored at hR
  have h65 : (2 : Int) ^ 16 = 65536 := by decide
  rw [i64_id (n := (p : Int) + 7) (by omega), tdiv_id (by omega), i64_id (n := ((p : Int) + 7) / 8) (by omega), i64_id (by omega), show ((p : Int) + 7) / 8 * 8 = (((p + 7) / 8 * 8 : Nat) : Int) by omega]
  refine (r_number (n := 16) (by omega) hs (by omega) w).mono ?_
  rintro v q e w1 ⟨hn, e1⟩
  rcases hn with ⟨q1, hn, rfl, rfl⟩ | ⟨hn, rfl⟩
  · refine Br.f rfl ?_
    rw [hn] at hR
    dsimp only at hR
    obtain ⟨a0, a1, rfl, a3⟩ := num_bd hn
    refine (r_number (n := 16) (by omega) hs (by omega) w1).mono ?_
    rintro m q e w2 ⟨hn2, e2⟩
    have E2 := e1.tr e2
    rcases hn2 with ⟨q2, hn2, rfl, rfl⟩ | ⟨hn2, rfl⟩
    · refine Br.f rfl ?_
      rw [hn2] at hR
      dsimp only at hR
      obtain ⟨b0, b1, rfl, b3⟩ := num_bd hn2
      rw [i64_id (n := 65535 - v) (by omega)]
      refine Br.ne (fun h3 => ?_) fun h3 => ?_
      · rw [if_pos h3] at hR
        exact .inr ⟨3, hR.symm, rfl, by decide, no_own E2⟩
      rw [if_neg (fun hh => hh h3)] at hR
      obtain ⟨z, rfl⟩ := Int.eq_ofNat_of_zero_le a0
      simp only [Int.toNat_natCast] at hR
      rw [h.len, i64_id (n := (most : Int) - ((out.length : Nat) : Int)) (by omega)]
      refine Br.dec (fun h5 => ?_) fun h5 => Lt.of ?_
      · rw [if_pos (by omega)] at hR
        exact .inr ⟨5, hR.symm, rfl, by decide, no_own E2⟩
      rw [if_neg (by omega)] at hR
      rw [tdiv_id (by omega), i64_id (n := (((p + 7) / 8 * 8 + 16 + 16 : Nat) : Int) / 8) (by omega), i64_id (n := ((s.size : Nat) : Int) - (((p + 7) / 8 * 8 + 16 + 16 : Nat) : Int) / 8) (by omega)]
      refine Br.dec (fun h6 => ?_) fun h6 => ?_
      · rw [if_pos (by omega)] at hR
        exact .inr ⟨4, hR.symm, rfl, by decide, no_own E2⟩
      rw [if_neg (by omega)] at hR
      rw [i64_id (n := (((p + 7) / 8 * 8 + 16 + 16 : Nat) : Int) / 8 + (z : Int)) (by omega)]
      refine ⟨by omega, by omega, by omega, by omega, Lt.of ?_⟩
      rw [show ((((p + 7) / 8 * 8 + 16 + 16 : Nat) : Int) / 8).toNat = ((p + 7) / 8 * 8 + 16 + 16) / 8 by omega, show ((((p + 7) / 8 * 8 + 16 + 16 : Nat) : Int) / 8 + (z : Int)).toNat = ((p + 7) / 8 * 8 + 16 + 16) / 8 + z by omega]
      have hsz : (s.extract (((p + 7) / 8 * 8 + 16 + 16) / 8) (((p + 7) / 8 * 8 + 16 + 16) / 8 + z)).size = z := by rw [ByteArray.size_extract]; omega
      have hrow := h.keep E2 fun _ _ h => h
      obtain ⟨o1, w7, hrun, hrow7, hext, hown⟩ := app_str (ty := 40) hrow (s.extract (((p + 7) / 8 * 8 + 16 + 16) / 8) (((p + 7) / 8 * 8 + 16 + 16) / 8 + z)) (by rw [hsz]; omega)
      refine ⟨o1, w7, hrun, .inl ⟨_, _, hR.symm, rfl, ?_, hrow7, (no_own E2).tr hext, fun j hj => ?_⟩⟩
      · rw [i64_id (n := 8 * (z : Int)) (by omega), i64_id (by omega)]; omega
      · have := E2.size
        rcases hown j hj with e | e
        · exact .inl e
        · exact .inr (by omega)
    · rw [hn2] at hR
      exact Br.t rfl (.inr ⟨4, hR.symm, rfl, by decide, no_own E2⟩)
  · rw [hn] at hR
    exact Br.t rfl (.inr ⟨4, hR.symm, rfl, by decide, no_own e1⟩)
/-- A list of lengths that the output does not touch. -/
def Dis (w : World) (a o : Slc) : Prop := ∀ j, a.own j → ¬ o.own j ∧ j < w.heap.size
theorem Dis.mv {w w1 : World} {a o o1 : Slc} (h : Dis w a o) (he : Ext o.own w w1) (ho : ∀ j, o1.own j → o.own j ∨ w.heap.size ≤ j) : Dis w1 a o1 := fun j hj => by
  obtain ⟨h1, h2⟩ := h j hj
  have := he.size
  refine ⟨fun e => ?_, by omega⟩
  rcases ho j e with e | e
  · exact h1 e
  · omega
theorem r_copied {sg : Nat} {far : List Int} {fs : Slc} (hsg : 256 < sg) (hsg2 : sg ≤ 100000) (h : BRow w o out) (hm : most ≤ 1048576) (hl : out.length ≤ most) (hs : s.size ≤ 1000000) (hp : p ≤ 8 * s.size) (hf : IV w fs far) (hk : Lok far) :
    C74 s (p : Int) (sg : Int) fs o (most : Int) w fun x q e w1 => OutE (copied s far most sg out p) w w1 o x q e := by
  refine T74 _ _ _ _ _ _ _ _ ?_
  unfold S74
  generalize hR : copied s far most sg out p = R0
  unfold copied at hR
  refine Br.dec (fun h1 => ?_) fun h1 => ?_
  · rw [if_pos (by omega)] at hR
    exact .inr ⟨13, hR.symm, rfl, by decide, Ext.refl _ _⟩
  rw [if_neg (by omega)] at hR
  obtain ⟨k, rfl⟩ : ∃ k, sg = 257 + k := ⟨sg - 257, by omega⟩
  have hk28 : k ≤ 28 := by omega
  rw [show 257 + k - 257 = k by omega] at hR
  refine (r_longer hk28 w).mono ?_
  rintro r w ⟨rfl, rfl⟩
  obtain ⟨b1, b2, b3, b4, b5⟩ := base_bd (k := k) (by omega)
  refine (r_number (n := moreL k) (more24 (by omega)).1 hs hp w).mono ?_
  rintro x q e w1 ⟨hn, e1⟩
  rcases hn with ⟨q1, hn, rfl, rfl⟩ | ⟨hn, rfl⟩
  rotate_left
  · rw [hn] at hR
    exact Br.t rfl (.inr ⟨4, hR.symm, rfl, by decide, no_own e1⟩)
  refine Br.f rfl ?_
  rw [hn] at hR
  dsimp only at hR
  obtain ⟨x0, x1, rfl, x3⟩ := num_bd hn
  have hp30 : (2 : Int) ^ moreL k ≤ 2 ^ 6 := two_pow_le (more6 hk28)
  have h06 : (2 : Int) ^ 6 = 64 := by decide
  have h24 : (2 : Int) ^ 24 = 16777216 := by decide
  refine (r_Size _ x w1).mono ?_
  rintro r e w2 ⟨hr, e2⟩
  have hsize : sizeF ((257 + k : Nat) : Int) x = ((firstL k : Int) + x, 0) := by
    unfold sizeF
    rw [if_neg (by omega), show (((257 + k : Nat) : Int) - 257).toNat = k by omega, if_neg (by omega)]
  rw [hsize] at hr
  obtain ⟨rfl, rfl⟩ := Prod.mk.inj hr
  have E2 := e1.tr e2
  refine (r_sym (hf.keep E2) hk hs (by omega)).mono ?_
  rintro d q e w3 ⟨hd, e3⟩
  have E3 := E2.tr e3
  rcases hd with ⟨d, q3, hd, rfl, rfl, rfl⟩ | ⟨y, hd, rfl, hy⟩
  rotate_left
  · rw [hd] at hR
    exact Br.t (by simpa using hy) (.inr ⟨_, hR.symm, rfl, hy, no_own E3⟩)
  refine Br.f rfl ?_
  rw [hd] at hR
  dsimp only at hR
  obtain ⟨d1, d2, d3⟩ := sym_ok hd
  have hlen := hk.len
  refine Br.dec (fun h2 => ?_) fun h2 => ?_
  · rw [if_pos (by omega)] at hR
    exact .inr ⟨13, hR.symm, rfl, by decide, no_own E3⟩
  rw [if_neg (by omega)] at hR
  refine (r_farther (k := d) (by omega) w3).mono ?_
  rintro r w3 ⟨rfl, rfl⟩
  obtain ⟨c1, c2, c3, c4, c5⟩ := base_bd (k := d) (by omega)
  have cp := (base_pos (k := d) (by omega)).1
  refine (r_number (n := moreD d) (more24 (by omega)).2 hs d2 w3).mono ?_
  rintro y q e w4 ⟨hn4, e4⟩
  have E4 := E3.tr e4
  rcases hn4 with ⟨q4, hn4, rfl, rfl⟩ | ⟨hn4, rfl⟩
  rotate_left
  · rw [hn4] at hR
    exact Br.t rfl (.inr ⟨4, hR.symm, rfl, by decide, no_own E4⟩)
  refine Br.f rfl ?_
  rw [hn4] at hR
  dsimp only at hR
  obtain ⟨y0, y1, rfl, y3⟩ := num_bd hn4
  have hp31 : (2 : Int) ^ moreD d ≤ 2 ^ 24 := two_pow_le (more24 (k := d) (by omega)).2
  refine (r_Far _ y w4).mono ?_
  rintro r e w5 ⟨hr, e5⟩
  have E5 := E4.tr e5
  have hfar : farF (d : Int) y = ((baseD d : Int) + y, 0) := by
    unfold farF
    rw [if_neg (by omega), Int.toNat_natCast, if_neg (by omega)]
  rw [hfar] at hr
  obtain ⟨rfl, rfl⟩ := Prod.mk.inj hr
  obtain ⟨x, rfl⟩ := Int.eq_ofNat_of_zero_le x0
  obtain ⟨y, rfl⟩ := Int.eq_ofNat_of_zero_le y0
  simp only [Int.toNat_natCast] at hR
  rw [h.len, i64_id (n := (most : Int) - ((out.length : Nat) : Int)) (by omega)]
  refine Br.dec (fun h3 => ?_) fun h3 => Br.dec (fun h5 => ?_) fun h5 => ?_
  · rw [if_pos (by omega)] at hR
    exact .inr ⟨14, hR.symm, rfl, by decide, no_own E5⟩
  · rw [if_neg (by omega), if_pos (by omega)] at hR
    exact .inr ⟨5, hR.symm, rfl, by decide, no_own E5⟩
  rw [if_neg (by omega), if_neg (by omega)] at hR
  have z5 := E5.size
  refine ⟨fun n st w9 => ∃ (j : Nat) (o9 : Slc), st = (o9, (j : Int)) ∧ j ≤ firstL k + x ∧ n = firstL k + x - j ∧ BRow w9 o9 (copy out (baseD d + y) j) ∧ Ext o.own w w9 ∧ ∀ i, o9.own i → o.own i ∨ w.heap.size ≤ i, firstL k + x, ⟨0, o, rfl, by omega, rfl, h.keep E5 (fun _ _ h => h), no_own E5, fun i hi => .inl hi⟩, ?_⟩
  rintro n st w9 ⟨j, o9, rfl, hj, rfl, H9, m9, own9⟩
  unfold S74L1
  dsimp only
  have hcl := copy_len out (baseD d + y) j
  rw [H9.len, hcl]
  refine Br.dec (fun q => ?_) fun q => ?_
  · rw [i64_id (n := ((out.length + j : Nat) : Int) - ((baseD d : Int) + (y : Int))) (by omega), show ((out.length + j : Nat) : Int) - ((baseD d : Int) + (y : Int)) = ((out.length + j - (baseD d + y) : Nat) : Int) by omega]
    have hlt : out.length + j - (baseD d + y) < (copy out (baseD d + y) j).length := by omega
    obtain ⟨g, hg, hc⟩ := H9.get (getD_some hlt)
    rw [hg]
    refine ⟨by omega, by omega, Nn.of ?_⟩
    simp only [add_lit, Int.toNat_natCast, Nat.mul_one, Nat.zero_add]
    refine Ld.mk (x := (((copy out (baseD d + y) j).getD (out.length + j - (baseD d + y)) 0).toNat : Int)) hc (Nw.of ?_)
    have H10 := H9.keep ((Ext.refl (fun _ => False) w9).alloc (.cells #[.int .u8 (((copy out (baseD d + y) j).getD (out.length + j - (baseD d + y)) 0).toNat : Int)] 5)) fun _ _ h => h
    obtain ⟨o1, w11, hrun, hrow, hext, hown⟩ := app_one (ty := 40) (b := (copy out (baseD d + y) j).getD (out.length + j - (baseD d + y)) 0) H10 (Blk.new w9 _ _) (by omega)
    have z9 := m9.size
    have z10 : w9.heap.size ≤ (w9.alloc (.cells #[.int .u8 (((copy out (baseD d + y) j).getD (out.length + j - (baseD d + y)) 0).toNat : Int)] 5)).heap.size := ((Ext.refl (fun _ => False) w9).alloc _).size
    refine ⟨o1, w11, hrun, firstL k + x - (j + 1), by omega, j + 1, o1, by rw [i64_id (by omega)]; rfl, by omega, rfl, ?_, ?_, fun i hi => ?_⟩
    · have e : copy out (baseD d + y) (j + 1) = copy out (baseD d + y) j ++ [(copy out (baseD d + y) j).getD (out.length + j - (baseD d + y)) 0] := by
        show copy out (baseD d + y) j ++ [(copy out (baseD d + y) j).getD ((copy out (baseD d + y) j).length - (baseD d + y)) 0] = _
        rw [hcl]
      rw [e]
      exact hrow
    · refine (m9.tr (no_own ((Ext.refl _ w9).alloc _))).trans hext (fun _ h => h) fun i hi e => ?_
      rcases own9 i e with e | e
      · exact e
      · omega
    · rcases hown i hi with e | e
      · exact own9 i e
      · exact .inr (by omega)
  · have : j = firstL k + x := by omega
    subst this
    exact .inl ⟨_, _, hR.symm, rfl, rfl, H9, m9, own9⟩
theorem r_signs {near far : List Int} {ns fs : Slc} (h : BRow w o out) (hm : most ≤ 1048576) (hl : out.length ≤ most) (hs : s.size ≤ 1000000) (hp : p ≤ 8 * s.size) (hn : IV w ns near) (hkn : Lok near) (hdn : Dis w ns o) (hf : IV w fs far) (hkf : Lok far) (hdf : Dis w fs o) :
    C56 s (p : Int) ns fs o (most : Int) w fun x q e w1 => OutE (signsF s near far most (8 * s.size + 1) out p) w w1 o x q e := by
  refine T56 _ _ _ _ _ _ _ _ ?_
  unfold S56
  have hnl := hkn.len
  generalize hR : signsF s near far most (8 * s.size + 1) out p = R0
  refine ⟨fun n st w1 => ∃ (o1 : Slc) (out1 : List UInt8) (q : Nat), st = ((q : Int), o1) ∧ BRow w1 o1 out1 ∧ out1.length ≤ most ∧ q ≤ 8 * s.size ∧ Ext o.own w w1 ∧ (∀ i, o1.own i → o.own i ∨ w.heap.size ≤ i) ∧ 8 * s.size < q + n ∧ signsF s near far most n out1 q = R0, 8 * s.size + 1, ⟨o, out, p, rfl, h, hl, hp, Ext.refl _ _, fun i hi => .inl hi, by omega, hR⟩, ?_⟩
  rintro n st w1 ⟨o1, out1, q, rfl, H1, hl1, hq, e1, own1, hfu, hres⟩
  unfold S56L1
  dsimp only
  obtain ⟨n, rfl⟩ : ∃ n', n = n' + 1 := ⟨n - 1, by omega⟩
  unfold signsF at hres
  have z1 := e1.size
  refine (r_sym (hn.keepF e1 fun j hj => (hdn j hj).1) hkn hs hq).mono ?_
  rintro g q e w2 ⟨hg, e2⟩
  have E2 := e1.tr (no_own e2)
  have z2 := e2.size
  rcases hg with ⟨g, q2, hg, rfl, rfl, rfl⟩ | ⟨y, hg, rfl, hy⟩
  rotate_left
  · rw [hg] at hres
    exact Br.t (by simpa using hy) (.inr ⟨_, hres.symm, rfl, hy, E2⟩)
  refine Br.f rfl ?_
  rw [hg] at hres
  dsimp only at hres
  obtain ⟨g1, g2, g3⟩ := sym_ok hg
  have H2 := H1.keep e2 fun _ _ h => h
  refine Br.eq (fun q4 => ?_) fun q4 => Br.dec (fun q5 => ?_) fun q5 => ?_
  · rw [if_pos (by omega)] at hres
    exact .inl ⟨_, _, hres.symm, rfl, rfl, H2, E2, fun j hj => own1 j hj⟩
  · rw [if_neg (by omega), if_pos (by omega)] at hres
    refine (r_copied (by omega) (by omega) H2 hm hl1 hs g2 ((hf.keepF e1 fun j hj => (hdf j hj).1).keep e2) hkf).mono ?_
    rintro x q e w3 hx
    rcases hx with ⟨out3, q3, hc, rfl, rfl, H3, e3, own3⟩ | ⟨y, hc, rfl, hy, e3⟩
    · refine Br.f rfl ?_
      rw [hc] at hres
      dsimp only at hres
      obtain ⟨c1, c2, c3⟩ := copied_ok hc
      refine ⟨n, by omega, x, out3, q3, rfl, H3, c3, c2, E2.trans e3 (fun _ h => h) fun i hi e => ?_, fun i hi => ?_, by omega, hres⟩
      · rcases own1 i e with e | e
        · exact e
        · omega
      · rcases own3 i hi with e | e
        · exact own1 i e
        · exact .inr (by omega)
    · rw [hc] at hres
      refine Br.t (by simpa using hy) (.inr ⟨_, hres.symm, rfl, hy, E2.trans e3 (fun _ h => h) fun i hi e => ?_⟩)
      rcases own1 i e with e | e
      · exact e
      · omega
  · rw [if_neg (by omega), if_neg (by omega)] at hres
    rw [H2.len]
    refine Br.dec (fun q6 => ?_) fun q6 => Nw.of ?_
    · rw [if_pos (by omega)] at hres
      exact .inr ⟨5, hres.symm, rfl, by decide, E2⟩
    rw [if_neg (by omega)] at hres
    have hb : IntKind.u8.wrap (g : Int) = ((UInt8.ofNat g).toNat : Int) := by
      rw [u8_id (by omega), UInt8.toNat_ofNat', Nat.mod_eq_of_lt (by omega)]
    rw [hb]
    have H4 := H2.keep ((Ext.refl (fun _ => False) w2).alloc (.cells #[.int .u8 ((UInt8.ofNat g).toNat : Int)] 5)) fun _ _ h => h
    obtain ⟨o5, w5, hrun, hrow, hext, hown⟩ := app_one (ty := 40) (b := UInt8.ofNat g) H4 (Blk.new w2 _ _) (by omega)
    have z10 : w2.heap.size ≤ (w2.alloc (.cells #[.int .u8 ((UInt8.ofNat g).toNat : Int)] 5)).heap.size := ((Ext.refl (fun _ => False) w2).alloc _).size
    refine ⟨o5, w5, hrun, n, by omega, o5, _, q2, rfl, hrow, by rw [List.length_append]; simp; omega, g2, (E2.tr (no_own ((Ext.refl _ w2).alloc _))).trans hext (fun _ h => h) fun i hi e => ?_, fun i hi => ?_, by omega, hres⟩
    · rcases own1 i e with e | e
      · exact e
      · omega
    · rcases hown i hi with e | e
      · exact own1 i e
      · exact .inr (by omega)
end
end Inf
end Go.Proofs.Ytjkoafjnmkchdaa

/- Inflate: the reference's Fixed, lengths, block, All. Conditions: sizes. -/
namespace Go.Proofs.Ytjkoafjnmkchdaa
namespace Inf
open Sh Bit
set_option linter.unusedVariables false
set_option linter.unusedSimpArgs false
set_option maxRecDepth 4000
set_option maxHeartbeats 2000000
def fixV (i : Nat) : Int := if 256 ≤ i ∧ i < 280 then 7 else if 144 ≤ i ∧ i < 256 then 9 else 8
theorem fixV_all : (List.range 288).map fixV = fixL := by decide +kernel
theorem fixV_step (i : Nat) : (List.range (i + 1)).map fixV = (List.range i).map fixV ++ [fixV i] := by rw [List.range_succ, List.map_append]; rfl
attribute [local irreducible] Ld St Nw Nn Lt LdS
section
variable {w : World} {o : Slc} {s : ByteArray} {out : List UInt8} {p most : Nat}
theorem app_int {w : World} {o : Slc} {l : List Int} {x : Int} (h : Row w o 3 1 (ints l)) (hl : l.length ≤ 100000) :
    ∃ o1 w1, RunV Try.prog (Builtin.append_ #[72, 72] 72 #[Slc.v o, Slc.v ⟨some ⟨w.heap.size, 0, none⟩, 1, 1⟩]) (w.alloc (.cells #[.int .i64 x] 3)) (Slc.v o1) w1 ∧ Row w1 o1 3 1 (ints (l ++ [x])) ∧ Ext o.own w w1 ∧ ∀ j, o1.own j → o.own j ∨ w.heap.size ≤ j := by
  have e1 : Ext (fun _ => False) w (w.alloc (.cells #[.int .i64 x] 3)) := (Ext.refl _ _).alloc _
  have hrl := h.1
  rw [ints_len] at hrl
  obtain ⟨o1, w1, h1, h2, h3, h4, h5⟩ := elI.app1 (ty := 72) (ys := [.int .i64 x]) (h.keep e1 fun _ _ h => h) (Blk.new w _ _) rfl (by intro v hv; rw [List.mem_singleton.1 hv]; rfl) (by omega) (by omega)
  refine ⟨o1, w1, h1, by rw [ints_app]; exact h2, (no_own e1).tr h4, fun j hj => ?_⟩
  have := e1.size
  rcases h5 j hj with e | e
  · exact .inl e
  · exact .inr (by omega)
theorem new_ext {w0 w w1 : World} {o : Slc} (h : Ext (fun _ => False) w0 w) (ho : ∀ j, o.own j → w0.heap.size ≤ j) (k : Ext o.own w w1) : Ext (fun _ => False) w0 w1 := h.trans k (fun _ h => h) fun i hi e => by have := ho i e; omega
theorem new_own {w0 w : World} {o o1 : Slc} (h : Ext (fun _ => False) w0 w) (ho : ∀ j, o.own j → w0.heap.size ≤ j) (k : ∀ j, o1.own j → o.own j ∨ w.heap.size ≤ j) : ∀ j, o1.own j → w0.heap.size ≤ j := fun j hj => by
  have := h.size
  rcases k j hj with e | e
  · exact ho j e
  · omega
theorem nil_own : ∀ (n j : Nat), (⟨none, 0, 0⟩ : Slc).own j → n ≤ j := fun n j hj => by obtain ⟨a, ha, _⟩ := hj; cases ha
theorem r_Fixed (w : World) : C53 w fun a b w1 => IV w1 a fixL ∧ IV w1 b fixD ∧ Ext (fun _ => False) w w1 ∧ (∀ j, a.own j → w.heap.size ≤ j ∧ j < w1.heap.size) ∧ ∀ j, b.own j → w.heap.size ≤ j ∧ j < w1.heap.size := by
  refine T53 _ _ ?_
  unfold S53
  refine ⟨fun n st w1 => ∃ (i : Nat) (o : Slc), st = (o, (i : Int)) ∧ i ≤ 288 ∧ n = 288 - i ∧ Row w1 o 3 1 (ints ((List.range i).map fixV)) ∧ (∀ j, o.own j → w.heap.size ≤ j) ∧ Ext (fun _ => False) w w1, 288, ⟨0, ⟨none, 0, 0⟩, rfl, by omega, rfl, Row.nil _ _ _, nil_own _, Ext.refl _ _⟩, ?_⟩
  rintro n st w1 ⟨i, o, rfl, hi, rfl, hrow, hown, he⟩
  unfold S53L2
  dsimp only
  refine Br.dec (fun q => ?_) fun q => ?_
  · have step : ∀ x : Int, x = fixV i → ∃ o1 w2, RunV Try.prog (Builtin.append_ #[72, 72] 72 #[Slc.v o, Slc.v ⟨some ⟨w1.heap.size, 0, none⟩, 1, 1⟩]) (w1.alloc (.cells #[.int .i64 x] 3)) (Slc.v o1) w2 ∧ ∃ n', n' < 288 - i ∧ ∃ (i' : Nat) (o' : Slc), (o1, IntKind.i64.wrap ((i : Int) + 1)) = (o', (i' : Int)) ∧ i' ≤ 288 ∧ n' = 288 - i' ∧ Row w2 o' 3 1 (ints ((List.range i').map fixV)) ∧ (∀ j, o'.own j → w.heap.size ≤ j) ∧ Ext (fun _ => False) w w2 := fun x hx => by
      obtain ⟨o1, w2, h1, h2, h3, h4⟩ := app_int (x := x) hrow (by simp; omega)
      refine ⟨o1, w2, h1, 288 - (i + 1), by omega, i + 1, o1, by rw [i64_id (by omega)]; rfl, by omega, rfl, ?_, new_own he hown h4, new_ext he hown h3⟩
      rw [fixV_step, ← hx]
      exact h2
    refine ⟨fun x w2 => w2 = w1 ∧ x = (if 144 ≤ i ∧ i < 256 then 9 else 8), ?_, ?_⟩
    case refine_2 =>
      refine Br.dec (fun q1 => Br.dec (fun q2 => ⟨rfl, by rw [if_pos (by omega)]⟩) fun q2 => ⟨rfl, by rw [if_neg (by omega)]⟩) fun q1 => ⟨rfl, by rw [if_neg (by omega)]⟩
    rintro x w3 ⟨rfl, rfl⟩
    unfold S53J1
    dsimp only
    refine Br.dec (fun q1 => Br.dec (fun q2 => Nw.of (step 7 ?_)) fun q2 => Nw.of (step _ ?_)) fun q1 => Nw.of (step _ ?_)
    · unfold fixV; rw [if_pos (by omega)]
    · unfold fixV; repeat' split
      all_goals omega
    · unfold fixV; repeat' split
      all_goals omega
  · have : i = 288 := by omega
    subst this
    rw [fixV_all] at hrow
    have hlt : ∀ j, o.own j → w.heap.size ≤ j ∧ j < w1.heap.size := fun j hj => ⟨hown j hj, hrow.own_lt hj⟩
    refine ⟨fun n st w2 => ∃ (i : Nat) (o2 : Slc), st = (o2, (i : Int)) ∧ i ≤ 32 ∧ n = 32 - i ∧ Row w2 o2 3 1 (ints (List.replicate i 5)) ∧ (∀ j, o2.own j → w1.heap.size ≤ j) ∧ Ext (fun _ => False) w1 w2, 32, ⟨0, ⟨none, 0, 0⟩, rfl, by omega, rfl, Row.nil _ _ _, nil_own _, Ext.refl _ _⟩, ?_⟩
    rintro n st w2 ⟨i, o2, rfl, hi2, rfl, hrow2, hown2, he2⟩
    unfold S53L1
    dsimp only
    refine Br.dec (fun q3 => Nw.of ?_) fun q3 => ?_
    · obtain ⟨o3, w3, h1, h2, h3, h4⟩ := app_int (x := 5) hrow2 (by simp; omega)
      refine ⟨o3, w3, h1, 32 - (i + 1), by omega, i + 1, o3, by rw [i64_id (by omega)]; rfl, by omega, rfl, ?_, new_own he2 hown2 h4, new_ext he2 hown2 h3⟩
      rw [List.replicate_succ']
      exact h2
    · have : i = 32 := by omega
      subst this
      have z := he.size
      have z2 := he2.size
      exact ⟨(IV.row hrow).keep he2, IV.row hrow2, he.tr he2, fun j hj => by have := hlt j hj; omega, fun j hj => by have := hown2 j hj; have := hrow2.own_lt hj; omega⟩
theorem r_all {lens : List Int} {ls : Slc} {many : Nat} (hv : IV w ls lens) (hk : Lok lens) (h19 : lens.length = 19) (hs : s.size ≤ 1000000) (hp : p ≤ 8 * s.size) (hm : many ≤ 1000) :
    C71 s (p : Int) ls (many : Int) w fun r q e w1 => Ext (fun _ => False) w w1 ∧ ((∃ l q1, lensF lens s many (many + 1) [] p = .ok (l, q1) ∧ e = 0 ∧ q = ((q1 : Nat) : Int) ∧ IV w1 r l ∧ r.len ≤ r.cap ∧ ∀ j, r.own j → w.heap.size ≤ j ∧ j < w1.heap.size) ∨ ∃ y : Int, lensF lens s many (many + 1) [] p = .error y ∧ e = y ∧ y ≠ 0) := by
  refine T71 _ _ _ _ _ _ ?_
  unfold S71
  generalize hR : lensF lens s many (many + 1) [] p = R0
  refine ⟨fun n st w2 => ∃ (l : List Int) (q : Nat) (o : Slc), st = ((q : Int), o) ∧ Row w2 o 3 1 (ints l) ∧ (∀ j, o.own j → w.heap.size ≤ j) ∧ Ext (fun _ => False) w w2 ∧ q ≤ 8 * s.size ∧ l.length ≤ many ∧ many < l.length + n ∧ lensF lens s many n l q = R0, many + 1, ⟨[], p, ⟨none, 0, 0⟩, rfl, Row.nil _ _ _, nil_own _, Ext.refl _ _, hp, Nat.zero_le _, by simp, hR⟩, ?_⟩
  rintro n st w2 ⟨l, q, o, rfl, hrow, hown, e2, hq, hlm, hfu, hres⟩
  unfold S71L2
  dsimp only
  have hsl : o.len = l.length := by have := hrow.1; rw [ints_len] at this; omega
  have hz2 := e2.size
  rw [hsl]
  obtain ⟨n, rfl⟩ : ∃ n', n = n' + 1 := ⟨n - 1, by omega⟩
  unfold lensF at hres
  refine Br.dec (fun q1 => ?_) fun q1 => ?_
  · rw [if_neg (by omega)] at hres
    refine (r_sym (hv.keep e2) hk hs hq).mono ?_
    rintro g q e w3 ⟨hg, e3⟩
    have E3 := e2.tr e3
    rcases hg with ⟨g, q3, hg, rfl, rfl, rfl⟩ | ⟨y, hg, rfl, hy⟩
    rotate_left
    · rw [hg] at hres
      exact Br.t (by simpa using hy) ⟨E3, .inr ⟨_, hres.symm, rfl, hy⟩⟩
    refine Br.f rfl ?_
    rw [hg] at hres
    dsimp only at hres
    obtain ⟨g1, g2, g3⟩ := sym_ok hg
    rw [h19] at g3
    have hrow3 := hrow.keep e3 fun _ _ h => h
    refine Br.dec (fun q4 => Nw.of ?_) fun q4 => ?_
    · rw [if_pos (by omega)] at hres
      obtain ⟨o1, w4, h1, h2, h3, h4⟩ := app_int (x := (g : Int)) hrow3 (by omega)
      exact ⟨o1, w4, h1, n, by omega, _, q3, o1, rfl, h2, new_own E3 hown h4, new_ext E3 hown h3, g2, by rw [List.length_append]; simp; omega, by rw [List.length_append]; simp; omega, hres⟩
    rw [if_neg (by omega)] at hres
    refine ⟨fun _ w4 => w4 = w3 ∧ ¬ (g = 16 ∧ l.length = 0), ?_, ?_⟩
    case refine_2 =>
      refine Br.eq (fun q5 => Br.eq (fun q6 => ?_) fun q6 => ⟨rfl, by omega⟩) fun q5 => ⟨rfl, by omega⟩
      rw [if_pos (by omega)] at hres
      exact ⟨E3, .inr ⟨3, hres.symm, rfl, by decide⟩⟩
    rintro _ w3 ⟨rfl, hne⟩
    rw [if_neg hne] at hres
    unfold S71J4
    dsimp only
    refine ⟨fun x w4 => w4 = w3 ∧ x = (if g = 16 then l.getD (l.length - 1) 0 else 0), ?_, ?_⟩
    case refine_2 =>
      refine Br.eq (fun q5 => ?_) fun q5 => ⟨rfl, by rw [if_neg (by omega)]⟩
      rw [hsl, i64_id (n := ((l.length : Nat) : Int) - 1) (by omega)]
      obtain ⟨a, ha, hc⟩ := (IV.row hrow3).get (i := l.length - 1) (by omega)
      rw [ha]
      refine ⟨by omega, by omega, Nn.of ?_⟩
      rw [show (((l.length : Nat) : Int) - 1).toNat = l.length - 1 by omega]
      exact Ld.mk hc ⟨rfl, by rw [if_pos (by omega)]⟩
    rintro what w3 ⟨rfl, hwhat⟩
    unfold S71J3
    refine ⟨fun x w4 => w4 = w3 ∧ x = (if g = 17 then 3 else 2), ?_, ?_⟩
    case refine_2 => exact Br.eq (fun q5 => ⟨rfl, by rw [if_pos (by omega)]⟩) fun q5 => ⟨rfl, by rw [if_neg (by omega)]⟩
    rintro x w3 ⟨rfl, rfl⟩
    unfold S71J2
    refine ⟨fun x w4 => w4 = w3 ∧ x = (((repB g : Nat) : Int), ((repL g : Nat) : Int)), ?_, ?_⟩
    case refine_2 =>
      refine Br.eq (fun q5 => ⟨rfl, ?_⟩) fun q5 => ⟨rfl, ?_⟩
      · have : g = 18 := by omega
        subst this; rfl
      · have : g = 16 ∨ g = 17 := by omega
        rcases this with rfl | rfl <;> rfl
    rintro x w3 ⟨rfl, rfl⟩
    unfold S71J1
    dsimp only
    have hB : repB g ≤ 7 ∧ 2 ≤ repB g := by unfold repB; split; omega; split <;> omega
    have hLb : repL g ≤ 11 ∧ 3 ≤ repL g := by unfold repL; split <;> omega
    refine (r_number (n := repB g) (by omega) hs g2 w3).mono ?_
    rintro v q e w4 ⟨hn, e4⟩
    have E4 := E3.tr e4
    rcases hn with ⟨q8, hn, rfl, rfl⟩ | ⟨hn, rfl⟩
    rotate_left
    · rw [hn] at hres
      exact Br.t rfl ⟨E4, .inr ⟨4, hres.symm, rfl, by decide⟩⟩
    refine Br.f rfl ?_
    rw [hn] at hres
    dsimp only at hres
    obtain ⟨x0, x1, rfl, x3⟩ := num_bd hn
    have hp7 : (2 : Int) ^ repB g ≤ 2 ^ 7 := two_pow_le (by omega)
    have h27 : (2 : Int) ^ 7 = 128 := by decide
    obtain ⟨x, rfl⟩ := Int.eq_ofNat_of_zero_le x0
    simp only [Int.toNat_natCast] at hres
    rw [hsl, i64_id (n := ((repL g : Nat) : Int) + (x : Int)) (by omega), i64_id (n := (many : Int) - ((l.length : Nat) : Int)) (by omega)]
    refine Lt.of (Br.dec (fun q6 => ?_) fun q6 => ?_)
    · rw [if_pos (by omega)] at hres
      exact ⟨E4, .inr ⟨3, hres.symm, rfl, by decide⟩⟩
    rw [if_neg (by omega), ← hwhat] at hres
    have hrow4 := hrow3.keep e4 fun _ _ h => h
    refine ⟨fun m st w5 => ∃ (i : Nat) (o5 : Slc), st = (o5, (i : Int)) ∧ i ≤ repL g + x ∧ m = repL g + x - i ∧ Row w5 o5 3 1 (ints (l ++ List.replicate i what)) ∧ (∀ j, o5.own j → w.heap.size ≤ j) ∧ Ext (fun _ => False) w w5, repL g + x, ⟨0, o, rfl, by omega, rfl, by simpa using hrow4, hown, E4⟩, ?_⟩
    rintro m st w5 ⟨i, o5, rfl, hi, rfl, hrow5, hown5, e5⟩
    unfold S71L1
    dsimp only
    rw [i64_id (n := ((repL g : Nat) : Int) + (x : Int)) (by omega)]
    refine Br.dec (fun q7 => Nw.of ?_) fun q7 => ?_
    · obtain ⟨o6, w6, h1, h2, h3, h4⟩ := app_int (x := what) hrow5 (by rw [List.length_append, List.length_replicate]; omega)
      refine ⟨o6, w6, h1, repL g + x - (i + 1), by omega, i + 1, o6, by rw [i64_id (by omega)]; rfl, by omega, rfl, ?_, new_own e5 hown5 h4, new_ext e5 hown5 h3⟩
      rw [List.replicate_succ', ← List.append_assoc]
      exact h2
    · have : i = repL g + x := by omega
      subst this
      exact ⟨n, by omega, _, q3 + repB g, o5, rfl, hrow5, hown5, e5, by omega, by rw [List.length_append, List.length_replicate]; omega, by rw [List.length_append, List.length_replicate]; omega, hres⟩
  · rw [if_pos (by omega)] at hres
    exact ⟨e2, .inl ⟨l, q, hres.symm, rfl, rfl, IV.row hrow, by have := row_cap hrow; omega, fun j hj => ⟨hown j hj, hrow.own_lt hj⟩⟩⟩
end
end Inf
end Go.Proofs.Ytjkoafjnmkchdaa

/- Inflate: the reference's lengths, block, All. Conditions: sizes. -/
namespace Go.Proofs.Ytjkoafjnmkchdaa
namespace Inf
open Sh Bit
set_option linter.unusedVariables false
set_option linter.unusedSimpArgs false
set_option maxRecDepth 4000
set_option maxHeartbeats 2000000
def dynT (l : List Int) (n q : Nat) : Except Int (List Int × List Int × Nat) := if l.getD 256 0 = 0 then .error 13 else if chk (l.take n) ≠ 0 then .error (chk (l.take n))
  else if chk (l.drop n) ≠ 0 then .error (chk (l.drop n)) else .ok (l.take n, l.drop n, q)
theorem take_own {s : Slc} {n j : Nat} (h : (s.cut 1 0 n s.cap).own j) : s.own j := by
  obtain ⟨a, ha, rfl⟩ := h
  have ha : (if s.cap = 0 then s.p else s.p.map (·.add (0 * 1))) = some a := ha
  split at ha
  · exact ⟨a, ha, rfl⟩
  · obtain ⟨x, hx, rfl⟩ := Option.map_eq_some_iff.1 ha
    exact ⟨x, hx, (add_block x _).symm⟩
theorem take_len {l : List Int} (n : Nat) (hn : n ≤ l.length) : (l.take n).length = n := by rw [List.length_take]; omega
attribute [local irreducible] Ld St Nw Nn Lt LdS
section
variable {w : World} {o : Slc} {s : ByteArray} {out : List UInt8} {p most : Nat}
theorem r_lengths (hs : s.size ≤ 1000000) (hp : p ≤ 8 * s.size) (w : World) : C54 s (p : Int) w fun a b q e w1 => Ext (fun _ => False) w w1 ∧ ((∃ y : Int, dyn s p = .error y ∧ e = y ∧ y ≠ 0) ∨
    ∃ (l : List Int) (n q1 : Nat), e = 0 ∧ q = (q1 : Int) ∧ q1 ≤ 8 * s.size ∧ 257 ≤ n ∧ n ≤ l.length ∧ IV w1 a (l.take n) ∧ IV w1 b (l.drop n) ∧ dyn s p = dynT l n q1 ∧ (∀ j, a.own j → w.heap.size ≤ j ∧ j < w1.heap.size) ∧ ∀ j, b.own j → w.heap.size ≤ j ∧ j < w1.heap.size) := by
  refine T54 _ _ _ _ ?_
  unfold S54
  have h32 : (2 : Int) ^ 5 = 32 := by decide
  have h16 : (2 : Int) ^ 4 = 16 := by decide
  generalize hR : dyn s p = R0
  unfold dyn at hR
  refine (r_number (n := 5) (by omega) hs hp w).mono ?_
  rintro hl q e w1 ⟨hn, e1⟩
  rcases hn with ⟨p1, hn, rfl, rfl⟩ | ⟨hn, rfl⟩
  rotate_left
  · rw [hn] at hR
    exact Br.t rfl ⟨e1, .inl ⟨4, hR.symm, rfl, by decide⟩⟩
  refine Br.f rfl ?_
  rw [hn] at hR
  dsimp only at hR
  obtain ⟨a0, a1, rfl, a3⟩ := num_bd hn
  refine Br.dec (fun q1 => ?_) fun q1 => ?_
  · rw [if_pos (by omega)] at hR
    exact ⟨e1, .inl ⟨3, hR.symm, rfl, by decide⟩⟩
  rw [if_neg (by omega)] at hR
  refine (r_number (n := 5) (by omega) hs (by omega) w1).mono ?_
  rintro hd q e w2 ⟨hn, e2⟩
  have E2 := e1.tr e2
  rcases hn with ⟨p2, hn, rfl, rfl⟩ | ⟨hn, rfl⟩
  rotate_left
  · rw [hn] at hR
    exact Br.t rfl ⟨E2, .inl ⟨4, hR.symm, rfl, by decide⟩⟩
  refine Br.f rfl ?_
  rw [hn] at hR
  dsimp only at hR
  obtain ⟨b0, b1, rfl, b3⟩ := num_bd hn
  refine Br.dec (fun q2 => ?_) fun q2 => ?_
  · rw [if_pos (by omega)] at hR
    exact ⟨E2, .inl ⟨3, hR.symm, rfl, by decide⟩⟩
  rw [if_neg (by omega)] at hR
  refine (r_number (n := 4) (by omega) hs (by omega) w2).mono ?_
  rintro hc q e w3 ⟨hn, e3⟩
  have E3 := E2.tr e3
  rcases hn with ⟨p3, hn, rfl, rfl⟩ | ⟨hn, rfl⟩
  rotate_left
  · rw [hn] at hR
    exact Br.t rfl ⟨E3, .inl ⟨4, hR.symm, rfl, by decide⟩⟩
  refine Br.f rfl ?_
  rw [hn] at hR
  dsimp only at hR
  obtain ⟨c0, c1, rfl, c3⟩ := num_bd hn
  obtain ⟨hl, rfl⟩ := Int.eq_ofNat_of_zero_le a0
  obtain ⟨hd, rfl⟩ := Int.eq_ofNat_of_zero_le b0
  obtain ⟨hc, rfl⟩ := Int.eq_ofNat_of_zero_le c0
  simp only [Int.toNat_natCast] at hR
  refine (Hn.start w3).nw fun w4 H => ?_
  simp only [List.nil_append] at H
  have H : Hn w3 w4 [(w3.heap.size, ints (ordI order), 3)] := H
  obtain ⟨w5, hrun, hw5⟩ := elI.make (zs := [.int .i64 0]) rfl w4 19 (by omega) (by omega)
  refine ⟨_, w5, hrun, ?_⟩
  have H : Hn w3 w5 [(w3.heap.size, ints (ordI order), 3), (w4.heap.size, ints (List.replicate 19 0), 3)] := by
    have hlt := H.lt 0 rfl
    rw [hw5, flat_zero]
    exact (H.keep ((Ext.refl _ _).alloc _)).push (Blk.new _ _ _) H.size (by simp; omega)
  generalize hR19 : lens19 s (order.take (hc + 4)) (List.replicate 19 0) (p + 5 + 5 + 4) = R19
  rw [hR19] at hR
  refine ⟨fun n st w6 => ∃ (i : Nat) (l : List Int) (q : Nat), st = ((q : Int), (i : Int)) ∧ i ≤ hc + 4 ∧ n = hc + 4 - i ∧ l.length = 19 ∧ q ≤ 8 * s.size ∧ Hn w3 w6 [(w3.heap.size, ints (ordI order), 3), (w4.heap.size, ints l, 3)] ∧ lens19 s ((order.take (hc + 4)).drop i) l q = R19, hc + 4, ⟨0, _, _, rfl, by omega, rfl, by simp, by omega, H, hR19⟩, ?_⟩
  rintro n st w6 ⟨i, l, q, rfl, hi, rfl, hl19, hq, H, hres⟩
  unfold S54L1
  dsimp only
  rw [i64_id (n := (hc : Int) + 4) (by omega)]
  have E6 := E3.tr H.ext
  refine Br.dec (fun q3 => ?_) fun q3 => ?_
  · have hol := order_lt i (by omega)
    have hdrop : (order.take (hc + 4)).drop i = order.getD i 0 :: (order.take (hc + 4)).drop (i + 1) := by
      have hlen : (order.take (hc + 4)).length = hc + 4 := by rw [List.length_take]; show min (hc + 4) 19 = _; omega
      rw [List.drop_eq_getElem_cons (by omega)]
      congr 1
      rw [List.getElem_take, List.getD_eq_getElem?_getD, List.getElem?_eq_getElem (by show i < 19; omega)]
      rfl
    rw [hdrop] at hres
    unfold lens19 at hres
    refine (r_number (n := 3) (by omega) hs hq w6).mono ?_
    rintro x q e w7 ⟨hn, e7⟩
    rcases hn with ⟨p7, hn, rfl, rfl⟩ | ⟨hn, rfl⟩
    rotate_left
    · rw [hn] at hres
      rw [← hres] at hR
      exact Br.t rfl ⟨E6.tr e7, .inl ⟨4, hR.symm, rfl, by decide⟩⟩
    refine Br.f rfl ?_
    rw [hn] at hres
    dsimp only at hres
    obtain ⟨x0, x1, rfl, x3⟩ := num_bd hn
    have H := H.keep e7
    refine ⟨by omega, by show (i : Int) < ((19 : Nat) : Int); omega, Nn.of ?_⟩
    simp only [add_lit, Int.toNat_natCast, Nat.mul_one, Nat.zero_add]
    refine H.ld 0 rfl (x := ((order.getD i 0 : Nat) : Int)) (by rw [ints_get (by rw [ordI_len]; show i < 19; omega), ordI_get]) ⟨by omega, by show ((order.getD i 0 : Nat) : Int) < ((19 : Nat) : Int); omega, Nn.of ?_⟩
    simp only [add_lit, Int.toNat_natCast, Nat.mul_one, Nat.zero_add]
    refine H.st 1 rfl (by rw [ints_len]; omega) fun w8 H => ?_
    simp only [List.set_cons_zero, List.set_cons_succ] at H
    rw [ints_set] at H
    exact ⟨hc + 4 - (i + 1), by omega, i + 1, _, _, by rw [i64_id (by omega)]; rfl, by omega, rfl, by rw [List.length_set]; exact hl19, x3, H, hres⟩
  · have hi4 : i = hc + 4 := by omega
    subst hi4
    have hd0 : (order.take (hc + 4)).drop (hc + 4) = [] := List.drop_eq_nil_of_le (by rw [List.length_take]; omega)
    rw [hd0] at hres
    have hres : Except.ok (l, q) = R19 := hres
    rw [← hres] at hR
    dsimp only at hR
    have hvl : IV w6 ⟨some ⟨w4.heap.size, 0, none⟩, 19, 19⟩ l := IV.blk (H.get 1 rfl) hl19.symm
    refine (r_chk hvl).mono ?_
    rintro r w6 ⟨rfl, rfl⟩
    refine Br.ne (fun h7 => ?_) fun h7 => ?_
    · rw [if_pos h7] at hR
      exact ⟨E6, .inl ⟨_, hR.symm, rfl, h7⟩⟩
    rw [if_neg (fun hh => hh h7)] at hR
    rw [i64_id (n := (hl : Int) + 257) (by omega), i64_id (n := (hl : Int) + 257 + (hd : Int)) (by omega), i64_id (n := (hl : Int) + 257 + (hd : Int) + 1) (by omega), show (hl : Int) + 257 + (hd : Int) + 1 = ((hl + 257 + (hd + 1) : Nat) : Int) by omega]
    refine (r_all hvl (chk_lok h7) hl19 hs hq (many := hl + 257 + (hd + 1)) (by omega)).mono ?_
    rintro r q e w8 ⟨e8, h8⟩
    have E8 := E6.tr e8
    rcases h8 with ⟨l2, q2, h8, rfl, rfl, hv2, hcap2, own2⟩ | ⟨y, h8, rfl, hy⟩
    rotate_left
    · rw [h8] at hR
      exact Br.t (by simpa using hy) ⟨E8, .inl ⟨_, hR.symm, rfl, hy⟩⟩
    refine Br.f rfl ?_
    rw [h8] at hR
    dsimp only at hR
    obtain ⟨f1, f2, f3⟩ := lensF_ok _ _ _ hq (Nat.zero_le _) h8
    have hln := hv2.1
    rw [show (hl : Int) + 257 = ((hl + 257 : Nat) : Int) by omega, Int.toNat_natCast]
    have z6 := E6.size
    have hvd := (hv2.drop hcap2 (d := hl + 257) (by omega)).1
    refine ⟨by omega, by omega, by omega, by omega, E8.drew, .inr ⟨l2, hl + 257, q2, rfl, rfl, f2, by omega, by omega, (hv2.take (by omega)).keep (Ext.refl _ _).drew, hvd.keep (Ext.refl _ _).drew, hR.symm, fun j hj => ?_, fun j hj => ?_⟩⟩
    · have := own2 j (take_own hj)
      show w.heap.size ≤ j ∧ j < w8.heap.size
      omega
    · have := own2 j (cut_own hj)
      show w.heap.size ≤ j ∧ j < w8.heap.size
      omega
theorem r_block {kind : Int} (h : BRow w o out) (hm : most ≤ 1048576) (hl : out.length ≤ most) (hs : s.size ≤ 1000000) (hp : p ≤ 8 * s.size) : C27 s (p : Int) kind o (most : Int) w fun x q e w1 => OutE (block s most kind out p) w w1 o x q e := by
  refine T27 _ _ _ _ _ _ _ ?_
  unfold S27
  generalize hR : block s most kind out p = R0
  unfold block at hR
  refine Br.eq (fun h3 => ?_) fun h3 => Br.eq (fun h0 => ?_) fun h0 => ?_
  · rw [if_pos h3] at hR
    exact .inr ⟨3, hR.symm, rfl, by decide, Ext.refl _ _⟩
  · rw [if_neg h3, if_pos h0] at hR
    refine (r_stored h hm hl hs hp).mono ?_
    rintro x q e w1 hx
    rw [hR] at hx
    exact hx
  rw [if_neg h3, if_neg h0] at hR
  refine (r_Fixed w).mono ?_
  rintro fa fb w1 ⟨va, vb, e1, oa, ob⟩
  have z1 := e1.size
  have H1 := h.keep e1 fun _ _ h => h
  have olt : ∀ j, o.own j → j < w.heap.size := fun j hj => h.own_lt hj
  refine Br.eq (fun h2 => ?_) fun h2 => ?_
  · rw [if_pos h2] at hR
    refine (r_lengths hs hp w1).mono ?_
    rintro a b q e w2 ⟨e2, hd⟩
    have E2 := e1.tr e2
    have z2 := E2.size
    rcases hd with ⟨y, hd, rfl, hy⟩ | ⟨l, n, q2, rfl, rfl, hq2, hn1, hn2, ha, hb, hd, owna, ownb⟩
    · rw [hd] at hR
      exact Br.t (by simpa using hy) (.inr ⟨_, hR.symm, rfl, hy, no_own E2⟩)
    refine Br.f rfl ?_
    rw [hd] at hR
    unfold dynT at hR
    have htl := take_len (l := l) n hn2
    obtain ⟨g, hg, hc⟩ := ha.get (i := 256) (by omega)
    have hlen := ha.1
    have h256 : (l.take n).getD 256 0 = l.getD 256 0 := by
      rw [List.getD_eq_getElem?_getD, List.getElem?_take_of_lt (by omega), List.getD_eq_getElem?_getD]
    rw [hg]
    refine ⟨by omega, by omega, Nn.of (Ld.mk hc ?_)⟩
    rw [h256]
    refine Br.eq (fun q3 => ?_) fun q3 => ?_
    · rw [if_pos q3] at hR
      exact .inr ⟨13, hR.symm, rfl, by decide, no_own E2⟩
    rw [if_neg q3] at hR
    refine (r_chk ha).mono ?_
    rintro r w2 ⟨rfl, rfl⟩
    refine Br.ne (fun q4 => ?_) fun q4 => ?_
    · rw [if_pos q4] at hR
      exact .inr ⟨_, hR.symm, rfl, q4, no_own E2⟩
    rw [if_neg (fun hh => hh q4)] at hR
    refine (r_chk hb).mono ?_
    rintro r w2 ⟨rfl, rfl⟩
    refine Br.ne (fun q5 => ?_) fun q5 => ?_
    · rw [if_pos q5] at hR
      exact .inr ⟨_, hR.symm, rfl, q5, no_own E2⟩
    rw [if_neg (fun hh => hh q5)] at hR
    refine (r_signs (H1.keep e2 fun _ _ h => h) hm hl hs hq2 ha (chk_lok q4) (fun j hj => ⟨fun e => ?_, (owna j hj).2⟩) hb (chk_lok q5) (fun j hj => ⟨fun e => ?_, (ownb j hj).2⟩)).mono ?_
    · have := owna j hj; have := olt j e; omega
    · have := ownb j hj; have := olt j e; omega
    · rintro x q e w3 hx
      dsimp only at hR
      rw [hR] at hx
      exact hx.pre E2
  · rw [if_neg h2] at hR
    refine (r_signs H1 hm hl hs hp va (chk_lok chk_fixL) (fun j hj => ⟨fun e => ?_, (oa j hj).2⟩) vb (chk_lok chk_fixD) (fun j hj => ⟨fun e => ?_, (ob j hj).2⟩)).mono ?_
    · have := oa j hj; have := olt j e; omega
    · have := ob j hj; have := olt j e; omega
    · rintro x q e w3 hx
      rw [hR] at hx
      exact hx.pre e1
theorem r_All (hs : s.size ≤ 1000000) (m : Int) (w : World) : C10 s m w fun d n e w1 => (d, n, e) = allR s m ∧ Ext (fun _ => False) w w1 := by
  refine T10 _ _ _ _ ?_
  unfold S10
  refine Br.dec (fun h1 => ⟨by unfold allR; rw [if_pos h1], Ext.refl _ _⟩) fun h1 => ?_
  have hmost : (if 1048576 < m then (1048576 : Int) else m) = (((min m 1048576).toNat : Nat) : Int) := by
    split <;> omega
  have hmb : (min m 1048576).toNat ≤ 1048576 := by omega
  have hall : allR s m = match allF s (min m 1048576).toNat (8 * s.size + 1) [] 0 with
      | .error e => (⟨#[]⟩, 0, e)
      | .ok (o, n) => (⟨o.toArray⟩, (n : Int), 0) := by
    unfold allR
    rw [if_neg (by omega)]
    cases allF s (min m 1048576).toNat (8 * s.size + 1) [] 0 <;> rfl
  generalize (min m 1048576).toNat = mm at *
  generalize hRR : allF s mm (8 * s.size + 1) [] 0 = R0 at hall
  refine ⟨fun n st w7 => ∃ (out1 : List UInt8) (o1 : Slc) (q : Nat), st = (o1, (q : Int)) ∧ BRow w7 o1 out1 ∧ out1.length ≤ mm ∧ q ≤ 8 * s.size ∧ (∀ j, o1.own j → w.heap.size ≤ j) ∧ Ext (fun _ => False) w w7 ∧ 8 * s.size < q + n ∧ allF s mm n out1 q = R0, 8 * s.size + 1, ⟨[], ⟨none, 0, 0⟩, 0, rfl, BRow.nil _, Nat.zero_le _, Nat.zero_le _, nil_own _, Ext.refl _ _, by omega, hRR⟩, ?_⟩
  rintro n st w1 ⟨out1, o1, q, rfl, H1, hl1, hq, own1, e1, hfu, hres⟩
  unfold S10L1
  dsimp only
  obtain ⟨n, rfl⟩ : ∃ n', n = n' + 1 := ⟨n - 1, by omega⟩
  unfold allF at hres
  refine (r_number (n := 1) (by omega) hs hq w1).mono ?_
  rintro last q e w2 ⟨hn, e2⟩
  have E2 := e1.tr e2
  rcases hn with ⟨q2, hn, rfl, rfl⟩ | ⟨hn, rfl⟩
  rotate_left
  · rw [hn] at hres
    exact Br.t rfl ⟨by rw [hall, ← hres], E2⟩
  refine Br.f rfl ?_
  rw [hn] at hres
  dsimp only at hres
  obtain ⟨a0, a1, rfl, a3⟩ := num_bd hn
  refine (r_number (n := 2) (by omega) hs (by omega) w2).mono ?_
  rintro kind q e w3 ⟨hn, e3⟩
  have E3 := E2.tr e3
  rcases hn with ⟨q3, hn, rfl, rfl⟩ | ⟨hn, rfl⟩
  rotate_left
  · rw [hn] at hres
    exact Br.t rfl ⟨by rw [hall, ← hres], E3⟩
  refine Br.f rfl ?_
  rw [hn] at hres
  dsimp only at hres
  obtain ⟨b0, b1, rfl, b3⟩ := num_bd hn
  rw [hmost]
  refine (r_block (kind := kind) ((H1.keep e2 fun _ _ h => h).keep e3 fun _ _ h => h) hmb hl1 hs b3).mono ?_
  rintro x q e w4 hx
  rcases hx with ⟨out4, q4, hb, rfl, rfl, H4, e4, own4⟩ | ⟨y, hb, rfl, hy, e4⟩
  rotate_left
  · rw [hb] at hres
    exact Br.t (by simpa using hy) ⟨by rw [hall, ← hres], new_ext E3 own1 e4⟩
  refine Br.f rfl ?_
  rw [hb] at hres
  dsimp only at hres
  obtain ⟨c1, c2, c3⟩ := block_ok b3 hl1 hb
  have E4 := new_ext E3 own1 e4
  refine Br.eq (fun h5 => ?_) fun h5 => ?_
  · rw [if_pos h5] at hres
    refine ⟨_, _, str_row H4, ?_, E4⟩
    rw [hall, ← hres]
    dsimp only
    rw [i64_id (n := (q4 : Int) + 7) (by omega), tdiv_id (by omega), i64_id (by omega)]
    congr 2
  · rw [if_neg h5] at hres
    exact ⟨n, by omega, out4, x, q4, rfl, H4, c3, c2, new_own E3 own1 own4, E4, by omega, hres⟩
end
end Inf
end Go.Proofs.Ytjkoafjnmkchdaa

/- No laws here. -/

/- Inflate: lives; InflateTells and InflateCovers: the walks. Conditions: the laid variables. -/
namespace Go.Proofs.Ytjkoafjnmkchdaa
namespace Inf
open Sh Bit
set_option linter.unusedVariables false
set_option linter.unusedSimpArgs false
set_option maxRecDepth 100000
set_option maxHeartbeats 2000000
theorem lv1 : allR ⟨#[1, 2, 0, 253, 255, 97, 98]⟩ 10 = (⟨#[97, 98]⟩, 7, 0) := by decide +kernel
theorem lv2 : allR ⟨#[75, 4, 0]⟩ 1 = (⟨#[97]⟩, 3, 0) := by decide +kernel
theorem lv3 : allR ⟨#[75, 4, 0]⟩ 0 = (⟨#[]⟩, 0, 5) := by decide +kernel
theorem lv4 : allR ⟨#[7]⟩ 10 = (⟨#[]⟩, 0, 3) := by decide +kernel
theorem lv5 : allR ⟨#[]⟩ 10 = (⟨#[]⟩, 0, 4) := by decide +kernel
theorem lv6 : allR ⟨#[1, 2, 0, 253, 254, 97, 98]⟩ 10 = (⟨#[]⟩, 0, 3) := by decide +kernel
theorem lv7 : allR ⟨#[]⟩ (-1) = (⟨#[]⟩, 0, 1) := by decide +kernel
attribute [local irreducible] Ld St Nw Nn Lt LdS
section
variable {w : World} {N : Nat}
end
end Inf
end Go.Proofs.Ytjkoafjnmkchdaa

/- Inflate: a prefix is read alike, or ends too soon; plain laws. No condition. -/
namespace Go.Proofs.Ytjkoafjnmkchdaa
namespace Inf
open Sh Bit
set_option linter.unusedVariables false
set_option linter.unusedSimpArgs false
set_option maxRecDepth 4000
set_option maxHeartbeats 1000000
/-- r is a prefix of t. -/
def Pre (r t : ByteArray) : Prop := ∃ m : List UInt8, t.data.toList = r.data.toList ++ m
theorem Pre.refl (t : ByteArray) : Pre t t := ⟨[], by simp⟩
theorem Pre.size {r t : ByteArray} (h : Pre r t) : r.size ≤ t.size := by
  obtain ⟨m, h⟩ := h
  rw [size_list, size_list, h, List.length_append]
  omega
theorem byt_l (s : ByteArray) (j : Nat) : byt s j = ((s.data.toList.getD j 0).toNat : Int) := by rw [← bAt_byt, bAt_list]
theorem Pre.byt {r t : ByteArray} (h : Pre r t) {j : Nat} (hj : j < r.size) : byt r j = byt t j := by
  obtain ⟨m, h⟩ := h
  rw [size_list] at hj
  rw [byt_l, byt_l, h, List.getD_eq_getElem?_getD, List.getD_eq_getElem?_getD, List.getElem?_append_left hj]
theorem Pre.bt {r t : ByteArray} (h : Pre r t) {p : Nat} (hp : p < 8 * r.size) : bt r 1 p = bt t 1 p := by
  unfold Bit.bt
  rw [h.byt (by omega)]
theorem Pre.tk {r t : ByteArray} (h : Pre r t) (p : Nat) : ∀ n, p + n ≤ 8 * r.size → tk r 1 p n = tk t 1 p n
  | 0, _ => rfl
  | n + 1, hn => by
    have ih := h.tk p n (by omega)
    have hb := h.bt (p := p + n) (by omega)
    show (if (1 : Int) = 1 then Bit.tk r 1 p n + Bit.bt r 1 (p + n) * 2 ^ n else _) = (if (1 : Int) = 1 then Bit.tk t 1 p n + Bit.bt t 1 (p + n) * 2 ^ n else _)
    rw [if_pos rfl, if_pos rfl, ih, hb]
theorem Pre.extract {r t : ByteArray} (h : Pre r t) {a b : Nat} (hb : b ≤ r.size) : (r.extract a b).data.toList = (t.extract a b).data.toList := by
  obtain ⟨m, h⟩ := h
  rw [size_list] at hb
  rw [extract_list, extract_list, h]
  by_cases ha : a ≤ r.data.toList.length
  · rw [List.drop_append_of_le_length ha, List.take_append_of_le_length (by rw [List.length_drop]; omega)]
  · rw [show b - a = 0 by omega, List.take_zero, List.take_zero]
/-- What a prefix answers, next to the whole: B bits are there. -/
structure Rel {α : Type} (B p : Nat) (R T : Except Int (α × Nat)) : Prop where
  t : ∀ x q, T = .ok (x, q) → p ≤ q ∧ ((q ≤ B ∧ R = .ok (x, q)) ∨ (B < q ∧ R = .error 4))
  r : ∀ x q, R = .ok (x, q) → T = .ok (x, q) ∧ q ≤ B
/-- A reading that respects prefixes. -/
def Good {α : Type} (t : ByteArray) (p : Nat) (A : ByteArray → Except Int (α × Nat)) : Prop := ∀ r, Pre r t → p ≤ 8 * r.size → Rel (8 * r.size) p (A r) (A t)
def bnd {α β : Type} (a : Except Int (α × Nat)) (f : α → Nat → Except Int (β × Nat)) : Except Int (β × Nat) := match a with
  | .error e => .error e
  | .ok (x, q) => f x q
theorem Good.bnd {α β : Type} {t : ByteArray} {p : Nat} {A : ByteArray → Except Int (α × Nat)} {f : ByteArray → α → Nat → Except Int (β × Nat)} (h : Good t p A) (k : ∀ x q, (∃ r, A r = .ok (x, q)) → p ≤ q → Good t q (fun r => f r x q)) : Good t p (fun r => Inf.bnd (A r) (f r)) := by
  intro r hr hp
  show Rel (8 * r.size) p (Inf.bnd (A r) (f r)) (Inf.bnd (A t) (f t))
  have hA := h r hr hp
  have hz := hr.size
  constructor
  · intro y q' hy
    cases hT : A t with
    | error e => rw [hT] at hy; cases hy
    | ok z =>
      obtain ⟨x, q⟩ := z
      rw [hT] at hy
      have hy : f t x q = .ok (y, q') := hy
      obtain ⟨h1, h2⟩ := hA.t x q hT
      have hqt : q ≤ 8 * t.size := by
        rcases ((h t (Pre.refl t) (by omega)).t x q hT).2 with e | e
        · exact e.1
        · rw [e.2] at hT; cases hT
      have hmono := ((k x q ⟨t, hT⟩ h1) t (Pre.refl t) hqt).t y q' hy
      rcases h2 with ⟨e1, e2⟩ | ⟨e1, e2⟩
      · obtain ⟨g1, g2⟩ := ((k x q ⟨t, hT⟩ h1) r hr e1).t y q' hy
        refine ⟨by omega, ?_⟩
        show (_ ∧ Inf.bnd (A r) (f r) = _) ∨ (_ ∧ Inf.bnd (A r) (f r) = _)
        rw [e2]
        exact g2
      · refine ⟨by omega, .inr ⟨by omega, ?_⟩⟩
        show Inf.bnd (A r) (f r) = _
        rw [e2]
        rfl
  · intro y q' hy
    cases hR : A r with
    | error e => rw [hR] at hy; cases hy
    | ok z =>
      obtain ⟨x, q⟩ := z
      rw [hR] at hy
      have hy : f r x q = .ok (y, q') := hy
      obtain ⟨h1, h2⟩ := hA.r x q hR
      obtain ⟨h3, _⟩ := hA.t x q h1
      have := ((k x q ⟨r, hR⟩ h3) r hr h2).r y q' hy
      refine ⟨?_, this.2⟩
      show Inf.bnd (A t) (f t) = _
      rw [h1]
      exact this.1
theorem Good.ok {α : Type} (t : ByteArray) (p : Nat) (x : α) : Good t p (fun _ => .ok (x, p)) := fun r hr hp => ⟨fun y q h => by cases h; exact ⟨Nat.le_refl _, .inl ⟨hp, rfl⟩⟩, fun y q h => by cases h; exact ⟨rfl, hp⟩⟩
theorem Good.er {α : Type} (t : ByteArray) (p : Nat) (e : Int) : Good (α := α) t p (fun _ => .error e) := fun r hr hp => ⟨fun y q h => (by cases h), fun y q h => (by cases h)⟩
theorem Good.ite {α : Type} {t : ByteArray} {p : Nat} {c : Prop} [Decidable c] {A B : ByteArray → Except Int (α × Nat)} (h1 : c → Good t p A) (h2 : ¬ c → Good t p B) : Good t p (fun r => if c then A r else B r) := by
  by_cases h : c
  · simpa only [if_pos h] using h1 h
  · simpa only [if_neg h] using h2 h
theorem Good.eq {α : Type} {t : ByteArray} {p : Nat} {A B : ByteArray → Except Int (α × Nat)} (h : Good t p A) (e : ∀ r, p ≤ 8 * r.size → B r = A r) : Good t p B := fun r hr hp => by
  have := h r hr hp
  rw [← e r hp, ← e t (by have := hr.size; omega)] at this
  exact this
theorem g_num (t : ByteArray) (p n : Nat) : Good t p (fun r => num r p n) := fun r hr hp => by
  show Rel (8 * r.size) p (num r p n) (num t p n)
  have hz := hr.size
  constructor
  · intro v q h
    obtain ⟨rfl, rfl, h3⟩ := num_ok h
    refine ⟨by omega, ?_⟩
    unfold num
    by_cases hb : p + n ≤ 8 * r.size
    · exact .inl ⟨hb, by rw [if_pos hb, hr.tk p n hb]⟩
    · exact .inr ⟨by omega, by rw [if_neg hb]⟩
  · intro v q h
    obtain ⟨rfl, rfl, h3⟩ := num_ok h
    refine ⟨?_, h3⟩
    unfold num
    rw [if_pos (by omega), hr.tk p n h3]
theorem g_sgo (t : ByteArray) (lens : List Int) : ∀ (k n : Nat) (c f : Int) (p : Nat), Good t p (fun r => sgo lens r k n c f p)
  | 0, n, c, f, p => Good.er t p 13
  | k + 1, n, c, f, p => by
    have h : Good t p (fun r => bnd (num r p 1) fun v q => if 2 * c + v - 2 * f < (cnt lens n : Int) then .ok ((idxs lens n).getD (2 * c + v - 2 * f).toNat 0, q) else sgo lens r k (n + 1) (2 * c + v) (2 * f + (cnt lens n : Int)) q) :=
      (g_num t p 1).bnd fun v q _ _ => Good.ite (fun _ => Good.ok t q _) fun _ => g_sgo t lens k (n + 1) _ _ q
    refine h.eq fun r hp => ?_
    conv => lhs; unfold sgo
    by_cases hb : 8 * r.size ≤ p
    · rw [if_pos hb]
      have e : num r p 1 = .error 4 := by unfold num; rw [if_neg (by omega)]
      rw [e]
      rfl
    · rw [if_neg hb]
      have htk : tk r 1 p 1 = bt r 1 p := by
        show (if (1 : Int) = 1 then tk r 1 p 0 + bt r 1 (p + 0) * 2 ^ 0 else _) = _
        rw [if_pos rfl, Nat.add_zero]
        show (0 : Int) + bt r 1 p * 1 = _
        omega
      have e : num r p 1 = .ok (bt r 1 p, p + 1) := by unfold num; rw [if_pos (by omega), htk]
      rw [e]
      rfl
theorem g_sym (t : ByteArray) (lens : List Int) (p : Nat) : Good t p (fun r => sym lens r p) := g_sgo t lens _ _ _ _ p
theorem g_lens19 (t : ByteArray) : ∀ (os : List Nat) (l : List Int) (p : Nat), Good t p (fun r => lens19 r os l p)
  | [], l, p => Good.ok t p l
  | o :: os, l, p => by
    have h : Good t p (fun r => bnd (num r p 3) fun v q => lens19 r os (l.set o v) q) := (g_num t p 3).bnd fun v q _ _ => g_lens19 t os _ q
    refine h.eq fun r _ => ?_
    conv => lhs; unfold lens19
    cases num r p 3 <;> rfl
theorem g_lensF (t : ByteArray) (lens : List Int) (many : Nat) : ∀ (k : Nat) (l : List Int) (p : Nat), Good t p (fun r => lensF lens r many k l p)
  | 0, l, p => Good.er t p 0
  | k + 1, l, p => by
    have h : Good t p (fun r => if many ≤ l.length then .ok (l, p) else bnd (sym lens r p) fun sg p1 => if sg < 16 then lensF lens r many k (l ++ [(sg : Int)]) p1 else if sg = 16 ∧ l.length = 0 then .error 3 else
        bnd (num r p1 (repB sg)) fun v p2 => if many < l.length + (repL sg + v.toNat) then .error 3 else lensF lens r many k (l ++ List.replicate (repL sg + v.toNat) (if sg = 16 then l.getD (l.length - 1) 0 else 0)) p2) :=
      Good.ite (fun _ => Good.ok t p _) fun _ => (g_sym t lens p).bnd fun sg p1 _ _ => Good.ite (fun _ => g_lensF t lens many k _ _) fun _ => Good.ite (fun _ => Good.er t _ _) fun _ =>
        (g_num t p1 _).bnd fun v p2 _ _ => Good.ite (fun _ => Good.er t _ _) fun _ => g_lensF t lens many k _ _
    refine h.eq fun r _ => ?_
    conv => lhs; unfold lensF
    split
    · rfl
    · cases sym lens r p with
      | error e => rfl
      | ok z =>
        obtain ⟨sg, p1⟩ := z
        dsimp only [bnd]
        split
        · rfl
        · split
          · rfl
          · cases num r p1 (repB sg) <;> rfl
theorem g_stored (t : ByteArray) (p : Nat) (out : List UInt8) (most : Nat) : Good t p (fun r => stored r p out most) := by
  have h : Good t ((p + 7) / 8 * 8) (fun r => bnd (num r ((p + 7) / 8 * 8) 16) fun n p1 => bnd (num r p1 16) fun m p2 => if m ≠ 65535 - n then .error 3 else if ¬ out.length + n.toNat ≤ most then .error 5 else if ¬ p2 / 8 + n.toNat ≤ r.size then .error 4 else .ok (out ++ (r.extract (p2 / 8) (p2 / 8 + n.toNat)).data.toList, p2 + 8 * n.toNat)) := by
    refine (g_num t _ 16).bnd fun n p1 h1 _ => (g_num t p1 16).bnd fun m p2 h2 _ => Good.ite (fun _ => Good.er t _ _) fun _ => Good.ite (fun _ => Good.er t _ _) fun _ => ?_
    obtain ⟨r1, h1⟩ := h1
    obtain ⟨r2, h2⟩ := h2
    obtain ⟨_, rfl, _⟩ := num_ok h1
    obtain ⟨_, rfl, _⟩ := num_ok h2
    intro r hr hp
    have hz := hr.size
    constructor
    · intro x q hx
      dsimp only at hx ⊢
      split at hx
      · cases hx
      · rename_i hsz
        cases hx
        refine ⟨by omega, ?_⟩
        by_cases hb : ((p + 7) / 8 * 8 + 16 + 16) / 8 + n.toNat ≤ r.size
        · exact .inl ⟨by omega, by rw [if_neg (fun hh => hh hb), hr.extract hb]⟩
        · exact .inr ⟨by omega, by rw [if_pos hb]⟩
    · intro x q hx
      dsimp only at hx ⊢
      split at hx
      · cases hx
      · rename_i hsz
        cases hx
        have hb : ((p + 7) / 8 * 8 + 16 + 16) / 8 + n.toNat ≤ r.size := Classical.not_not.1 hsz
        exact ⟨by rw [if_neg (by omega), hr.extract hb], by omega⟩
  have h' : Good t ((p + 7) / 8 * 8) (fun r => stored r p out most) := h.eq fun r _ => by
    conv => lhs; unfold stored
    cases num r ((p + 7) / 8 * 8) 16 with
    | error e => rfl
    | ok z =>
      obtain ⟨n, p1⟩ := z
      dsimp only [bnd]
      cases num r p1 16 <;> rfl
  intro r hr hp
  have := h' r hr (by omega)
  exact ⟨fun x q hx => ⟨by have := (this.t x q hx).1; omega, (this.t x q hx).2⟩, this.r⟩
/-- A triple, as a pair with a position. -/
def dynP (s : ByteArray) (p : Nat) : Except Int ((List Int × List Int) × Nat) := match dyn s p with
  | .error e => .error e
  | .ok (a, b, q) => .ok ((a, b), q)
theorem g_dyn (t : ByteArray) (p : Nat) : Good t p (fun r => dynP r p) := by
  have h : Good t p (fun r => bnd (num r p 5) fun hl p1 => if 29 < hl then .error 3 else bnd (num r p1 5) fun hd p2 => if 29 < hd then .error 3 else bnd (num r p2 4) fun hc p3 => bnd (lens19 r (order.take (hc.toNat + 4)) (List.replicate 19 0) p3) fun l19 p4 =>
      if chk l19 ≠ 0 then .error (chk l19) else bnd (lensF l19 r (hl.toNat + 257 + (hd.toNat + 1)) (hl.toNat + 257 + (hd.toNat + 1) + 1) [] p4) fun l p5 => if l.getD 256 0 = 0 then .error 13 else if chk (l.take (hl.toNat + 257)) ≠ 0 then .error (chk (l.take (hl.toNat + 257)))
        else if chk (l.drop (hl.toNat + 257)) ≠ 0 then .error (chk (l.drop (hl.toNat + 257))) else .ok ((l.take (hl.toNat + 257), l.drop (hl.toNat + 257)), p5)) :=
    (g_num t p 5).bnd fun hl p1 _ _ => Good.ite (fun _ => Good.er t _ _) fun _ => (g_num t p1 5).bnd fun hd p2 _ _ => Good.ite (fun _ => Good.er t _ _) fun _ => (g_num t p2 4).bnd fun hc p3 _ _ => (g_lens19 t _ _ p3).bnd fun l19 p4 _ _ =>
      Good.ite (fun _ => Good.er t _ _) fun _ => (g_lensF t _ _ _ _ p4).bnd fun l p5 _ _ => Good.ite (fun _ => Good.er t _ _) fun _ => Good.ite (fun _ => Good.er t _ _) fun _ => Good.ite (fun _ => Good.er t _ _) fun _ => Good.ok t _ _
  refine h.eq fun r _ => ?_
  unfold dynP dyn
  cases num r p 5 with
  | error e => rfl
  | ok z =>
    obtain ⟨hl, p1⟩ := z
    dsimp only [bnd]
    by_cases c1 : 29 < hl
    · rw [if_pos c1, if_pos c1]
    · rw [if_neg c1, if_neg c1]
      cases num r p1 5 with
      | error e => rfl
      | ok z =>
        obtain ⟨hd, p2⟩ := z
        dsimp only
        by_cases c2 : 29 < hd
        · rw [if_pos c2, if_pos c2]
        · rw [if_neg c2, if_neg c2]
          cases num r p2 4 with
          | error e => rfl
          | ok z =>
            obtain ⟨hc, p3⟩ := z
            dsimp only
            cases lens19 r (order.take (hc.toNat + 4)) (List.replicate 19 0) p3 with
            | error e => rfl
            | ok z =>
              obtain ⟨l19, p4⟩ := z
              dsimp only
              by_cases c3 : chk l19 ≠ 0
              · rw [if_pos c3, if_pos c3]
              · rw [if_neg c3, if_neg c3]
                cases lensF l19 r (hl.toNat + 257 + (hd.toNat + 1)) (hl.toNat + 257 + (hd.toNat + 1) + 1) [] p4 with
                | error e => rfl
                | ok z =>
                  obtain ⟨l, p5⟩ := z
                  dsimp only
                  by_cases c4 : l.getD 256 0 = 0
                  · rw [if_pos c4, if_pos c4]
                  · rw [if_neg c4, if_neg c4]
                    by_cases c5 : chk (l.take (hl.toNat + 257)) ≠ 0
                    · rw [if_pos c5, if_pos c5]
                    · rw [if_neg c5, if_neg c5]
                      by_cases c6 : chk (l.drop (hl.toNat + 257)) ≠ 0
                      · rw [if_pos c6, if_pos c6]
                      · rw [if_neg c6, if_neg c6]
theorem g_copied (t : ByteArray) (far : List Int) (most sg : Nat) (out : List UInt8) (p : Nat) : Good t p (fun r => copied r far most sg out p) := by
  have h : Good t p (fun r => if 285 < sg then .error 13 else bnd (num r p (moreL (sg - 257))) fun v p1 => bnd (sym far r p1) fun d p2 => if 29 < d then .error 13 else bnd (num r p2 (moreD d)) fun x p3 => if out.length < baseD d + x.toNat then .error 14 else if most < out.length + (firstL (sg - 257) + v.toNat) then .error 5
      else .ok (copy out (baseD d + x.toNat) (firstL (sg - 257) + v.toNat), p3)) :=
    Good.ite (fun _ => Good.er t _ _) fun _ => (g_num t p _).bnd fun v p1 _ _ => (g_sym t far p1).bnd fun d p2 _ _ => Good.ite (fun _ => Good.er t _ _) fun _ => (g_num t p2 _).bnd fun x p3 _ _ => Good.ite (fun _ => Good.er t _ _) fun _ => Good.ite (fun _ => Good.er t _ _) fun _ => Good.ok t _ _
  refine h.eq fun r _ => ?_
  unfold copied
  by_cases c1 : 285 < sg
  · rw [if_pos c1, if_pos c1]
  · rw [if_neg c1, if_neg c1]
    cases num r p (moreL (sg - 257)) with
    | error e => rfl
    | ok z =>
      obtain ⟨v, p1⟩ := z
      dsimp only [bnd]
      cases sym far r p1 with
      | error e => rfl
      | ok z =>
        obtain ⟨d, p2⟩ := z
        dsimp only
        by_cases c2 : 29 < d
        · rw [if_pos c2, if_pos c2]
        · rw [if_neg c2, if_neg c2]
          cases num r p2 (moreD d) <;> rfl
theorem g_signs (t : ByteArray) (near far : List Int) (most : Nat) : ∀ (n : Nat) (K : ByteArray → Nat) (out : List UInt8) (p : Nat), 8 * t.size < p + n → (∀ r, 8 * r.size < p + K r) → Good t p (fun r => signsF r near far most (K r) out p)
  | 0, K, out, p, h, _ => fun r hr hp => by have := hr.size; omega
  | n + 1, K, out, p, h, hK => by
    have g : Good t p (fun r => bnd (sym near r p) fun sg p1 => if sg = 256 then .ok (out, p1) else if 256 < sg then bnd (copied r far most sg out p1) fun o q => signsF r near far most (K r - 1) o q else if most ≤ out.length then .error 5 else signsF r near far most (K r - 1) (out ++ [UInt8.ofNat sg]) p1) := by
      refine (g_sym t near p).bnd fun sg p1 hx _ => Good.ite (fun _ => Good.ok t _ _) fun _ => Good.ite (fun _ => ?_) fun _ => Good.ite (fun _ => Good.er t _ _) fun _ => ?_
      · obtain ⟨r0, hx⟩ := hx
        have h1 := (sym_ok hx).1
        refine (g_copied t far most sg out p1).bnd fun o q hq _ => ?_
        obtain ⟨r1, hq⟩ := hq
        have h2 := (copied_ok hq).1
        exact g_signs t near far most n (fun r => K r - 1) o q (by omega) fun r => by have := hK r; omega
      · obtain ⟨r0, hx⟩ := hx
        have h1 := (sym_ok hx).1
        exact g_signs t near far most n (fun r => K r - 1) _ p1 (by omega) fun r => by have := hK r; omega
    refine g.eq fun r hp => ?_
    obtain ⟨m, hm⟩ : ∃ m, K r = m + 1 := ⟨K r - 1, by have := hK r; omega⟩
    rw [hm, Nat.add_sub_cancel]
    conv => lhs; unfold signsF
    cases sym near r p with
    | error e => rfl
    | ok z =>
      obtain ⟨sg, p1⟩ := z
      dsimp only [bnd]
      by_cases c1 : sg = 256
      · rw [if_pos c1, if_pos c1]
      · rw [if_neg c1, if_neg c1]
        by_cases c2 : 256 < sg
        · rw [if_pos c2, if_pos c2]
          cases copied r far most sg out p1 <;> rfl
        · rw [if_neg c2, if_neg c2]
theorem g_block (t : ByteArray) (most : Nat) (kind : Int) (out : List UInt8) (p : Nat) : Good t p (fun r => block r most kind out p) := by
  have g : Good t p (fun r => if kind = 3 then .error 3 else if kind = 0 then stored r p out most else if kind = 2 then bnd (dynP r p) fun ab q => signsF r ab.1 ab.2 most (8 * r.size + 1) out q else signsF r fixL fixD most (8 * r.size + 1) out p) :=
    Good.ite (fun _ => Good.er t _ _) fun _ => Good.ite (fun _ => g_stored t p out most) fun _ => Good.ite (fun _ => (g_dyn t p).bnd fun ab q _ _ => g_signs t _ _ most (8 * t.size + 1) (fun r => 8 * r.size + 1) out q (by omega) fun r => by omega) fun _ => g_signs t _ _ most (8 * t.size + 1) (fun r => 8 * r.size + 1) out p (by omega) fun r => by omega
  refine g.eq fun r _ => ?_
  unfold block dynP
  by_cases c1 : kind = 3
  · rw [if_pos c1, if_pos c1]
  · rw [if_neg c1, if_neg c1]
    by_cases c2 : kind = 0
    · rw [if_pos c2, if_pos c2]
    · rw [if_neg c2, if_neg c2]
      by_cases c3 : kind = 2
      · rw [if_pos c3, if_pos c3]
        cases dyn r p <;> rfl
      · rw [if_neg c3, if_neg c3]
/-- Block after block: the position in bits. -/
def allQ (s : ByteArray) (most : Nat) : Nat → List UInt8 → Nat → Except Int (List UInt8 × Nat)
  | 0, _, _ => .error 0
  | k + 1, out, p => bnd (num s p 1) fun last p1 => bnd (num s p1 2) fun kind p2 => bnd (block s most kind out p2) fun o q => if last = 1 then .ok (o, q) else allQ s most k o q
theorem allF_Q (s : ByteArray) (most : Nat) : ∀ (k : Nat) (out : List UInt8) (p : Nat), allF s most k out p = match allQ s most k out p with
    | .error e => .error e
    | .ok (o, q) => .ok (o, (q + 7) / 8)
  | 0, _, _ => rfl
  | k + 1, out, p => by
    conv => lhs; unfold allF
    conv => rhs; unfold allQ
    cases num s p 1 with
    | error e => rfl
    | ok z =>
      obtain ⟨last, p1⟩ := z
      dsimp only [bnd]
      cases num s p1 2 with
      | error e => rfl
      | ok z =>
        obtain ⟨kind, p2⟩ := z
        dsimp only
        cases block s most kind out p2 with
        | error e => rfl
        | ok z =>
          obtain ⟨o, q⟩ := z
          dsimp only
          by_cases c : last = 1
          · rw [if_pos c, if_pos c]
          · rw [if_neg c, if_neg c]
            exact allF_Q s most k o q
theorem g_all (t : ByteArray) (most : Nat) : ∀ (n : Nat) (K : ByteArray → Nat) (out : List UInt8) (p : Nat), 8 * t.size < p + n → (∀ r, 8 * r.size < p + K r) → Good t p (fun r => allQ r most (K r) out p)
  | 0, K, out, p, h, _ => fun r hr hp => by have := hr.size; omega
  | n + 1, K, out, p, h, hK => by
    have g : Good t p (fun r => bnd (num r p 1) fun last p1 => bnd (num r p1 2) fun kind p2 => bnd (block r most kind out p2) fun o q => if last = 1 then .ok (o, q) else allQ r most (K r - 1) o q) := by
      refine (g_num t p 1).bnd fun last p1 h1 _ => (g_num t p1 2).bnd fun kind p2 h2 _ => (g_block t most kind out p2).bnd fun o q _ hq => Good.ite (fun _ => Good.ok t _ _) fun _ => ?_
      obtain ⟨r1, h1⟩ := h1
      obtain ⟨r2, h2⟩ := h2
      obtain ⟨_, rfl, _⟩ := num_ok h1
      obtain ⟨_, rfl, _⟩ := num_ok h2
      exact g_all t most n (fun r => K r - 1) o q (by omega) fun r => by have := hK r; omega
    refine g.eq fun r hp => ?_
    obtain ⟨m, hm⟩ : ∃ m, K r = m + 1 := ⟨K r - 1, by have := hK r; omega⟩
    rw [hm, Nat.add_sub_cancel]
    rfl
end Inf
end Go.Proofs.Ytjkoafjnmkchdaa
