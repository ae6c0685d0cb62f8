/- Package-merge as the program does it: Lengths. Conditions: sizes. -/
import Derived.Test.YtapgacggllbhiaaPmC
import Derived.Test.YtapgacggllbhiaaInD
namespace Go.Proofs.Ytapgacggllbhiaa
namespace Srt
open Sh Pm Inf
set_option linter.unusedVariables false
set_option linter.unusedSimpArgs false
set_option maxRecDepth 4000
set_option maxHeartbeats 4000000
attribute [local irreducible] Ld St Nw Nn Lt LdS
theorem Ext.new {F : Nat → Prop} {a b c : World} (h : Ext (fun _ => False) a b) (k : Ext F b c) (hF : ∀ j, F j → a.heap.size ≤ j) : Ext (fun _ => False) a c :=
  h.trans k (fun _ h => h) fun i hi hh => absurd hi (by have := hF i hh; omega)
section
variable {w w1 : World} {s : Slc} {c : List Int} {most : Int}
theorem why_arg (h : c.length ≤ 288) (hm : 1 ≤ most ∧ most ≤ 15) {i : Nat} (hi : i < c.length) (hc : c.getD i 0 < 0 ∨ 2147483647 < c.getD i 0) : why c most = 1 := by
  unfold why
  rw [if_neg (by omega), if_neg (by omega), if_pos]
  refine List.any_eq_true.2 ⟨c.getD i 0, ?_, by simpa using hc⟩
  rw [List.getD_eq_getElem?_getD, List.getElem?_eq_getElem hi]
  exact List.getElem_mem hi
theorem why_rest (h : c.length ≤ 288) (hm : 1 ≤ most ∧ most ≤ 15) (hc : ∀ i, i < c.length → 0 ≤ c.getD i 0 ∧ c.getD i 0 ≤ 2147483647) : why c most = if 2 ^ most.toNat < (srt c).length then 13 else 0 := by
  unfold why
  rw [if_neg (by omega), if_neg (by omega), if_neg]
  intro ha
  obtain ⟨x, hx, hh⟩ := List.any_eq_true.1 ha
  obtain ⟨i, hi, rfl⟩ := List.mem_iff_getElem.1 hx
  have := hc i hi
  rw [List.getD_eq_getElem?_getD, List.getElem?_eq_getElem hi, Option.getD_some] at this
  simp only [Bool.or_eq_true, decide_eq_true_eq] at hh
  omega
theorem lst_lens (T : List Tr) (n : Nat) : lst (fun i => cs i T) n = lensOf T n := rfl
theorem lst_zero (n : Nat) : lst (fun _ => 0) n = List.replicate n 0 := by
  unfold lst
  rw [List.map_const', List.length_range]
  rfl
theorem OB.still {g cO n : Nat} {f : Nat → Nat} (h : OB w g cO n f) (he : Ext (fun _ => False) w w1) : OB w1 g cO n f := ⟨he.blk h.row id, he.cell_same h.var, h.ne⟩
theorem OB.iv {g cO n : Nat} {f : Nat → Nat} (h : OB w g cO n f) : IV w ⟨some ⟨g, 0, none⟩, n, n⟩ (lst f n) := IV.blk h.row (lst_len f n).symm
theorem c_lengths (h : IV w s c) : C17 s most w (fun r e w1 => e = why c most ∧ Ext (fun _ => False) w w1 ∧ (why c most ≠ 0 → r.len = 0) ∧ (why c most = 0 → ∃ l, IV w1 r l ∧ LR c most.toNat l)) fun _ _ => False := by
  refine T17 _ _ _ _ _ ?_
  unfold S17
  have h1 := h.1
  refine Br.dec (fun q => ?_) fun q => Br.dec (fun q2 => ?_) fun q2 => Br.dec (fun q3 => ?_) fun q3 => ?_
  · have e : why c most = 6 := by unfold why; rw [if_pos (by omega)]
    exact ⟨e.symm, Ext.refl _ _, fun _ => rfl, fun hh => by rw [e] at hh; cases hh⟩
  · have e : why c most = 1 := by unfold why; rw [if_neg (by omega), if_pos (.inl q2)]
    exact ⟨e.symm, Ext.refl _ _, fun _ => rfl, fun hh => by rw [e] at hh; cases hh⟩
  · have e : why c most = 1 := by unfold why; rw [if_neg (by omega), if_pos (.inr q3)]
    exact ⟨e.symm, Ext.refl _ _, fun _ => rfl, fun hh => by rw [e] at hh; cases hh⟩
  have hm : 1 ≤ most ∧ most ≤ 15 := by omega
  have hlen : c.length ≤ 288 := by omega
  refine ⟨fun n st w1 => ∃ (i : Nat) (L : List (Nat × Tr)), st.2 = (i : Int) ∧ i ≤ c.length ∧ n = c.length - i ∧ (∀ j, j < i → 0 ≤ c.getD j 0 ∧ c.getD j 0 ≤ 2147483647) ∧ RT w1 st.1 L ∧ trs L = lv c i ∧ Ext (fun _ => False) w w1 ∧ ∀ j, st.1.own j → w.heap.size ≤ j, c.length, ⟨0, [], rfl, by omega, rfl, fun j hj => by omega, RT.nil _, rfl, Ext.refl _ _, fun j hj => by obtain ⟨a, ha, _⟩ := hj; cases ha⟩, ?_⟩
  rintro n ⟨r, i⟩ w1 ⟨i, L, rfl, hi, rfl, hc, hr, hL, e1, o1⟩
  unfold S17L3
  dsimp only at *
  rw [h1]
  have hLl : L.length = (lv c i).length := by rw [← hL, trs_len]
  have hLi := lv_len c i
  refine Br.dec (fun q => ⟨by omega, by omega, ?_⟩) fun q => ?_
  · have hlt : i < c.length := by omega
    obtain ⟨a, ha, hcell⟩ := (h.keep e1).get hlt
    rw [ha, Int.toNat_natCast]
    have lvs : lv c (i + 1) = if 0 < c.getD i 0 then lv c i ++ [.leaf i (c.getD i 0)] else lv c i := rfl
    refine Nn.of (Ld.mk hcell (Br.dec (fun q4 => ?_) fun q4 => Br.dec (fun q5 => ?_) fun q5 => ?_))
    · have e := why_arg hlen hm hlt (.inl q4)
      exact ⟨e.symm, e1, fun _ => rfl, fun hh => by rw [e] at hh; cases hh⟩
    · have e := why_arg hlen hm hlt (.inr q5)
      exact ⟨e.symm, e1, fun _ => rfl, fun hh => by rw [e] at hh; cases hh⟩
    have hc' : ∀ j, j < i + 1 → 0 ≤ c.getD j 0 ∧ c.getD j 0 ≤ 2147483647 := fun j hj => by
      by_cases e : j = i
      · subst e; omega
      · exact hc j (by omega)
    refine Br.dec (fun q6 => ?_) fun q6 => ?_
    · rw [if_pos q6] at lvs
      refine (Hn.start w1).nw fun w2 H => ?_
      refine H.nw fun w3 H => ?_
      have hb := H.get 0 rfl
      have hp := H.get 1 rfl
      have e3 := H.ext
      have hleaf : CT w3 w1.heap.size (.leaf i (c.getD i 0)) := hb
      obtain ⟨s', w4, r1, r2, r3, r4⟩ := (hr.keep e3).snoc (ty := 59) hp hleaf (by omega)
      have E3 := e1.tr e3
      refine ⟨s', w4, r1, c.length - (i + 1), by omega, i + 1, _, by rw [i64_id (by omega)]; rfl, by omega, rfl, hc', r2, by rw [trs_app, hL, lvs]; rfl, Ext.new E3 r3 o1, fun j hj => ?_⟩
      have := E3.size
      rcases r4 j hj with hh | hh
      · exact o1 j hh
      · omega
    · rw [if_neg q6] at lvs
      exact ⟨c.length - (i + 1), by omega, i + 1, L, by rw [i64_id (by omega)]; rfl, by omega, rfl, hc', hr, by rw [hL, lvs], e1, o1⟩
  have : i = c.length := by omega
  subst this
  obtain ⟨mo, hmo⟩ : ∃ mo : Nat, most = (mo : Int) := ⟨most.toNat, by omega⟩
  subst hmo
  have hw := why_rest hlen hm hc
  rw [Int.toNat_natCast] at hw
  have hrl := hr.len
  have hS : L.length = (srt c).length := by rw [hLl, lv_srt]
  have h15 : 2 ^ mo ≤ 2 ^ 15 := Nat.pow_le_pow_right (by decide) (by omega)
  rw [sh1 rfl (by omega)]
  refine ⟨by omega, Br.dec (fun q4 => ?_) fun q4 => ?_⟩
  · rw [if_pos (by omega)] at hw
    exact ⟨hw.symm, e1, fun _ => rfl, fun hh => by rw [hw] at hh; cases hh⟩
  rw [if_neg (by omega)] at hw
  obtain ⟨w2, hrun, hw2⟩ := elI.make (zs := [.int .i64 0]) rfl w1 c.length (by omega) (by omega)
  refine ⟨_, w2, hrun, ?_⟩
  have H : Hn w1 w2 [(w1.heap.size, ints (lst (fun _ => 0) c.length), 3)] := by
    rw [lst_zero, ← flat_zero, hw2]
    exact ((Hn.start w1).keep ((Ext.refl _ _).alloc _)).push (Blk.new _ _ _) (Nat.le_refl _) (by simp)
  refine H.nw fun w3 H => ?_
  simp only [List.cons_append, List.nil_append] at H
  refine H.st 1 rfl (by simp) fun w4 H => ?_
  simp only [List.set_cons_zero, List.set_cons_succ] at H
  have e4 := e1.tr H.ext
  have hOB : OB w4 w1.heap.size w2.heap.size c.length fun _ => 0 := ⟨H.get 0 rfl, by rw [(H.get 1 rfl).cell]; rfl, by have := H.h.nodup; have h3 := H.lt 0 rfl; intro e; rw [e] at this; simp [arr] at this⟩
  have hr4 := hr.keep H.ext
  have hg : w.heap.size ≤ w1.heap.size := e1.size
  clear H hrun hw2
  generalize hgg : w1.heap.size = g at *
  refine ⟨fun (_ : Unit) w5 => Ext (fun _ => False) w w5 ∧ RT w5 r L ∧ OB w5 g w2.heap.size c.length fun i => if L.length = 1 then cs i (trs L) else 0, ?_, ?_⟩
  rotate_left
  · refine Br.eq (fun q5 => ?_) fun q5 => ⟨e4, hr4, by rw [show (fun i => if L.length = 1 then cs i (trs L) else 0) = fun _ => 0 from funext fun i => if_neg (by omega)]; exact hOB⟩
    have hd := hr4.keep (Ext.refl _ w4).drew
    obtain ⟨p, hp⟩ : ∃ p, L = [p] := by
      match L, (show L.length = 1 by omega) with
      | [p], _ => exact ⟨p, rfl⟩
    subst hp
    obtain ⟨g0, hg0, hc0, hct⟩ := hd.get (i := 0) rfl
    obtain ⟨sn, hsn, hpe, hpos⟩ := lv_mem.1 (show p.2 ∈ lv c c.length by rw [← hL]; simp [trs])
    have hOBd := hOB.still (Ext.refl _ w4).drew
    rw [hpe] at hct
    have hct : Blk w4.drew p.1 #[.int .i64 (c.getD sn 0), .int .i64 (sn : Int), .pointer none, .pointer none] 62 := hct
    rw [hg0]
    refine Ld.mk hOBd.var ⟨by omega, by omega, Nn.of ?_⟩
    simp only [add_lit, Int.toNat_zero, Nat.zero_mul, Nat.add_zero]
    refine Ld.mk (x := some (⟨p.1, 0, none⟩ : Addr)) hc0 (Nn.of ?_)
    simp only [add_lit, Nat.zero_add]
    refine Ld.mk (x := (sn : Int)) (by rw [hct.cell]; rfl) ⟨by omega, by show (sn : Int) < ((c.length : Nat) : Int); omega, Nn.of ?_⟩
    simp only [add_lit, Int.toNat_natCast, Nat.mul_one, Nat.zero_add]
    have e5 : Ext (· = g) w4.drew (w4.drew.setCell ⟨g, sn, none⟩ (.int .i64 1)) := (Ext.refl (· = g) w4.drew).set (.inl rfl) _
    unfold St
    refine ⟨hOBd.row.can (by rw [List.size_toArray, ints_len, lst_len]; exact hsn), Ext.new (e4.drew) e5 (fun j hj => by subst hj; exact hg), ⟨hd.1.keep e5 fun j hj hh => ?_, fun q hq => (hd.2 q hq).keep e5 hOBd.coin⟩, ?_, ?_, hOB.ne⟩
    · subst hh
      obtain ⟨cs', hb'⟩ := hd.own_ty hj
      have := Blk.ty hb' hOBd.row
      revert this
      decide
    · have := hOBd.row.set sn (.int .i64 ((1 : Nat) : Int))
      rw [List.setIfInBounds_toArray, lst_set hsn] at this
      have e : (fun j => if sn = j then 1 else 0) = fun i => if [p].length = 1 then cs i (trs [p]) else 0 := by
        funext j
        simp [trs, cs, hpe, Tr.cnt]
      rw [e] at this
      exact this
    · rw [e5.cell (cell_lt' hOBd.var) hOB.ne]
      exact hOBd.var
  clear hOB hr4 e4
  rintro _ w5 ⟨e5, hr5, hO5⟩
  unfold S17J1
  dsimp only
  refine Br.dec (fun q5 => Ld.mk hO5.var ⟨hw.symm, e5, fun hh => absurd hw hh, fun _ => ⟨_, hO5.iv, ?_⟩⟩) fun q5 => ?_
  · have hsd : Sd c (trs L) := ⟨by rw [hL], by
      match L, (show L.length < 2 by omega) with
      | [], _ => exact List.Pairwise.nil
      | [p], _ => exact List.pairwise_singleton _ _⟩
    have := LR.none (most := mo) hsd hlen hc (by omega) (by rw [trs_len]; omega)
    rw [← lst_lens] at this
    have e : (fun i => if L.length = 1 then cs i (trs L) else 0) = fun i => cs i (trs L) := by
      funext i
      split
      · rfl
      · have : L = [] := List.eq_nil_of_length_eq_zero (by omega)
        rw [this]
        rfl
    rw [e, Int.toNat_natCast]
    exact this
  have eO : (fun i => if L.length = 1 then cs i (trs L) else 0) = fun _ => 0 := by
    funext i
    rw [if_neg (by omega)]
  rw [eO] at hO5
  refine (c_merged hr5 (RT.nil w5) (by simp; omega)).mono ?_ (fun _ _ h => h)
  rintro r6 w6 ⟨e6, o6, R, hr6, hmg⟩
  have hsd : Sd c (trs R) := ⟨by
    have := hmg.1.map (·.2)
    rw [List.append_nil] at this
    rw [← hL]
    exact this, hmg.2.1⟩
  have hRl : R.length = L.length := by
    have := hmg.1.length_eq
    rw [List.append_nil] at this
    exact this
  have hr6l := hr6.len
  have E6 := e5.tr e6
  have O6 := hO5.still e6
  generalize hSS : trs R = S at hsd
  have hSl : S.length = L.length := by rw [← hSS, trs_len, hRl]
  have hupS : Up S := hsd.up
  refine ⟨fun n st w7 => ∃ (k : Nat) (K : List (Nat × Tr)), st.2 = (k : Int) ∧ k + 1 ≤ mo ∧ n = mo - 1 - k ∧ RT w7 st.1 K ∧ trs K = rows S k ∧ RT w7 r6 R ∧ OB w7 g w2.heap.size c.length (fun _ => 0) ∧ Ext (fun _ => False) w w7, mo - 1, ⟨0, R, rfl, by omega, rfl, hr6, hSS, hr6, O6, E6⟩, ?_⟩
  rintro n ⟨r7, k⟩ w7 ⟨k, K, rfl, hk, rfl, hr7, hK, hR7, O7, e7⟩
  unfold S17L2
  dsimp only at *
  rw [i64_id (n := (mo : Int) - 1) (by omega)]
  have hKl : K.length = (rows S k).length := by rw [← hK, trs_len]
  have hKs := rows_short S k
  refine Br.dec (fun q6 => ?_) fun q6 => ?_
  · refine (c_pairs hr7 (by omega) fun p hp => rows_w hsd hlen hc (k := k) (by omega) p.2 (by rw [← hK]; exact List.mem_map_of_mem hp)).mono ?_
    rintro r8 w8 ⟨e8, o8, P, hr8, hP⟩
    have hPl : P.length = (rows S k).length / 2 := by rw [← trs_len, hP, hK, prs_len]
    refine (c_merged (hR7.keep e8) hr8 (by omega)).mono ?_ (fun _ _ h => h)
    rintro r9 w9 ⟨e9, o9, K', hr9, hmg9⟩
    refine ⟨mo - 1 - (k + 1), by omega, k + 1, K', by rw [i64_id (by omega)]; rfl, by omega, rfl, hr9, ?_, (hR7.keep e8).keep e9, (O7.still e8).still e9, e7.tr (e8.tr e9)⟩
    have := hmg9.2.2 (by rw [hSS]; exact hupS) (by rw [hP, hK]; exact prs_up _ (rows_up hupS k))
    rw [this, hSS, hP, hK]
    rfl
  · have hk1 : k = mo - 1 := by omega
    obtain ⟨hlong, hLR⟩ := LR.many (most := mo) hsd hlen hc (by omega) (by omega) (by omega) (by omega)
    rw [← hk1] at hlong hLR
    have hr7l := hr7.len
    have hcap := row_cap hr7.1
    have em : IntKind.i64.wrap (IntKind.i64.wrap (2 * ((r6.len : Nat) : Int)) - 2) = ((2 * S.length - 2 : Nat) : Int) := by
      rw [i64_id (n := 2 * ((r6.len : Nat) : Int)) (by omega), i64_id (by omega)]
      omega
    rw [em, Int.toNat_natCast]
    refine ⟨by omega, by omega, Lt.of ?_⟩
    have hcl : (r7.cut 1 0 (2 * S.length - 2) r7.cap).len = 2 * S.length - 2 := rfl
    rw [hcl]
    generalize hM : 2 * S.length - 2 = M at *
    refine ⟨fun n st w8 => ∃ i : Nat, st = (i : Int) ∧ i ≤ M ∧ n = M - i ∧ RT w8 r7 K ∧ OB w8 g w2.heap.size c.length (fun j => cs j ((rows S k).take i)) ∧ Ext (fun _ => False) w w8, M, ⟨0, rfl, by omega, rfl, hr7, by simpa [cs] using O7, e7⟩, ?_⟩
    rintro n st w8 ⟨i, rfl, hiM, rfl, hr8, O8, e8⟩
    unfold S17L1
    dsimp only
    rw [em, Int.toNat_natCast, hcl]
    refine Br.dec (fun q7 => ⟨by omega, by omega, ?_⟩) fun q7 => ?_
    · obtain ⟨p, hp⟩ : ∃ p, K[i]? = some p := ⟨_, List.getElem?_eq_getElem (by omega)⟩
      obtain ⟨g0, hg0, hc0, hct⟩ := hr8.get hp
      have hpp : (r7.cut 1 0 M r7.cap).p = some ⟨g0, 0, none⟩ := by
        show (if r7.cap = 0 then r7.p else r7.p.map (·.add (0 * 1))) = _
        rw [if_neg (by omega), hg0]
        simp
      rw [hpp]
      refine Nn.of ?_
      simp only [add_lit, Int.toNat_natCast, Nat.mul_one, Nat.zero_add]
      refine Ld.mk (x := some (⟨p.1, 0, none⟩ : Addr)) hc0 ?_
      have hrow : (rows S k)[i]? = some p.2 := by rw [← hK]; exact trs_get hp
      have htk : (rows S k).take (i + 1) = (rows S k).take i ++ [p.2] := by rw [List.take_add_one, hrow]; rfl
      have hsum : ∀ j, cs j ((rows S k).take (i + 1)) = cs j ((rows S k).take i) + p.2.cnt j := fun j => by
        rw [htk, cs_app]
        simp [cs]
      refine (c_each p.2 hct O8 (rows_ok hsd k p.2 (List.mem_of_getElem? hrow)) rfl fun j => ?_).mono ?_
      · have := cs_le hsd.lv (k := k) (m := i + 1) (by omega) (by omega) j
        rw [hsum] at this
        omega
      · rintro w9 ⟨e9, O9⟩
        refine ⟨M - (i + 1), by omega, i + 1, by rw [i64_id (by omega)]; rfl, by omega, rfl, ⟨hr8.1.keep e9 fun j hj hh => ?_, fun q hq => (hr8.2 q hq).keep e9 O8.coin⟩, ?_, Ext.new e8 e9 fun j hj => by subst hj; exact hg⟩
        · subst hh
          obtain ⟨cs', hb'⟩ := hr8.own_ty hj
          have := Blk.ty hb' O8.row
          revert this
          decide
        · have e : (fun j => cs j ((rows S k).take i) + p.2.cnt j) = fun j => cs j ((rows S k).take (i + 1)) := by
            funext j
            rw [hsum]
          rw [e] at O9
          exact O9
    · have : i = M := by omega
      subst this
      refine Ld.mk O8.var ⟨hw.symm, e8, fun hh => absurd hw hh, fun _ => ⟨_, O8.iv, ?_⟩⟩
      rw [Int.toNat_natCast]
      exact hLR
end
end Srt
end Go.Proofs.Ytapgacggllbhiaa
