/- Package-merge as the program does it: merged, pairs, each. Conditions: sizes. -/
import Derived.Test.YtapgacggllbhiaaSoG
namespace Go.Proofs.Ytapgacggllbhiaa
namespace Srt
open Sh Pm
set_option linter.unusedVariables false
set_option linter.unusedSimpArgs false
set_option maxRecDepth 4000
set_option maxHeartbeats 4000000
attribute [local irreducible] Ld St Nw Nn Lt LdS
def trs (L : List (Nat × Tr)) : List Tr := L.map (·.2)
theorem trs_len (L : List (Nat × Tr)) : (trs L).length = L.length := by unfold trs; simp
theorem trs_app (L M : List (Nat × Tr)) : trs (L ++ M) = trs L ++ trs M := by unfold trs; simp
theorem trs_get {L : List (Nat × Tr)} {i : Nat} {p : Nat × Tr} (h : L[i]? = some p) : (trs L)[i]? = some p.2 := by
  unfold trs
  rw [List.getElem?_map, h]
  rfl
section
variable {w w1 : World} {s s2 : Slc} {L M : List (Nat × Tr)}
/-- A row is sorted, whatever sorts it; two sorted rows are merged. -/
def Mg (L M R : List (Nat × Tr)) : Prop := R.Perm (L ++ M) ∧ Up (trs R) ∧ (Up (trs L) → Up (trs M) → trs R = mg (trs L) (trs M))
theorem sorted_mg {W : Nat → Int} {T' : List E} (hW : ∀ p ∈ L ++ M, W p.1 = p.2.w) (hp : T'.Perm (tag 0 (L ++ M))) (hs : So W T') : Mg L M (T'.map (un (L ++ M))) ∧ pl (T'.map (un (L ++ M))) = ptrs T' := by
  have hun : ∀ e ∈ T', ∃ p ∈ L ++ M, un (L ++ M) e = p ∧ p.1 = e.1 := fun e he => by
    obtain ⟨g1, g2, p, g3, g4⟩ := tag_ge _ _ e (hp.mem_iff.1 he)
    rw [Nat.sub_zero] at g3
    refine ⟨p, List.mem_of_getElem? g3, ?_, g4⟩
    unfold un
    rw [List.getD_eq_getElem?_getD, g3]
    rfl
  have hid : (tag 0 (L ++ M)).map (un (L ++ M)) = L ++ M := un_tag (L ++ M) 0 (L ++ M) fun i p h => by rw [Nat.zero_add]; exact h
  refine ⟨⟨?_, ?_, fun uL uM => ?_⟩, ?_⟩
  · have := hp.map (un (L ++ M))
    rwa [hid] at this
  · unfold trs
    rw [List.map_map]
    refine List.pairwise_map.2 ?_
    refine List.Pairwise.imp_of_mem ?_ hs
    intro a b ha hb hab
    obtain ⟨p, hp1, hp2, hp3⟩ := hun a ha
    obtain ⟨q, hq1, hq2, hq3⟩ := hun b hb
    have := le_of_lt hab
    simp only [Function.comp, hp2, hq2]
    rw [← hW p hp1, ← hW q hq1, hp3, hq3]
    exact this
  · have sL : So W (tag 0 L) := so_tag 0 L (fun p hp => hW p (List.mem_append_left _ hp)) uL
    have sM : So W (tag L.length M) := so_tag _ M (fun p hp => hW p (List.mem_append_right _ hp)) uM
    have tT : Tg (tag 0 L) (tag L.length M) := fun a ha b hb => by
      have := (tag_ge _ _ a ha).2.1
      have := (tag_ge _ _ b hb).1
      omega
    have e0 : tag 0 (L ++ M) = tag 0 L ++ tag L.length M := by rw [tag_app, Nat.zero_add]
    have e1 : T' = List.merge (tag 0 L) (tag L.length M) (leE W) := so_unique hs (so_merge _ _ _ (Nat.le_refl _) sL sM tT) (by rw [e0] at hp; exact hp.trans (List.merge_perm_append _).symm)
    have iL : (tag 0 L).map (un (L ++ M)) = L := un_tag _ 0 L fun i p h => by
      rw [Nat.zero_add, List.getElem?_append_left (List.getElem?_eq_some_iff.1 h).1]
      exact h
    have iM : (tag L.length M).map (un (L ++ M)) = M := un_tag _ _ M fun i p h => by
      rw [List.getElem?_append_right (by omega), Nat.add_sub_cancel_left]
      exact h
    have eL : (tag 0 L).map (fun e => (un (L ++ M) e).2) = trs L := by
      unfold trs
      conv => rhs; rw [← iL]
      rw [List.map_map]
      rfl
    have eM : (tag L.length M).map (fun e => (un (L ++ M) e).2) = trs M := by
      unfold trs
      conv => rhs; rw [← iM]
      rw [List.map_map]
      rfl
    unfold trs
    rw [List.map_map, e1]
    show List.map (fun e => (un (L ++ M) e).2) _ = _
    rw [List.map_merge (s := le) (f := fun e => (un (L ++ M) e).2), eL, eM]
    · rfl
    · intro a ha b hb
      have ha' : a ∈ T' := by rw [e1]; exact List.mem_merge.2 (.inl ha)
      have hb' : b ∈ T' := by rw [e1]; exact List.mem_merge.2 (.inr hb)
      obtain ⟨p, hp1, hp2, hp3⟩ := hun a ha'
      obtain ⟨q, hq1, hq2, hq3⟩ := hun b hb'
      unfold leE le
      rw [hp2, hq2, ← hW p hp1, ← hW q hq1, hp3, hq3]
  · unfold pl ptrs
    rw [List.map_map]
    refine List.map_congr_left fun e he => ?_
    obtain ⟨p, hp1, hp2, hp3⟩ := hun e he
    simp only [Function.comp, hp2, hp3]
theorem c_merged (h : RT w s L) (k : RT w s2 M) (hL : L.length + M.length ≤ 100000) : C33 s s2 w (fun r w1 => Ext (fun _ => False) w w1 ∧ (∀ j, r.own j → w.heap.size ≤ j) ∧ ∃ R, RT w1 r R ∧ Mg L M R) fun _ _ => False := by
  refine T33 _ _ _ _ _ ?_
  unfold S33
  refine C43.mono (T43_F44 s s2 w (fun r w1 => Ext (fun _ => False) w w1 ∧ (∀ j, r.own j → w.heap.size ≤ j) ∧ ∃ R, RT w1 r R ∧ Mg L M R) (fun _ _ => False) ?_) (fun _ _ h => h) fun _ _ h => h
  unfold S43_F44
  refine (Hn.start w).nw fun w2 H => ?_
  refine H.nw fun w3 H => ?_
  have hc := H.get 0 rfl
  have hg := H.get 1 rfl
  have e3 := H.ext
  refine (c_concat (h.keep e3) (k.keep e3) hL hg).mono ?_ (fun _ _ h => h)
  rintro r w4 ⟨hr, e4, o4⟩
  have hc4 : w4.cell? ⟨w.heap.size, 0, none⟩ = some wfn := by
    have : w3.cell? ⟨w.heap.size, 0, none⟩ = some wfn := by rw [hc.cell]; rfl
    exact e4.cell_same this
  have hlt : w.heap.size < w3.heap.size := H.lt 0 rfl
  have hlen := hr.len
  rw [List.length_append] at hlen
  have hW : ∀ p ∈ L ++ M, wOf w4 p.1 = p.2.w := fun p hp => wOf_ct (hr.2 p hp)
  have HS : SS w4 r (tag 0 (L ++ M)) ⟨w.heap.size, 0, none⟩ (wOf w4) := by
    refine ⟨?_, hc4, fun e he => ?_, fun e he hj => ?_, fun hj => ?_, by rw [tag_len, List.length_append]; omega⟩
    · unfold PR
      rw [tag_ptrs]
      exact hr.1
    · obtain ⟨_, _, p, g3, g4⟩ := tag_ge _ _ e he
      have hp := List.mem_of_getElem? g3
      rw [← g4, hW p hp]
      exact (hr.2 p hp).wt
    · obtain ⟨_, _, p, g3, g4⟩ := tag_ge _ _ e he
      obtain ⟨cs, hb, _⟩ := (hr.2 p (List.mem_of_getElem? g3)).blk
      rw [g4] at hb
      exact own_coin hr _ hj _ hb
    · have := o4 _ hj
      simp only at this
      omega
  refine (c_sort HS (tag_up _ _)).mono ?_
  rintro w5 ⟨e5, T', hp, hs, H5⟩
  obtain ⟨hm, hpl⟩ := sorted_mg hW hp hs
  have E4 := e3.tr e4
  refine ⟨E4.trans e5 (fun _ h => h) fun i hi hh => absurd hi (by have := o4 i hh; omega), fun j hj => by have := o4 j hj; omega, _, ⟨by rw [hpl]; exact H5.row, fun p hp' => ?_⟩, hm⟩
  exact (hr.2 p (hm.1.mem_iff.1 hp')).keep e5 (own_coin hr)
theorem prs_snoc {l : List Tr} {k : Nat} {x y : Tr} (hx : l[2 * k]? = some x) (hy : l[2 * k + 1]? = some y) : prs (l.take (2 * (k + 1))) = prs (l.take (2 * k)) ++ [.node x y] := by
  have ly := (List.getElem?_eq_some_iff.1 hy).1
  have hlt : k < (prs l).length := by rw [prs_len]; omega
  obtain ⟨x', y', h1, h2, h3⟩ := prs_get k l _ (List.getElem?_eq_getElem hlt)
  rw [hx] at h1
  rw [hy] at h2
  cases h1
  cases h2
  rw [prs_take, prs_take, List.take_add_one, List.getElem?_eq_getElem hlt, h3]
  rfl
theorem c_pairs (h : RT w s L) (hL : L.length ≤ 100000) (hw : ∀ p ∈ L, 0 ≤ p.2.w ∧ p.2.w ≤ 1000000000000000) : C34 s w fun r w1 => Ext (fun _ => False) w w1 ∧ (∀ j, r.own j → w.heap.size ≤ j) ∧ ∃ R, RT w1 r R ∧ trs R = prs (trs L) := by
  refine T34 _ _ _ ?_
  unfold S34
  have hl := h.len
  refine ⟨fun n st w1 => ∃ (k : Nat) (R : List (Nat × Tr)), st.2 = ((2 * k : Nat) : Int) ∧ 2 * k ≤ L.length + 1 ∧ n = L.length + 2 - 2 * k ∧ R.length = k ∧ RT w1 st.1 R ∧ trs R = prs ((trs L).take (2 * k)) ∧ Ext (fun _ => False) w w1 ∧ ∀ j, st.1.own j → w.heap.size ≤ j, L.length + 2, ⟨0, [], rfl, by omega, rfl, rfl, RT.nil _, by simp [trs, prs], Ext.refl _ _, fun j hj => by obtain ⟨a, ha, _⟩ := hj; cases ha⟩, ?_⟩
  rintro n ⟨r, i⟩ w1 ⟨k, R, hi, hk, rfl, hR, h1, h2, e1, o1⟩
  unfold S34L1
  dsimp only at *
  subst hi
  rw [i64_id (n := ((2 * k : Nat) : Int) + 1) (by omega)]
  refine Br.dec (fun q => ?_) fun q => ?_
  · obtain ⟨p1, hp1⟩ : ∃ p, L[2 * k]? = some p := ⟨_, List.getElem?_eq_getElem (by omega)⟩
    obtain ⟨p2, hp2⟩ : ∃ p, L[2 * k + 1]? = some p := ⟨_, List.getElem?_eq_getElem (by omega)⟩
    have hd : Ext (fun _ => False) w w1.drew := e1.drew
    have hd1 := h.keep hd
    obtain ⟨g, hg, c1, t1⟩ := hd1.get hp1
    obtain ⟨g', hg', c2, t2⟩ := hd1.get hp2
    rw [hg] at hg'
    cases hg'
    have b1 := hw _ (List.mem_of_getElem? hp1)
    have b2 := hw _ (List.mem_of_getElem? hp2)
    rw [hg]
    refine ⟨fun w' => w' = w1.drew, rfl, by omega, by omega, Nn.of ?_⟩
    simp only [add_lit, Int.toNat_natCast, Nat.mul_one, Nat.zero_add]
    have e2k : (((2 * k : Nat) : Int) + 1).toNat = 2 * k + 1 := by omega
    refine ldS_mk (x := some ⟨p1.1, 0, none⟩) (fun w' e => e ▸ c1) (Nn.of (ldS_mk (x := p1.2.w) (fun w' e => e ▸ t1.wt) ⟨by omega, by omega, Nn.of ?_⟩))
    simp only [add_lit, e2k, Nat.mul_one, Nat.zero_add]
    refine ldS_mk (x := some ⟨p2.1, 0, none⟩) (fun w' e => e ▸ c2) (Nn.of (ldS_mk (x := p2.2.w) (fun w' e => e ▸ t2.wt) ⟨by omega, by omega, Nn.of ?_⟩))
    simp only [add_lit, Int.toNat_natCast, Nat.mul_one, Nat.zero_add]
    refine ldS_mk (x := some ⟨p1.1, 0, none⟩) (fun w' e => e ▸ c1) ⟨by omega, by omega, Nn.of ?_⟩
    simp only [add_lit, e2k, Nat.mul_one, Nat.zero_add]
    refine ldS_mk (x := some ⟨p2.1, 0, none⟩) (fun w' e => e ▸ c2) ?_
    rw [i64_id (n := p1.2.w + p2.2.w) (by omega)]
    refine (Hn.start w1.drew).nw fun w2 H => ?_
    refine H.nw fun w3 H => ?_
    have hb := H.get 0 rfl
    have hp := H.get 1 rfl
    have e3 := H.ext
    have hnode : CT w3 w1.drew.heap.size (.node p1.2 p2.2) := ⟨p1.1, p2.1, hb, t1.still e3, t2.still e3⟩
    have h13 : RT w3 r R := h1.keep (Ext.tr (Ext.refl _ w1).drew e3)
    obtain ⟨s', w4, r1, r2, r3, r4⟩ := h13.snoc (ty := 59) hp hnode (by omega)
    have E3 : Ext (fun _ => False) w w3 := hd.tr e3
    refine ⟨s', w4, r1, L.length + 2 - 2 * (k + 1), by omega, k + 1, R ++ [(w1.drew.heap.size, .node p1.2 p2.2)], by rw [i64_id (by omega)]; omega, by omega, rfl, by rw [List.length_append, hR]; rfl, r2, ?_, E3.trans r3 (fun _ h => h) fun i hi hh => absurd hi (by have := o1 i hh; omega), fun j hj => ?_⟩
    · rw [trs_app, h2, prs_snoc (trs_get hp1) (trs_get hp2)]
      rfl
    · have := E3.size
      rcases r4 j hj with hh | hh
      · exact o1 j hh
      · omega
  · refine ⟨e1, o1, R, h1, ?_⟩
    rw [h2]
    by_cases e : 2 * k ≤ L.length
    · have hl2 : (trs L).length / 2 = k := by rw [trs_len]; omega
      rw [prs_take, List.take_of_length_le (by rw [prs_len, hl2]; exact Nat.le_refl _)]
    · rw [List.take_of_length_le (by rw [trs_len]; omega)]
/-! ### Counting the signs -/
def lst (f : Nat → Nat) (n : Nat) : List Int := (List.range n).map fun i => (f i : Int)
theorem lst_len (f : Nat → Nat) (n : Nat) : (lst f n).length = n := by unfold lst; simp
theorem lst_get {f : Nat → Nat} {n i : Nat} (h : i < n) : (Inf.ints (lst f n))[i]? = some (.int .i64 (f i : Int)) := by
  unfold Inf.ints lst
  rw [List.getElem?_map, List.getElem?_map, List.getElem?_range h]
  rfl
theorem lst_set {f : Nat → Nat} {n i : Nat} {x : Nat} (h : i < n) : (Inf.ints (lst f n)).set i (.int .i64 (x : Int)) = Inf.ints (lst (fun j => if i = j then x else f j) n) := by
  rw [Inf.ints_set]
  congr 1
  apply List.ext_getElem?
  intro j
  unfold lst
  rw [List.getElem?_set, List.length_map, List.length_range, List.getElem?_map, List.getElem?_map]
  by_cases e : i = j
  · subst e
    rw [if_pos rfl, if_pos h, List.getElem?_range h]
    simp
  · rw [if_neg e]
    by_cases hj : j < n
    · rw [List.getElem?_range hj]
      simp [e]
    · rw [List.getElem?_eq_none (by rw [List.length_range]; omega)]
      rfl
/-- The row that is counted in, and the variable that holds it. -/
structure OB (w : World) (g cO n : Nat) (f : Nat → Nat) : Prop where
  row : Blk w g (Inf.ints (lst f n)).toArray 3
  var : w.cell? ⟨cO, 0, none⟩ = some (Slc.v ⟨some ⟨g, 0, none⟩, n, n⟩)
  ne : cO ≠ g
theorem OB.coin {g cO n : Nat} {f : Nat → Nat} (h : OB w g cO n f) : ∀ j, j = g → ∀ cs, ¬ Blk w j cs 62 := fun j hj cs hb => by
  subst hj
  have := Blk.ty hb h.row
  revert this
  decide
theorem c_tell {g cO n i : Nat} {f : Nat → Nat} (h : OB w g cO n f) (hi : i < n) (hf : f i ≤ 1000000) : C36 (i : Int) ⟨cO, 0, none⟩ w fun w1 => Ext (· = g) w w1 ∧ OB w1 g cO n fun j => f j + if i = j then 1 else 0 := by
  refine T36 _ _ _ _ ?_
  unfold S36
  refine Ld.mk h.var ⟨by omega, by show (i : Int) < ((n : Nat) : Int); omega, Nn.of ?_⟩
  simp only [add_lit, Int.toNat_natCast, Nat.mul_one, Nat.zero_add]
  refine Ld.mk (x := (f i : Int)) (by rw [h.row.cell]; simpa using lst_get hi) ⟨by omega, by omega, Nn.of ?_⟩
  rw [i64_id (by omega), show (f i : Int) + 1 = ((f i + 1 : Nat) : Int) by omega]
  simp only [add_lit, Int.toNat_natCast, Nat.mul_one, Nat.zero_add]
  have e1 : Ext (· = g) w (w.setCell ⟨g, i, none⟩ (.int .i64 ((f i + 1 : Nat) : Int))) := (Ext.refl (· = g) w).set (.inl rfl) _
  unfold St
  refine ⟨h.row.can (by rw [List.size_toArray, Inf.ints_len, lst_len]; exact hi), e1, ?_, ?_, h.ne⟩
  · have := h.row.set i (.int .i64 ((f i + 1 : Nat) : Int))
    rw [List.setIfInBounds_toArray, lst_set hi] at this
    have e : (fun j => if i = j then f i + 1 else f j) = fun j => f j + if i = j then 1 else 0 := by
      funext j
      by_cases e : i = j
      · subst e; simp
      · simp [e]
    rw [e] at this
    exact this
  · rw [e1.cell (cell_lt' h.var) h.ne]
    exact h.var
theorem c_each {g cO n : Nat} : ∀ (t : Tr) {w : World} {b : Nat} {f : Nat → Nat} {c : List Int}, CT w b t → OB w g cO n f → t.ok c → c.length = n → (∀ i, f i + t.cnt i ≤ 1000000) →
    C35 (some ⟨b, 0, none⟩) (.func (.func 36) #[] #[.pointer (some ⟨cO, 0, none⟩)]) w fun w1 => Ext (· = g) w w1 ∧ OB w1 g cO n fun j => f j + t.cnt j
  | .leaf sn x, w, b, f, c, ht, ho, hk, hn, hf => by
    refine T35_F36 _ _ _ _ ?_
    unfold S35_F36
    have ht : Blk w b #[.int .i64 x, .int .i64 (sn : Int), .pointer none, .pointer none] 62 := ht
    refine Nn.of ?_
    simp only [add_lit, Nat.zero_add]
    refine Ld.mk (x := none) (by rw [ht.cell]; rfl) (Srt.Br.t rfl (Nn.of ?_))
    simp only [add_lit, Nat.zero_add]
    refine Ld.mk (x := (sn : Int)) (by rw [ht.cell]; rfl) ?_
    have := hf sn
    exact c_tell ho (by rw [← hn]; exact hk.1) (by omega)
  | .node l r, w, b, f, c, ht, ho, hk, hn, hf => by
    refine T35_F36 _ _ _ _ ?_
    unfold S35_F36
    obtain ⟨b1, b2, hb, hl, hr⟩ := ht
    refine Nn.of ?_
    simp only [add_lit, Nat.zero_add]
    refine Ld.mk (x := some ⟨b1, 0, none⟩) (by rw [hb.cell]; rfl) (Srt.Br.f rfl (Nn.of ?_))
    simp only [add_lit, Nat.zero_add]
    refine Ld.mk (x := some ⟨b1, 0, none⟩) (by rw [hb.cell]; rfl) ?_
    refine (c_each l hl ho hk.1 hn fun i => by have := hf i; simp only [Tr.cnt] at this; omega).mono ?_
    rintro w1 ⟨e1, ho1⟩
    have hb1 : Blk w1 b _ 62 := e1.blk hb fun hh => ho.coin _ hh _ hb
    refine Nn.of ?_
    simp only [add_lit, Nat.zero_add]
    refine Ld.mk (x := some ⟨b2, 0, none⟩) (by rw [hb1.cell]; rfl) ?_
    refine (c_each r (hr.keep e1 ho.coin) ho1 hk.2 hn fun i => by have := hf i; simp only [Tr.cnt] at this; omega).mono ?_
    rintro w2 ⟨e2, ho2⟩
    refine ⟨e1.tr e2, ?_⟩
    have e : (fun j => f j + l.cnt j + r.cnt j) = fun j => f j + (Tr.node l r).cnt j := by
      funext j
      simp only [Tr.cnt]
      omega
    rw [e] at ho2
    exact ho2
end
end Srt
end Go.Proofs.Ytapgacggllbhiaa
