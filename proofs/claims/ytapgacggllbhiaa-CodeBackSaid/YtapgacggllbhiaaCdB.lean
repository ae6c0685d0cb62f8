/- Codes: the reference's least cost. Conditions: sizes. -/
import Derived.Test.YtapgacggllbhiaaCdA
namespace Go.Proofs.Ytapgacggllbhiaa
namespace Cd
open Sh Pm Inf Bit
set_option linter.unusedVariables false
set_option linter.unusedSimpArgs false
set_option maxRecDepth 4000
set_option maxHeartbeats 4000000
/-- A number goes where it belongs. -/
def ins (x : Int) : List Int → List Int
  | [] => [x]
  | a :: r => if x < a then x :: a :: r else a :: ins x r
theorem ins_perm (x : Int) : ∀ l, (ins x l).Perm (x :: l)
  | [] => .refl _
  | a :: r => by
    unfold ins
    split
    · exact .refl _
    · exact (List.Perm.cons a (ins_perm x r)).trans (List.Perm.swap x a r)
theorem ins_up (x : Int) : ∀ l, UpI l → UpI (ins x l)
  | [], _ => List.pairwise_singleton _ _
  | a :: r, h => by
    obtain ⟨h1, h2⟩ := List.pairwise_cons.1 h
    unfold ins
    split
    · rename_i hx
      refine List.pairwise_cons.2 ⟨fun y hy => ?_, h⟩
      rcases List.mem_cons.1 hy with rfl | hy
      · omega
      · have := h1 y hy; omega
    · rename_i hx
      refine List.pairwise_cons.2 ⟨fun y hy => ?_, ins_up x r h2⟩
      rcases List.mem_cons.1 ((ins_perm x r).mem_iff.1 hy) with rfl | hy
      · omega
      · exact h1 y hy
theorem ins_at (x : Int) : ∀ (l : List Int) (i : Nat), i < l.length → (∀ j, j < i → ¬ x < l.getD j 0) → x < l.getD i 0 → ins x l = l.take i ++ x :: l.drop i
  | [], i, h, _, _ => by simp at h
  | a :: r, 0, _, _, h => by
    have h : x < a := by simpa using h
    unfold ins
    rw [if_pos h]
    rfl
  | a :: r, i + 1, hi, hj, h => by
    have h0 : ¬ x < a := by simpa using hj 0 (by omega)
    unfold ins
    rw [if_neg h0, ins_at x r i (by simpa using hi) (fun j hh => by simpa using hj (j + 1) (by omega)) (by simpa using h)]
    rfl
theorem ins_end (x : Int) : ∀ (l : List Int), (∀ j, j < l.length → ¬ x < l.getD j 0) → ins x l = l ++ [x]
  | [], _ => rfl
  | a :: r, hj => by
    have h0 : ¬ x < a := by simpa using hj 0 (by simp)
    unfold ins
    rw [if_neg h0, ins_end x r fun j hh => by simpa using hj (j + 1) (by simp; omega)]
    rfl
theorem getD_take {l : List Int} {i j : Nat} (h : j < i) : (l.take i).getD j 0 = l.getD j 0 := by
  rw [List.getD_eq_getElem?_getD, List.getD_eq_getElem?_getD, List.getElem?_take, if_pos h]
theorem take_snoc {l : List Int} {i : Nat} (h : i < l.length) : l.take (i + 1) = l.take i ++ [l.getD i 0] := by
  rw [List.take_add_one, List.getElem?_eq_getElem h, List.getD_eq_getElem?_getD, List.getElem?_eq_getElem h]
  rfl
theorem drop_cons {l : List Int} {i : Nat} (h : i < l.length) : l.drop i = l.getD i 0 :: l.drop (i + 1) := by
  rw [List.drop_eq_getElem_cons h, List.getD_eq_getElem?_getD, List.getElem?_eq_getElem h]
  rfl
theorem prI_len : ∀ l : List Int, (prI l).length = l.length / 2
  | [] => rfl
  | [_] => by simp [prI]
  | a :: b :: r => by
    have := prI_len r
    simp only [prI, List.length_cons, this]
    omega
theorem prI_take : ∀ (K : Nat) (l : List Int), 2 * K + 1 < l.length → (prI l).take (K + 1) = (prI l).take K ++ [l.getD (2 * K) 0 + l.getD (2 * K + 1) 0]
  | K, [], h => by simp at h
  | K, [a], h => by simp at h
  | 0, a :: b :: r, h => by simp [prI]
  | K + 1, a :: b :: r, h => by
    have ih := prI_take K r (by simp only [List.length_cons] at h; omega)
    have e1 : (a :: b :: r).getD (2 * (K + 1)) 0 = r.getD (2 * K) 0 := by rw [show 2 * (K + 1) = 2 * K + 1 + 1 by omega]; simp
    have e2 : (a :: b :: r).getD (2 * (K + 1) + 1) 0 = r.getD (2 * K + 1) 0 := by rw [show 2 * (K + 1) + 1 = 2 * K + 1 + 1 + 1 by omega]; simp
    rw [e1, e2]
    simp only [prI, List.take_succ_cons, List.cons_append]
    rw [ih]
/-- Sorted leaves there are. -/
theorem sd_is (c : List Int) : Sd c ((lv c c.length).mergeSort le) :=
  ⟨List.mergeSort_perm _ _, by
    have := List.pairwise_mergeSort (le := le) (fun a b c h1 h2 => by simp only [le, decide_eq_true_eq] at *; omega) (fun a b => by simp only [le, Bool.or_eq_true, decide_eq_true_eq]; omega) (lv c c.length)
    exact this.imp fun h => by simpa [le] using h⟩
theorem rI_small {c : List Int} (h288 : c.length ≤ 288) (hc : ∀ i, i < c.length → 0 ≤ c.getD i 0 ∧ c.getD i 0 ≤ 2147483647) {k : Nat} (hk : k ≤ 14) : (∀ x ∈ rI (srt c) k, 0 ≤ x ∧ x ≤ 1000000000000000) ∧ (rI (srt c) k).length ≤ 2 * (srt c).length ∧ (srt c).length ≤ 288 := by
  have hs := sd_is c
  have e := rI_map ((lv c c.length).mergeSort le) k
  rw [hs.map] at e
  refine ⟨fun x hx => ?_, ?_, ?_⟩
  · rw [← e] at hx
    obtain ⟨t, ht, rfl⟩ := List.mem_map.1 hx
    exact rows_w hs h288 hc hk t ht
  · have := rows_short ((lv c c.length).mergeSort le) k
    rw [← e, List.length_map, ← hs.len]
    exact this
  · have := lv_len c c.length
    rw [← lv_srt]
    omega
attribute [local irreducible] Ld St Nw Nn Lt LdS
section
variable {w w1 : World} {s s2 : Slc} {l c : List Int}
/-- A row of ints of its own. -/
def IO (w0 w : World) (r : Slc) (l : List Int) : Prop := Row w r 3 1 (ints l) ∧ ∀ j, r.own j → w0.heap.size ≤ j
theorem IO.iv {w0 : World} {r : Slc} (h : IO w0 w r l) : IV w r l := IV.row h.1
theorem IO.snoc {w0 : World} {r : Slc} {x : Int} {ty : TypeId} {K : Slc → World → Prop} (h : IO w0 w r l) (he : Ext (fun _ => False) w0 w) (hl : l.length ≤ 1000000)
    (k : ∀ r' w', IO w0 w' r' (l ++ [x]) → Ext (fun _ => False) w0 w' → K r' w') :
    Nw w (.cells #[.int .i64 x] 3) fun w2 => Rn Try.prog (Builtin.append_ #[22, 22] ty #[Slc.v r, Slc.v (⟨some ⟨w.heap.size, 0, none⟩, 1, 1⟩ : Slc)]) w2 Slc.v fun (r' : Slc) w3 => K r' w3 := by
  refine (Hn.start w).nw fun w2 H => ?_
  have hb := H.get 0 rfl
  have e2 := H.ext
  have hlen := h.iv.1
  obtain ⟨s', w', r1, r2, r3, r4, r5⟩ := elI.app1 (ty := ty) (ys := [.int .i64 x]) (h.1.keep e2 fun _ _ e => e) hb rfl (by intro v hv; rw [List.mem_singleton.1 hv]; rfl) (by omega) (by omega)
  have E2 := he.tr e2
  refine ⟨s', w', r1, k s' w' ⟨by rw [ints_app]; exact r2, fun j hj => ?_⟩ (Srt.Ext.new E2 r4 h.2)⟩
  have := E2.size
  rcases r5 j hj with hh | hh
  · exact h.2 j hh
  · omega
theorem r_lay (h : IV w s l) (hl : l.length ≤ 100000) (x : Int) : C37 s x w fun r w1 => IV w1 r (ins x l) ∧ Ext (fun _ => False) w w1 := by
  refine T37 _ _ _ _ ?_
  unfold S37
  refine ⟨fun n st w1 => ∃ (i : Nat) (o : List Int), st.2.2 = (i : Int) ∧ i ≤ l.length ∧ n = l.length - i ∧ IO w w1 st.1 o ∧ Ext (fun _ => False) w w1 ∧ ((st.2.1 = false ∧ o = l.take i ∧ ∀ j, j < i → ¬ x < l.getD j 0) ∨ (st.2.1 = true ∧ o ++ l.drop i = ins x l)), l.length,
    ⟨0, [], rfl, by omega, rfl, ⟨Row.nil _ _ _, fun j hj => by obtain ⟨a, ha, _⟩ := hj; cases ha⟩, Ext.refl _ _, .inl ⟨rfl, rfl, fun j hj => by omega⟩⟩, ?_⟩
  rintro n ⟨r, done, i⟩ w1 ⟨i, o, hi, hil, rfl, ho, e1, hcase⟩
  unfold S37L1
  dsimp only at *
  subst hi
  rw [h.1]
  have hol : o.length ≤ l.length + 1 := by
    rcases hcase with ⟨_, rfl, _⟩ | ⟨_, hh⟩
    · rw [List.length_take]; omega
    · have := congrArg List.length hh
      rw [List.length_append, (ins_perm x l).length_eq, List.length_cons] at this
      omega
  refine Br.dec (fun q => ?_) fun q => ?_
  · have hlt : i < l.length := by omega
    rw [Int.toNat_natCast, i64_id (n := (i : Int) + 1) (by omega)]
    have ld : ∀ {w2 : World} {K : Int → Prop}, Ext (fun _ => False) w w2 → K (l.getD i 0) → 0 ≤ (i : Int) ∧ (i : Int) < ((l.length : Nat) : Int) ∧ Nn s.p fun a => Ld w2 (a.add (i * 1)) (Value.int .i64) K := fun {w2 K} he hk => by
      obtain ⟨a, ha, hc⟩ := (h.keep he).get hlt
      rw [ha]
      exact ⟨by omega, by omega, Nn.of (Ld.mk hc hk)⟩
    rcases hcase with ⟨rfl, rfl, hall⟩ | ⟨rfl, hh⟩
    · refine Srt.Br.t rfl (ld e1 (Br.dec (fun q2 => ?_) fun q2 => ld e1 ?_))
      · refine ho.snoc e1 (by omega) fun r' w' ho' e' => ld e' (ho'.snoc e' (by simp; omega) fun r'' w'' ho'' e'' => ⟨l.length - (i + 1), by omega, i + 1, _, rfl, by omega, rfl, ho'', e'', .inr ⟨rfl, ?_⟩⟩)
        rw [ins_at x l i hlt hall q2, drop_cons hlt]
        simp
      · refine ho.snoc e1 (by omega) fun r' w' ho' e' => ⟨l.length - (i + 1), by omega, i + 1, _, rfl, by omega, rfl, ho', e', .inl ⟨rfl, (take_snoc hlt).symm, fun j hj => ?_⟩⟩
        by_cases e : j = i
        · subst e; exact q2
        · exact hall j (by omega)
    · refine Srt.Br.f rfl (ld e1 (ho.snoc e1 (by omega) fun r' w' ho' e' => ⟨l.length - (i + 1), by omega, i + 1, _, rfl, by omega, rfl, ho', e', .inr ⟨rfl, ?_⟩⟩))
      rw [← hh, drop_cons hlt]
      simp
  · have : i = l.length := by omega
    subst this
    rcases hcase with ⟨rfl, rfl, hall⟩ | ⟨rfl, hh⟩
    · refine Srt.Br.t rfl (ho.snoc e1 (by omega) fun r' w' ho' e' => ⟨?_, e'⟩)
      rw [ins_end x l hall]
      have := ho'.iv
      rw [List.take_length] at this
      exact this
    · refine Srt.Br.f rfl ⟨?_, e1⟩
      rw [← hh, List.drop_length, List.append_nil]
      exact ho.iv
theorem r_least {mo : Nat} (h : IV w s c) (h288 : c.length ≤ 288) (hc : ∀ i, i < c.length → 0 ≤ c.getD i 0 ∧ c.getD i 0 ≤ 2147483647) (h1 : 1 ≤ mo) (h15 : mo ≤ 15) : C19 s (mo : Int) w fun r w1 => r = least c mo ∧ Ext (fun _ => False) w w1 := by
  refine T19 _ _ _ _ ?_
  unfold S19
  refine ⟨fun n st w1 => ∃ (i : Nat) (s' : List Int), st.2 = (i : Int) ∧ i ≤ c.length ∧ n = c.length - i ∧ IV w1 st.1 s' ∧ UpI s' ∧ s'.Perm ((c.take i).filter fun x => decide (0 < x)) ∧ Ext (fun _ => False) w w1, c.length, ⟨0, [], rfl, by omega, rfl, IV.nil _, List.Pairwise.nil, .refl _, Ext.refl _ _⟩, ?_⟩
  rintro n ⟨r, i⟩ w1 ⟨i, s', hi, hil, rfl, hr, hup, hperm, e1⟩
  unfold S19L4
  dsimp only at *
  subst hi
  rw [h.1]
  have hp := posT c i hil
  have hsl := hperm.length_eq
  refine Br.dec (fun q => ?_) fun q => ?_
  · have hlt : i < c.length := by omega
    obtain ⟨a, ha, hcell⟩ := (h.keep e1).get hlt
    have hs := pos_step hlt
    rw [ha, Int.toNat_natCast, i64_id (n := (i : Int) + 1) (by omega)]
    refine ⟨by omega, by omega, Nn.of (Ld.mk hcell (Br.dec (fun q2 => ⟨by omega, by omega, Nn.of (Ld.mk hcell ?_)⟩) fun q2 => ?_))⟩
    · rw [if_pos q2] at hs
      refine (r_lay hr (by omega) _).mono ?_
      rintro r2 w2 ⟨hr2, e2⟩
      refine ⟨c.length - (i + 1), by omega, i + 1, _, rfl, by omega, rfl, hr2, ins_up _ _ hup, ?_, e1.tr e2⟩
      rw [hs]
      exact (ins_perm _ _).trans ((List.Perm.cons _ hperm).trans (List.perm_append_singleton _ _).symm)
    · rw [if_neg q2, List.append_nil] at hs
      exact ⟨c.length - (i + 1), by omega, i + 1, s', rfl, by omega, rfl, hr, hup, by rw [hs]; exact hperm, e1⟩
  · have : i = c.length := by omega
    subst this
    rw [List.take_length] at hperm
    obtain rfl := srt_eq hup hperm
    have hrl := hr.1
    have hS := (rI_small h288 hc (k := 0) (by omega)).2.2
    refine Br.dec (fun q2 => Br.eq (fun q3 => ?_) fun q3 => ⟨?_, e1⟩) fun q2 => ?_
    · obtain ⟨a, ha, hcell⟩ := hr.get (i := 0) (by omega)
      rw [ha]
      refine ⟨by omega, by omega, Nn.of (Ld.mk hcell ⟨?_, e1⟩)⟩
      unfold least
      rw [if_pos (by omega)]
    · unfold least
      rw [if_pos (by omega)]
      have : srt c = [] := List.eq_nil_of_length_eq_zero (by omega)
      rw [this]
      rfl
    · refine ⟨fun n st w2 => ∃ (b : Nat), st.2 = (b : Int) ∧ 1 ≤ b ∧ b ≤ mo ∧ n = mo - b ∧ IV w2 st.1 (rI (srt c) (b - 1)) ∧ Ext (fun _ => False) w1 w2, mo - 1, ⟨1, rfl, by omega, by omega, rfl, hr, Ext.refl _ _⟩, ?_⟩
      rintro n ⟨r2, b⟩ w2 ⟨b, hb, hb1, hbm, rfl, hr2, e2⟩
      unfold S19L3
      dsimp only at *
      subst hb
      obtain ⟨sm1, sm2, _⟩ := rI_small h288 hc (k := b - 1) (by omega)
      have hr2l := hr2.1
      have getb : ∀ i, i < (rI (srt c) (b - 1)).length → 0 ≤ (rI (srt c) (b - 1)).getD i 0 ∧ (rI (srt c) (b - 1)).getD i 0 ≤ 1000000000000000 := fun i hi => by
        rw [List.getD_eq_getElem?_getD, List.getElem?_eq_getElem hi]
        exact sm1 _ (List.getElem_mem hi)
      generalize hrow : rI (srt c) (b - 1) = row at *
      refine Br.dec (fun q3 => ?_) fun q3 => ?_
      · refine Nw.of ?_
        have e3 : Ext (fun _ => False) w2 (w2.alloc (.cells #[] 3)) := (Ext.refl _ _).alloc _
        obtain ⟨s3, w3, r31, r32, r33, r34, r35⟩ := elI.app (ty := 22) (Row.new w2 #[] 3 1 0 rfl) ((hr.keep e2).keep e3).2 (ints_one _) (by show (0 + r.len) * 8 ≤ _; omega) (by show 0 + r.len ≤ _; omega)
        have hr3 : IV w3 s3 (srt c) := IV.row (l := srt c) (by simpa using r32)
        have E3 : Ext (fun _ => False) w2 w3 := e3.trans r34 (fun _ h => h) (fun i hi hh => by
          obtain ⟨a, ha, rfl⟩ := hh
          cases ha
          exact absurd hi (Nat.lt_irrefl _))
        refine ⟨s3, w3, r31, fun n st w4 => ∃ (k : Nat) (nx : List Int), st.2 = ((2 * k : Nat) : Int) ∧ 2 * k ≤ row.length + 1 ∧ n = row.length + 2 - 2 * k ∧ IV w4 st.1 nx ∧ UpI nx ∧ nx.Perm (srt c ++ (prI row).take k) ∧ Ext (fun _ => False) w2 w4, row.length + 2, ⟨0, srt c, rfl, by omega, rfl, hr3, srt_up c, by simp, E3⟩, ?_⟩
        rintro n ⟨r4, i4⟩ w4 ⟨k, nx, hk, hkl, rfl, hr4, up4, p4, e4⟩
        unfold S19L1
        dsimp only at *
        subst hk
        rw [hr2l, i64_id (n := ((2 * k : Nat) : Int) + 1) (by omega)]
        have hpl := prI_len row
        have hnl : nx.length ≤ (srt c).length + row.length := by
          rw [p4.length_eq, List.length_append, List.length_take]
          omega
        refine Br.dec (fun q4 => ⟨by omega, by omega, ?_⟩) fun q4 => ?_
        · obtain ⟨a, ha, hcell⟩ := ((hr2.keep e4).keep (Ext.refl _ w4).drew).get (i := 2 * k) (by omega)
          obtain ⟨a', ha', hcell'⟩ := ((hr2.keep e4).keep (Ext.refl _ w4).drew).get (i := 2 * k + 1) (by omega)
          rw [ha] at ha'
          cases ha'
          have g1 := getb (2 * k) (by omega)
          have g2 := getb (2 * k + 1) (by omega)
          rw [ha, Int.toNat_natCast, show (((2 * k : Nat) : Int) + 1).toNat = 2 * k + 1 by omega]
          refine Nn.of (Ld.mk hcell ⟨by omega, by omega, Nn.of (Ld.mk hcell' ?_)⟩)
          rw [i64_id (n := row.getD (2 * k) 0 + row.getD (2 * k + 1) 0) (by omega)]
          refine (r_lay (hr4.keep (Ext.refl _ w4).drew) (by omega) _).mono ?_
          rintro r5 w5 ⟨hr5, e5⟩
          refine ⟨row.length + 2 - 2 * (k + 1), by omega, k + 1, _, by rw [i64_id (by omega)]; omega, by omega, rfl, hr5, ins_up _ _ up4, ?_, e4.tr ((Ext.refl _ w4).drew.tr e5)⟩
          rw [prI_take k row (by omega), ← List.append_assoc]
          exact (ins_perm _ _).trans ((List.Perm.cons _ p4).trans (List.perm_append_singleton _ _).symm)
        · refine ⟨mo - (b + 1), by omega, b + 1, by rw [i64_id (by omega)]; rfl, by omega, by omega, rfl, ?_, e2.tr e4⟩
          have hb2 : b + 1 - 1 = (b - 1) + 1 := by omega
          rw [hb2]
          have htk : (prI row).take k = prI row := List.take_of_length_le (by omega)
          rw [htk] at p4
          have hup' : UpI (rI (srt c) (b - 1 + 1)) := rI_up (srt_up c) _
          have : nx = rI (srt c) (b - 1 + 1) := upI_unique up4 hup' (p4.trans (by
            show (srt c ++ prI row).Perm (List.merge (srt c) (prI (rI (srt c) (b - 1))) leI)
            rw [hrow]
            exact (List.merge_perm_append _).symm))
          rw [← this]
          exact hr4
      · have : b = mo := by omega
        subst this
        have em : IntKind.i64.wrap (IntKind.i64.wrap (2 * (((srt c).length : Nat) : Int)) - 2) = ((2 * (srt c).length - 2 : Nat) : Int) := by
          rw [i64_id (n := 2 * (((srt c).length : Nat) : Int)) (by omega), i64_id (by omega)]
          omega
        have hfin : isum (row.take (2 * (srt c).length - 2)) = least c b := by
          unfold least
          rw [if_neg (by omega), hrow]
        refine ⟨fun n st w3 => ∃ i : Nat, st = (isum (row.take i), (i : Int)) ∧ i ≤ 2 * (srt c).length - 2 ∧ i ≤ row.length ∧ n = 2 * (srt c).length - 2 - i ∧ w3 = w2 ∧ 0 ≤ isum (row.take i) ∧ isum (row.take i) ≤ i * 1000000000000000, 2 * (srt c).length - 2, ⟨0, rfl, by omega, by omega, rfl, rfl, by simp [isum], by simp [isum]⟩, ?_⟩
        rintro n st w2 ⟨i, rfl, him, hil, rfl, rfl, s0, s1⟩
        unfold S19L2
        dsimp only
        rw [hrl, hr2l, em]
        refine Lt.of (Br.dec (fun q4 => Br.dec (fun q5 => ⟨by omega, by omega, ?_⟩) fun q5 => ⟨?_, e1.tr e2⟩) fun q4 => ⟨?_, e1.tr e2⟩)
        · obtain ⟨a, ha, hcell⟩ := hr2.get (i := i) (by omega)
          have g1 := getb i (by omega)
          have hs : isum (row.take (i + 1)) = isum (row.take i) + row.getD i 0 := by
            rw [take_snoc (by omega), isum_app]
            simp [isum]
          rw [ha, Int.toNat_natCast, i64_id (n := (i : Int) + 1) (by omega)]
          refine Nn.of (Ld.mk hcell ?_)
          rw [i64_id (by omega), ← hs]
          exact ⟨2 * (srt c).length - 2 - (i + 1), by omega, i + 1, rfl, by omega, by omega, rfl, rfl, by omega, by omega⟩
        · rw [← hfin, List.take_of_length_le (by omega), List.take_of_length_le (by omega)]
        · rw [← hfin, show i = 2 * (srt c).length - 2 by omega]
end
end Cd
end Go.Proofs.Ytapgacggllbhiaa
