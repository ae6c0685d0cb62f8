/- Hints: HintLong: the walk. Conditions: the list's numbers are ints. -/
import Derived.Test.YtjlaijhmnlkpiaaHiL
import Derived.Test.YtjlaijhmnlkpiaaHbH
import Derived.Test.YtjlaijhmnlkpiaaFnLawT
namespace Go.Proofs.Ytjlaijhmnlkpiaa
namespace Hint
open Sh Bit
set_option linter.unusedVariables false
set_option linter.unusedSimpArgs false
set_option maxRecDepth 100000
set_option maxHeartbeats 2000000
theorem h_one (L : List Hi) : ∀ v ∈ L.flatMap hrow, v.oneCell' = true := by
  intro v hv
  obtain ⟨o, _, ho⟩ := List.mem_flatMap.1 hv
  simp only [hrow, List.mem_cons, List.not_mem_nil, or_false] at ho
  rcases ho with rfl | rfl | rfl <;> rfl
theorem rows_set3 (x y z : Int) : ∀ (M : List Hi) (i : Nat), i < M.length → (((M.flatMap hrow).set (i * 3) (.int .i64 x)).set (i * 3 + 1) (.int .i64 y)).set (i * 3 + 2) (.int .i64 z) = (M.set i (x, y, z)).flatMap hrow
  | [], i, h => by simp at h
  | (a1, a2, a3) :: M, 0, _ => rfl
  | a :: M, i + 1, h => by
    have ih := rows_set3 x y z M i (by simpa using h)
    have hl : (hrow a).length = 3 := rfl
    rw [List.flatMap_cons, List.set_append_right _ _ (by omega), List.set_append_right _ _ (by omega), List.set_append_right _ _ (by omega), hl,
      show (i + 1) * 3 - 3 = i * 3 by omega, show (i + 1) * 3 + 1 - 3 = i * 3 + 1 by omega, show (i + 1) * 3 + 2 - 3 = i * 3 + 2 by omega, ih]
    rfl
/-- A hint moved. -/
def mvH (a b c : Int) (o : Hi) : Hi := (IntKind.i64.wrap (o.1 + a), IntKind.i64.wrap (o.2.1 + b), IntKind.i64.wrap (o.2.2 + c))
theorem app_a {w : World} {s l : Slc} {L : List Hi} {ty : TypeId} (hr : Row w s 70 3 []) (hs : s.len = 0) (hv : HV w l L) (hL : L.length ≤ 1000) :
    ∃ s' w', RunV Try.prog (Builtin.append_ #[59, 59] ty #[Slc.v s, Slc.v l]) w (Slc.v s') w' ∧ Row w' s' 70 3 (L.flatMap hrow) ∧ s'.len = L.length ∧ Ext s.own w w' ∧ ∀ j, s'.own j → s.own j ∨ w.heap.size ≤ j := by
  have h1 := hv.1
  obtain ⟨s', w', e1, e2, e3, e4, e5⟩ := elHi.app (ty := ty) hr hv.2 (h_one L) (by omega) (by omega)
  exact ⟨s', w', e1, e2, by omega, e4, e5⟩
theorem app_b {w : World} {s : Slc} {L : List Hi} {o : Hi} {g : Nat} {ty : TypeId} (hr : Row w s 70 3 (L.flatMap hrow)) (hs : s.len = L.length) (hg : Blk w g (hrow o).toArray 70) (hL : L.length ≤ 1000) :
    ∃ s' w', RunV Try.prog (Builtin.append_ #[59, 59] ty #[Slc.v s, Slc.v ⟨some ⟨g, 0, none⟩, 1, 1⟩]) w (Slc.v s') w' ∧ HV w' s' (L ++ [o]) ∧ Ext s.own w w' := by
  obtain ⟨s', w', e1, e2, e3, e4, e5⟩ := elHi.app1 (ty := ty) hr hg rfl (by simpa using h_one [o]) (by omega) (by omega)
  refine ⟨s', w', e1, ⟨by simp; omega, ?_⟩, e4⟩
  have := e2.view
  rw [List.flatMap_append]
  simpa using this
attribute [local irreducible] Ld St Nw Nn Lt LdS
theorem long_law {l : Slc} {L : List Hi} {a b c n : Int} (w : World) (hv : HV w l L) : C11 l a b c n w fun r w1 => r = true ∧ Ext (fun _ => False) w w1 := by
  refine T11 _ _ _ _ _ _ _ ?_
  unfold S11
  refine (c_lives _).mono ?_
  rintro r w1 ⟨rfl, e1⟩
  rw [hv.1]
  refine Br.f rfl (Br.eq (fun _ => ⟨rfl, e1⟩) fun hl0 => Br.dec (fun _ => ⟨rfl, e1⟩) fun hl => Br.dec (fun _ => ⟨rfl, e1⟩) fun hn => Br.dec (fun _ => ⟨rfl, e1⟩) fun ha0 => Br.dec (fun _ => ⟨rfl, e1⟩) fun ha1 => Br.dec (fun _ => ⟨rfl, e1⟩) fun hb0 => Br.dec (fun _ => ⟨rfl, e1⟩) fun hb1 => Br.dec (fun _ => ⟨rfl, e1⟩) fun hc0 => Br.dec (fun _ => ⟨rfl, e1⟩) fun hc1 => (c_text (hv.keep e1)).mono ?_)
  rintro s why w2 ⟨h, e2⟩
  have E2 := e1.tr e2
  refine Br.ne (fun h0 => ⟨rfl, E2⟩) fun h0 => ?_
  subst h0
  obtain ⟨hw, rfl⟩ := textH_zero h
  have hg := good_of h.symm
  have hsz := text_size hg
  obtain ⟨n0, n1, hcol⟩ := whyH_zero hw
  have hL0 : ∀ i, i < L.length → ∃ o : Hi, L[i]? = some o ∧ L.getD i (0, 0, 0) = o ∧ (0 ≤ o.1 ∧ o.1 ≤ 1048576) ∧ (0 ≤ o.2.1 ∧ o.2.1 ≤ 1048576) ∧ (0 ≤ o.2.2 ∧ o.2.2 ≤ 1048576) := fun i hi' => by
    have g0 := hcol 0 i hi'
    have g1 := hcol 1 i hi'
    have g2 := hcol 2 i hi'
    rw [getD_eq hi'] at g0 g1 g2
    exact ⟨L[i], List.getElem?_eq_getElem hi', getD_eq hi', g0, g1, g2⟩
  obtain ⟨w3, hrun, hw3⟩ := elHi.make (zs := hrow (0, 0, 0)) rfl w2 L.length (by omega) (by omega)
  refine ⟨_, w3, hrun, ?_⟩
  have hrep : (List.replicate L.length (hrow (0, 0, 0))).flatten = (List.replicate L.length ((0, 0, 0) : Hi)).flatMap hrow := by
    rw [List.flatMap_def, List.map_replicate]
  have H3 : Hn w2 w3 [(w2.heap.size, (List.replicate L.length ((0, 0, 0) : Hi)).flatMap hrow, 70)] := by
    rw [hw3, hrep]
    exact ((Hn.start w2).keep ((Ext.refl _ _).alloc _)).push (Blk.new _ _ _) (Nat.le_refl _) (by simp)
  refine ⟨fun m st w4 => ∃ i : Nat, st = (i : Int) ∧ i ≤ L.length ∧ m = L.length - i ∧ ∃ M : List Hi, M.length = L.length ∧ (∀ j, j < i → M.getD j (0, 0, 0) = mvH a b c (L.getD j (0, 0, 0))) ∧ Hn w2 w4 [(w2.heap.size, M.flatMap hrow, 70)], L.length, ⟨0, rfl, by omega, rfl, _, by simp, fun j hj => by omega, H3⟩, ?_⟩
  rintro m st w4 ⟨i, rfl, hi', rfl, M, hM, hMj, H⟩
  unfold S11L1
  rw [hv.1]
  refine Br.dec (fun q => ⟨by omega, by omega, ?_⟩) fun q => ?_
  · have hlt : i < L.length := by omega
    obtain ⟨o, ho, hod, hr0, hr1, hr2⟩ := hL0 i hlt
    obtain ⟨p, hp, k0, k1, k2⟩ := ((hv.keep E2).keep H.ext).get ho
    rw [hp, Int.toNat_natCast]
    refine Nn.of (Ld.mk k0 (Ld.mk k1 (Ld.mk k2 ?_)))
    refine H.nw fun w5 H => ?_
    simp only [List.cons_append, List.nil_append] at H
    iterate 3 (refine H.st 1 rfl (by simp) fun _ H => ?_; simp only [List.nil_append, List.cons_append, List.set_cons_zero, List.set_cons_succ, Nat.zero_add] at H)
    iterate 3 refine H.ld 1 rfl rfl ?_
    refine ⟨by omega, by omega, Nn.of ?_⟩
    simp only [add_lit, Int.toNat_natCast, Nat.zero_add, Nat.add_zero, Nat.add_assoc, Nat.reduceAdd]
    refine H.st 0 rfl (by rw [h_len]; omega) fun w9 H => ?_
    simp only [List.set_cons_zero] at H
    refine H.st 0 rfl (by rw [List.length_set, h_len]; omega) fun w10 H => ?_
    simp only [List.set_cons_zero] at H
    refine H.st 0 rfl (by rw [List.length_set, List.length_set, h_len]; omega) fun w11 H => ?_
    simp only [List.set_cons_zero] at H
    rw [rows_set3 _ _ _ M i (by omega)] at H
    refine ⟨L.length - (i + 1), by omega, i + 1, by rw [i64_id (by omega)]; rfl, by omega, rfl, M.set i (mvH a b c o), by simp [hM], fun j hj => ?_, H.left (L := [_]) (M := [_])⟩
    rw [List.getD_eq_getElem?_getD, List.getElem?_set]
    by_cases hji : i = j
    · subst hji
      rw [if_pos rfl, if_pos (by omega), hod]
      rfl
    · rw [if_neg hji, ← List.getD_eq_getElem?_getD]
      exact hMj j (by omega)
  have hiL : i = L.length := by omega
  subst hiL
  have hMv : HV w4 ⟨some ⟨w2.heap.size, 0, none⟩, L.length, L.length⟩ M := hv_blk (H.get 0 rfl) hM.symm
  have E4 := E2.tr H.ext
  refine (c_text hMv).mono ?_
  rintro t no w5 ⟨ht, e5⟩
  have E5 := E4.tr e5
  refine ⟨fun _ w6 => Ext (fun _ => False) w w6, ?_, ?_⟩
  case refine_2 =>
    refine Br.eq (fun hno => ?_) fun _ => E5.drew
    subst hno
    obtain ⟨hwM, rfl⟩ := textH_zero ht
    obtain ⟨P, Q, X, p1, p2, p3, p4⟩ := moved_bytes hw hwM hM fun c' => by
      refine ⟨col (a, b, c) c', fun i hi' => ?_⟩
      obtain ⟨o, ho, hod, hr0, hr1, hr2⟩ := hL0 i hi'
      rw [hMj i hi', hod]
      unfold mvH
      rw [i64_id (by omega), i64_id (by omega), i64_id (by omega)]
      unfold col
      split
      · rfl
      · split <;> rfl
    have hsz1 : (bytesH M).size = (bytesH L).size := by
      rw [p3, p4]
      show (Q ++ X).toArray.size = (P ++ X).toArray.size
      simp [p1, p2]
    have hh := hg.head
    refine Br.ne (fun hne => absurd (by rw [hsz1]) hne) fun _ => ⟨by omega, by omega, by omega, by omega, Lt.of (Br.f ?_ E5.drew)⟩
    rw [ByteArray.toList_eq, ByteArray.toList_eq, show ((16 : Int)).toNat = 16 by rfl, extract_drop, extract_drop, p3, p4]
    show (!((Q ++ X).drop 16 == (P ++ X).drop 16)) = false
    rw [List.drop_append_of_le_length (by omega), List.drop_append_of_le_length (by omega), List.drop_eq_nil_of_le (by omega), List.drop_eq_nil_of_le (by omega)]
    simp
  rintro _ w6 e6
  unfold S11J2
  have hmod : ∃ j : Nat, Int.tmod n ((L.length : Nat) : Int) = (j : Int) ∧ j < L.length := by
    rw [tmod_id (by omega)]
    have h1 := Int.emod_nonneg n (b := (L.length : Int)) (by omega)
    have h2 := Int.emod_lt_of_pos n (b := (L.length : Int)) (by omega)
    exact ⟨(n % (L.length : Int)).toNat, by omega, by omega⟩
  obtain ⟨j, hj, hjL⟩ := hmod
  rw [hv.1]
  simp only [hj, Int.toNat_natCast]
  obtain ⟨o, ho, hod, hr0, hr1, hr2⟩ := hL0 j hjL
  obtain ⟨m1, m2, m3, m4⟩ := more_size hw hjL (by omega)
  rw [hod] at m1 m2 m3 m4
  have htN : textH (L ++ [o]) = (bytesH (L ++ [o]), 0) := by
    unfold textH
    rw [if_pos m1]
    rfl
  have hgN : Good (bytesH (L ++ [o])) (L ++ [o]) := good_of htN
  have hszN := text_size hgN
  rw [List.length_append, show [o].length = 1 by rfl] at hszN
  obtain ⟨q0, q1, q2, q3⟩ := wide_bytes hw
  refine ⟨fun x w7 => x = (bytesH (L ++ [o]), 0) ∧ Ext (fun _ => False) w w7, ?_, ?_⟩
  case refine_1 =>
    rintro _ w7 ⟨rfl, e7⟩
    unfold S11J1
    have t0 := byt_bd (bytesH L) 16
    have t1 := byt_bd (bytesH L) 17
    have t2 := byt_bd (bytesH L) 18
    have t3 := byt_bd (bytesH L) 19
    have t4 := byt_bd (bytesH L) 20
    have t5 := byt_bd (bytesH L) 21
    have hb : ∀ k : Nat, bAt (bytesH L) (k : Int) = byt (bytesH L) k := bAt_byt (bytesH L)
    have h16 := hb 16
    have h17 := hb 17
    have h18 := hb 18
    have h19 := hb 19
    have h20 := hb 20
    have h21 := hb 21
    simp only [Int.cast_ofNat_Int] at h16 h17 h18 h19 h20 h21
    rw [h16, h17, h18, h19, h20, h21]
    refine Lt.of ⟨by omega, by omega, by omega, by omega, Lt.of ⟨by omega, by omega, by omega, by omega, Lt.of ⟨by omega, by omega, by omega, by omega, Lt.of ?_⟩⟩⟩
    dsimp only
    have f1 : IntKind.i64.wrap (IntKind.i64.wrap (256 * IntKind.i64.wrap (byt (bytesH L) 16)) + IntKind.i64.wrap (byt (bytesH L) 17)) = wd L 0 := by
      rw [i64_id (n := byt (bytesH L) 16) (by omega), i64_id (n := byt (bytesH L) 17) (by omega), i64_id (n := 256 * byt (bytesH L) 16) (by omega), i64_id (by omega)]; exact q1
    have f2 : IntKind.i64.wrap (IntKind.i64.wrap (wd L 0 + IntKind.i64.wrap (256 * IntKind.i64.wrap (byt (bytesH L) 18))) + IntKind.i64.wrap (byt (bytesH L) 19)) = wd L 0 + wd L 1 := by
      rw [i64_id (n := byt (bytesH L) 18) (by omega), i64_id (n := byt (bytesH L) 19) (by omega), i64_id (n := 256 * byt (bytesH L) 18) (by omega), i64_id (n := wd L 0 + _) (by omega), i64_id (by omega)]; omega
    have f3 : IntKind.i64.wrap (IntKind.i64.wrap (wd L 0 + wd L 1 + IntKind.i64.wrap (256 * IntKind.i64.wrap (byt (bytesH L) 20))) + IntKind.i64.wrap (byt (bytesH L) 21)) = wd L 0 + wd L 1 + wd L 2 := by
      rw [i64_id (n := byt (bytesH L) 20) (by omega), i64_id (n := byt (bytesH L) 21) (by omega), i64_id (n := 256 * byt (bytesH L) 20) (by omega), i64_id (n := wd L 0 + wd L 1 + _) (by omega), i64_id (by omega)]; omega
    have f4 : IntKind.i64.wrap (IntKind.i64.wrap (8 * (((bytesH (L ++ [o])).size : Nat) : Int)) - IntKind.i64.wrap (8 * (((bytesH L).size : Nat) : Int))) = 8 * (((bytesH (L ++ [o])).size : Nat) : Int) - 8 * (((bytesH L).size : Nat) : Int) := by
      rw [i64_id (n := 8 * (((bytesH (L ++ [o])).size : Nat) : Int)) (by omega), i64_id (n := 8 * (((bytesH L).size : Nat) : Int)) (by omega), i64_id (by omega)]
    rw [f1, f2, f3, f4, i64_id (n := wd L 0 + wd L 1 + wd L 2 + 21) (by omega)]
    refine Br.t rfl (Br.t (by simp; omega) (Br.t (by simp; omega) (Br.ne (fun _ => ⟨rfl, e7.drew⟩) fun hz => ⟨?_, e7.drew⟩)))
    have := m4 hz
    simp
    omega
  obtain ⟨p, hp, k0, k1, k2⟩ := hv.get ho
  rw [hp]
  have own : ∀ {g : Nat} {j : Nat}, (⟨some ⟨g, 0, none⟩, 0, 0⟩ : Slc).own j → j = g := fun {g j} h => by
    obtain ⟨x, hx, rfl⟩ := h
    cases hx
    rfl
  have e6s := e6.size
  refine ⟨fun w7 => Ext (fun _ => False) w w7, e6.drew, by omega, by omega, by omega, Nn.of (LdS.mk (fun w7 e7 => e7.cell_same k0) (LdS.mk (fun w7 e7 => e7.cell_same k1) (LdS.mk (fun w7 e7 => e7.cell_same k2) ⟨Nw.of ⟨e6.drew.alloc _, ?_, ?_⟩, Nw.of ?_⟩)))⟩
  · have e7 : Ext (fun _ => False) w (w6.drew.alloc (.cells #[] 70)) := e6.drew.alloc _
    obtain ⟨s1, w8, r1, R1, l1, E8, o1⟩ := app_a (ty := 59) (Row.new w6.drew #[] 70 3 0 rfl) rfl (hv.keep e7) (by omega)
    have e8 : Ext (fun _ => False) w w8 := e7.trans E8 (fun _ h => h) fun i hi h => by have h : i = w6.heap.size := own h; omega
    have h7 : w6.heap.size ≤ (w6.drew.alloc (.cells #[] 70)).heap.size := ((Ext.refl (fun _ => False) w6).drew.alloc _).size
    refine ⟨s1, w8, r1, e8, Nw.of ?_⟩
    have o8 : ∀ j, s1.own j → w.heap.size ≤ j := fun j hj => by
      rcases o1 j hj with h | h
      · have h : j = w6.heap.size := own h; omega
      · omega
    obtain ⟨s2, w10, r2, H2, E10⟩ := app_b (ty := 59) (o := o) (R1.keep ((Ext.refl (fun _ => False) w8).alloc (.cells (hrow o).toArray 70)) fun _ _ h => h) l1 (Blk.new w8 _ _) (by omega)
    refine ⟨s2, w10, r2, (c_text H2).mono ?_⟩
    rintro u no w11 ⟨hu, e11⟩
    exact ⟨hu.trans htN, ((e8.alloc _).trans E10 (fun _ h => h) fun i hi h => by have := o8 i h; omega).tr e11⟩
  · have hrow7 := Row.new w6.drew #[] 70 3 0 rfl
    have e7 : Ext (fun _ => False) w (w6.drew.alloc (.cells #[] 70)) := e6.drew.alloc _
    have e8 : Ext (fun _ => False) w ((w6.drew.alloc (.cells #[] 70)).alloc (.cells (hrow o).toArray 70)) := e7.alloc _
    have hb8 := Blk.new (w6.drew.alloc (.cells #[] 70)) (hrow o).toArray 70
    refine Nw.of ?_
    obtain ⟨s1, w9, r1, R1, l1, E9, o1⟩ := app_a (ty := 59) (hrow7.keep ((Ext.refl (fun _ => False) _).alloc (.cells (hrow o).toArray 70)) fun _ _ h => h) rfl (hv.keep e8) (by omega)
    have h8 := e8.size
    have e9 : Ext (fun _ => False) w w9 := e8.trans E9 (fun _ h => h) fun i hi h => by have h : i = w6.heap.size := own h; omega
    refine ⟨s1, w9, r1, ?_⟩
    have o9 : ∀ j, s1.own j → w.heap.size ≤ j := fun j hj => by
      rcases o1 j hj with h | h
      · have h : j = w6.heap.size := own h; omega
      · omega
    obtain ⟨s2, w10, r2, H2, E10⟩ := app_b (ty := 59) (o := o) R1 l1 (E9.blk hb8 fun h => by have := hrow7.own_lt h; omega) (by omega)
    refine ⟨s2, w10, r2, (c_text H2).mono ?_⟩
    rintro u no w11 ⟨hu, e11⟩
    exact ⟨hu.trans htN, (e9.trans E10 (fun _ h => h) fun i hi h => by have := o9 i h; omega).tr e11⟩
  · have e7 : Ext (fun _ => False) w (w6.drew.alloc (.cells (hrow o).toArray 70)) := e6.drew.alloc _
    have hb7 := Blk.new w6.drew (hrow o).toArray 70
    have e8 : Ext (fun _ => False) w ((w6.drew.alloc (.cells (hrow o).toArray 70)).alloc (.cells #[] 70)) := e7.alloc _
    refine Nw.of ?_
    obtain ⟨s1, w9, r1, R1, l1, E9, o1⟩ := app_a (ty := 59) (Row.new (w6.drew.alloc (.cells (hrow o).toArray 70)) #[] 70 3 0 rfl) rfl (hv.keep e8) (by omega)
    have h7 := e7.size
    have h8 := e8.size
    have hlt := hb7.lt
    have e9 : Ext (fun _ => False) w w9 := e8.trans E9 (fun _ h => h) fun i hi h => by have h := own h; omega
    refine ⟨s1, w9, r1, ?_⟩
    have o9 : ∀ j, s1.own j → w.heap.size ≤ j := fun j hj => by
      rcases o1 j hj with h | h
      · have h := own h; omega
      · omega
    obtain ⟨s2, w10, r2, H2, E10⟩ := app_b (ty := 59) (o := o) R1 l1 (E9.blk (hb7.alloc _) fun h => by have h := own h; omega) (by omega)
    refine ⟨s2, w10, r2, (c_text H2).mono ?_⟩
    rintro u no w11 ⟨hu, e11⟩
    exact ⟨hu.trans htN, (e9.trans E10 (fun _ h => h) fun i hi h => by have := o9 i h; omega).tr e11⟩
end Hint
end Go.Proofs.Ytjlaijhmnlkpiaa
