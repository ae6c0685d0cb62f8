/- Inflate: the program's block and All. Conditions: sizes, the laid variables. -/
import Derived.Test.YtapgacggllbhiaaDoorInK
namespace Go.Proofs.YtapgacggllbhiaaDoor
namespace Inf
open Sh Bit
set_option linter.unusedVariables false
set_option linter.unusedSimpArgs false
set_option maxRecDepth 4000
set_option maxHeartbeats 2000000
def blkF (s : ByteArray) (most : Nat) (out : List UInt8) (p : Nat) : Except Int (Int × List UInt8 × Nat) := match num s p 1 with
  | .error e => .error e
  | .ok (last, p1) => match num s p1 2 with
    | .error e => .error e
    | .ok (kind, p2) => match block s most kind out p2 with
      | .error e => .error e
      | .ok (o, q) => .ok (last, o, q)
theorem blkF_ok {s : ByteArray} {most p q : Nat} {out o : List UInt8} {last : Int} (hm : out.length ≤ most) (h : blkF s most out p = .ok (last, o, q)) : p < q ∧ q ≤ 8 * s.size ∧ o.length ≤ most := by
  unfold blkF at h
  split at h
  · cases h
  · rename_i l p1 h1
    obtain ⟨a1, a2, a3, a4⟩ := num_bd h1
    split at h
    · cases h
    · rename_i k p2 h2
      obtain ⟨b1, b2, b3, b4⟩ := num_bd h2
      split at h
      · cases h
      · rename_i o2 q2 h3
        cases h
        obtain ⟨c1, c2, c3⟩ := block_ok b4 hm h3
        exact ⟨by omega, c2, c3⟩
theorem allF_blk (s : ByteArray) (most k : Nat) (out : List UInt8) (p : Nat) : allF s most (k + 1) out p = match blkF s most out p with
    | .error e => .error e
    | .ok (last, o, q) => if last = 1 then .ok (o, (q + 7) / 8) else allF s most k o q := by
  conv => lhs; unfold allF
  unfold blkF
  cases num s p 1 with
  | error e => rfl
  | ok x =>
    obtain ⟨last, p1⟩ := x
    dsimp only
    cases num s p1 2 with
    | error e => rfl
    | ok y =>
      obtain ⟨kind, p2⟩ := y
      dsimp only
      cases block s most kind out p2 with
      | error e => rfl
      | ok z => rfl
attribute [local irreducible] Ld St Nw Nn Lt LdS
section
variable {w : World} {fb rb N : Nat} {o : Slc} {s : ByteArray} {out : List UInt8} {p most : Nat}
theorem c_block (h : FS w fb rb o s out p most) (hs : s.size ≤ 1000000) (hL : Laid N w) (hN : Low N fb rb o) : C29 (some (⟨fb, 0, none⟩ : Addr)) w
    (fun b w1 => ∃ last o1 out1 q, blkF s most out p = .ok (last, out1, q) ∧ b = (last == 1) ∧ FS w1 fb rb o1 s out1 q most ∧ Mv fb rb w w1 o o1) (ErR fb rb w o (blkF s most out p)) := by
  refine T29 _ _ _ _ ?_
  unfold S29
  generalize hR : blkF s most out p = R0
  unfold blkF at hR
  refine (c_bits (n := 1) (by omega) h hs).mono ?_ ?_
  rotate_left
  · rintro v w1 ⟨hn, rfl, e1⟩
    rw [hn] at hR
    exact ⟨4, hR.symm, rfl, (Mv.rd e1).ext⟩
  rintro last w1 ⟨p1, hn1, H1, e1⟩
  rw [hn1] at hR
  dsimp only at hR
  refine (c_bits (n := 2) (by omega) H1 hs).mono ?_ ?_
  rotate_left
  · rintro v w2 ⟨hn, rfl, e2⟩
    rw [hn] at hR
    exact ⟨4, hR.symm, rfl, (Mv.rd (e1.tr e2)).ext⟩
  rintro kind w2 ⟨p2, hn2, H2, e2⟩
  rw [hn2] at hR
  dsimp only at hR
  obtain ⟨a0, a1, a2, a3⟩ := num_bd hn2
  have h4 : (2 : Int) ^ 2 = 4 := by decide
  have E2 := e1.tr e2
  have m2 : Mv fb rb w w2 o o := .rd E2
  have hL2 := hL.mv hN m2.ext
  have ok : ∀ {r : Except Int (List UInt8 × Nat)} {w3 : World}, block s most kind out p2 = r → OkR fb rb w2 o s most r w3 → ∃ l o1 out1 q, R0 = .ok (l, out1, q) ∧ (last == 1) = (l == 1) ∧ FS w3 fb rb o1 s out1 q most ∧ Mv fb rb w w3 o o1 := fun hb ⟨o1, out1, q, g1, g2, g3⟩ => by
    rw [hb, g1] at hR
    exact ⟨last, o1, out1, q, hR.symm, rfl, g2, m2.tr g3⟩
  have er : ∀ {r : Except Int (List UInt8 × Nat)} {v : Value} {w3 : World}, block s most kind out p2 = r → ErR fb rb w2 o r v w3 → ErR fb rb w o R0 v w3 := fun hb ⟨e, g1, g2, g3⟩ => by
    rw [hb, g1] at hR
    exact ⟨e, hR.symm, g2, m2.er g3⟩
  refine Br.eq (fun q0 => ?_) fun q0 => Br.eq (fun q1 => ?_) fun q1 => Br.eq (fun q2 => ?_) fun q2 => ?_
  · have hb : block s most kind out p2 = stored s p2 out most := by unfold block; rw [if_neg (by omega), if_pos q0]
    exact (c_stored H2 hs).mono (fun w3 g => ok hb g) fun v w3 g => er hb g
  · have hb : block s most kind out p2 = signsF s fixL fixD most (8 * s.size + 1) out p2 := by unfold block; rw [if_neg (by omega), if_neg q0, if_neg (by omega)]
    exact (c_fixed H2 hs).mono (fun w3 g => ok hb g) fun v w3 g => er hb g
  · have hb : block s most kind out p2 = dynR s most out p2 := by unfold block; rw [if_neg (by omega), if_neg q0, if_pos q2]; rfl
    exact (c_dynamic H2 hs hL2 hN).mono (fun w3 g => ok hb g) fun v w3 g => er hb g
  · have hb : block s most kind out p2 = .error 3 := by unfold block; rw [if_pos (by omega)]
    refine (c_need false 3 w2).mono (fun w3 g => absurd g.1 (by decide)) ?_
    rintro v w3 ⟨rfl, _, rfl⟩
    exact er hb ⟨3, rfl, rfl, Ext.refl _ _⟩
theorem c_d26 {w0 w : World} {b1 b2 b3 : Nat} {t1 t2 t3 : TypeId} {v1 v2 v3 : Value} (H : Hn w0 w [(b1, [v1], t1), (b2, [v2], t2), (b3, [v3], t3)]) (e : Int) :
    CD26 (⟨b1, 0, none⟩ : Addr) (⟨b2, 0, none⟩ : Addr) (⟨b3, 0, none⟩ : Addr) (some (gup e)) w fun w1 => Hn w0 w1 [(b1, [.string ⟨#[]⟩], t1), (b2, [.int .i64 0], t2), (b3, [.int .i64 e], t3)] := by
  refine T26_T50 _ _ _ _ _ _ ?_
  unfold S26_T50
  refine H.nw fun w2 H => ?_
  simp only [List.cons_append, List.nil_append] at H
  iterate 1 (refine H.st 3 rfl (by simp) fun _ H => ?_; simp only [List.nil_append, List.cons_append, List.set_cons_zero, List.set_cons_succ, Nat.zero_add] at H)
  have hne : ∀ b v t i, i < 3 → ([(b1, [v1], t1), (b2, [v2], t2), (b3, [v3], t3), (w.heap.size, [.int .i64 e], 50)] : List (Nat × List Value × TypeId))[i]? = some (b, v, t) → b ≠ w.heap.size := fun b v t i hi hg e => by
    have hn := H.h.nodup
    have := nodup_get hn (i := i) (j := 3) (x := w.heap.size) (by
      rw [arr_fst, List.getElem?_map, hg, Option.map_some, e]) rfl
    omega
  have n1 := hne b1 _ _ 0 (by omega) rfl
  have n2 := hne b2 _ _ 1 (by omega) rfl
  refine ⟨fun w' => Blk w' w.heap.size #[.int .i64 e] 50, (H.get 3 rfl).drew, LdS.of (fun w' h => h) (o := 0) (x := e) rfl ?_⟩
  have H := H.drew
  refine H.st' 0 rfl (by simp) fun w5 H he5 => ?_
  simp only [List.set_cons_zero, List.set_cons_succ] at H
  refine ⟨H.get 3 rfl, ?_⟩
  refine H.st' 1 rfl (by simp) fun w6 H he6 => ?_
  simp only [List.set_cons_zero, List.set_cons_succ] at H
  refine ⟨H.get 3 rfl, ?_⟩
  iterate 1 (refine H.st 2 rfl (by simp) fun _ H => ?_; simp only [List.nil_append, List.cons_append, List.set_cons_zero, List.set_cons_succ, Nat.zero_add] at H)
  exact H.left (L := [_, _, _]) (M := [_])
theorem c_All (hs : s.size ≤ 1000000) (hL : Laid N w) (m : Int) : C9 s m w fun d n e w1 => (d, n, e) = allR s m ∧ Ext (fun _ => False) w w1 := by
  refine T9 _ _ _ _ ?_
  unfold S9
  have hLL := hL
  obtain ⟨hN2, hNw, _⟩ := hL
  refine (Hn.start w).nw fun w2 H => H.nw fun w3 H => H.nw fun w4 H => ?_
  simp only [List.cons_append, List.nil_append] at H
  have bad : ∀ {w5 : World} {v1 v2 v3 : Value} {e : Int}, Hn w w5 [(w.heap.size, [v1], 9), (w2.heap.size, [v2], 3), (w3.heap.size, [v3], 23)] → (⟨#[]⟩, 0, e) = allR s m → S9P w w2 w3 (fun d n e w1 => (d, n, e) = allR s m ∧ Ext (fun _ => False) w w1) (gup e) w5 := fun {w5 v1 v2 v3 e} H hn => by
    unfold S9P
    refine (c_d26 H e).mono fun w6 H => ?_
    refine H.ld 0 rfl rfl (H.ld 1 rfl rfl (H.ld 2 rfl rfl ⟨hn, H.ext⟩))
  refine (c_need _ 1 _).mono ?_ ?_
  rotate_left
  · rintro v w4 ⟨rfl, h1, rfl⟩
    have h1 := of_decide_eq_false h1
    refine bad H ?_
    unfold allR
    rw [if_pos (by omega)]
  rintro w4 ⟨h1, rfl⟩
  have h1 := of_decide_eq_true h1
  have z1 := H.size
  have z4 : w.heap.size < w4.heap.size ∧ w2.heap.size < w4.heap.size ∧ w3.heap.size < w4.heap.size := ⟨H.lt 0 rfl, H.lt 1 rfl, H.lt 2 rfl⟩
  refine (c_from w4 s).mono ?_
  rintro r w5 ⟨rfl, hr5, e5⟩
  have H := H.keep e5
  have zz : w.heap.size < w5.heap.size ∧ w2.heap.size < w5.heap.size ∧ w3.heap.size < w5.heap.size := ⟨H.lt 0 rfl, H.lt 1 rfl, H.lt 2 rfl⟩
  have zrb := Blk.lt hr5
  have ge1 := H.ge 1 rfl
  have ge2 := H.ge 2 rfl
  have hw5 := H.size
  refine H.nw' fun w6 H6 e6 => ?_
  simp only [List.cons_append, List.nil_append] at H6
  have z6 := H6.lt 3 rfl
  have hmost : (if 1048576 < m then (1048576 : Int) else m) = (((min m 1048576).toNat : Nat) : Int) := by
    split <;> omega
  have hmb : (min m 1048576).toNat ≤ 1048576 := by omega
  have hall : allR s m = match allF s (min m 1048576).toNat (8 * s.size + 1) [] 0 with
      | .error e => (⟨#[]⟩, 0, e)
      | .ok (o, n) => (⟨o.toArray⟩, (n : Int), 0) := by
    unfold allR
    rw [if_neg (by omega)]
    cases allF s (min m 1048576).toNat (8 * s.size + 1) [] 0 <;> rfl
  generalize (min m 1048576).toNat = mm at *
  have nown : ∀ j, ¬ (⟨none, 0, 0⟩ : Slc).own j := fun j hj => by obtain ⟨a, ha, _⟩ := hj; cases ha
  have F6 : FS w6 w5.heap.size w4.heap.size ⟨none, 0, 0⟩ s [] 0 mm := by
    refine ⟨?_, ⟨Nat.zero_le _, 0, .inl rfl, e6.blk hr5 fun h => h⟩, BRow.nil _, by omega, nown _, nown _, Nat.zero_le _, hmb⟩
    have := H6.get 3 rfl
    rw [hmost] at this
    exact this
  have HH := H6.left (L := [_, _, _]) (M := [_])
  have hL6 : Laid N w6 := by
    refine Laid.keep (w := w) (F := fun _ => False) ?_ H6.ext fun j h => h.elim
    exact hLL
  have hN6 : Low N w5.heap.size w4.heap.size ⟨none, 0, 0⟩ := ⟨by omega, by omega, fun j hj => absurd hj (nown j)⟩
  generalize hRR : allF s mm (8 * s.size + 1) [] 0 = R0 at hall
  refine ⟨fun n st w7 => ∃ out1 o1 q, FS w7 w5.heap.size w4.heap.size o1 s out1 q mm ∧ Mv w5.heap.size w4.heap.size w6 w7 ⟨none, 0, 0⟩ o1 ∧ 8 * s.size < q + n ∧ allF s mm n out1 q = R0, 8 * s.size + 1, ⟨[], ⟨none, 0, 0⟩, 0, F6, .refl, by omega, hRR⟩, ?_⟩
  rintro n st w7 ⟨out1, o1, q, F7, m7, hfu, hres⟩
  unfold S9L1
  have hq7 := F7.rd.1
  obtain ⟨n, rfl⟩ : ∃ n', n = n' + 1 := ⟨n - 1, by omega⟩
  rw [allF_blk] at hres
  have hXF : ∀ {w8 : World} {o8 : Slc}, Mv w5.heap.size w4.heap.size w6 w8 ⟨none, 0, 0⟩ o8 → Hn w w8 [(w.heap.size, [.string ⟨#[]⟩], 9), (w2.heap.size, [.int .i64 0], 3), (w3.heap.size, [.int .i64 0], 23)] := fun {w8 o8} mv => HH.other mv.ext fun j hj => by
    rcases hj with e | e | e
    · refine ⟨by omega, ?_⟩
      simp only [List.map_cons, List.map_nil, List.mem_cons, List.not_mem_nil, or_false]
      omega
    · refine ⟨by omega, ?_⟩
      simp only [List.map_cons, List.map_nil, List.mem_cons, List.not_mem_nil, or_false]
      omega
    · exact absurd e (nown j)
  have hNw6 := H6.size
  refine (c_block F7 hs (hL6.mv hN6 m7.ext) (hN6.mv m7 (by omega))).mono ?_ ?_
  rotate_left
  · rintro v w8 ⟨e, hb, rfl, hx⟩
    rw [hb] at hres
    refine bad (hXF (m7.tr (.of hx))) ?_
    rw [hall, ← hres]
  rintro b w8 ⟨last, o2, out2, q2, hb, rfl, F8, m8⟩
  rw [hb] at hres
  dsimp only at hres
  obtain ⟨c1, c2, c3⟩ := blkF_ok F7.len hb
  have M8 := m7.tr m8
  by_cases hlast : last = 1
  · subst hlast
    rw [if_pos rfl] at hres
    refine Br.f rfl ?_
    have H := (hXF M8).drew
    have F8 := F8.keep (Ext.refl _ _).drew
    obtain ⟨hp8, way8, hw8, hrd8⟩ := F8.rd
    have hfin : (⟨out2.toArray⟩, (((q2 + 7) / 8 : Nat) : Int), 0) = allR s m := by rw [hall, ← hres]
    have hst := str_row F8.row
    refine ⟨fun w' => Blk w' w5.heap.size (fcells w4.heap.size o2 mm) 56, F8.blk, Nn.of ?_⟩
    simp only [add_lit, Nat.zero_add]
    refine LdS.of (fun w' h => h) (o := 1) (x := o2) rfl (Nn.of (LdS.of (fun w' h => h) (o := 0) (x := at0 w4.heap.size) rfl ⟨⟨_, _, hst, F8.blk, ?_⟩, ?_⟩))
    · refine (c_at hrd8 hp8 hs).mono ?_
      rintro x w9 ⟨rfl, rfl⟩
      refine ⟨F8.blk, ?_⟩
      iterate 1 (refine H.st 0 rfl (by simp) fun _ H => ?_; simp only [List.nil_append, List.cons_append, List.set_cons_zero, List.set_cons_succ, Nat.zero_add] at H)
      iterate 1 (refine H.st 1 rfl (by simp) fun _ H => ?_; simp only [List.nil_append, List.cons_append, List.set_cons_zero, List.set_cons_succ, Nat.zero_add] at H)
      iterate 1 (refine H.st 2 rfl (by simp) fun _ H => ?_; simp only [List.nil_append, List.cons_append, List.set_cons_zero, List.set_cons_succ, Nat.zero_add] at H)
      refine T26_nil _ _ _ _ _ ?_
      unfold S26_nil
      iterate 1 refine H.ld 0 rfl rfl ?_
      iterate 1 refine H.ld 1 rfl rfl ?_
      iterate 1 refine H.ld 2 rfl rfl ?_
      exact ⟨hfin, H.ext⟩
    · refine (c_at hrd8 hp8 hs).mono ?_
      rintro x w9 ⟨rfl, rfl⟩
      refine ⟨F8.blk, _, _, hst, F8.blk, ?_⟩
      iterate 1 (refine H.st 0 rfl (by simp) fun _ H => ?_; simp only [List.nil_append, List.cons_append, List.set_cons_zero, List.set_cons_succ, Nat.zero_add] at H)
      iterate 1 (refine H.st 1 rfl (by simp) fun _ H => ?_; simp only [List.nil_append, List.cons_append, List.set_cons_zero, List.set_cons_succ, Nat.zero_add] at H)
      iterate 1 (refine H.st 2 rfl (by simp) fun _ H => ?_; simp only [List.nil_append, List.cons_append, List.set_cons_zero, List.set_cons_succ, Nat.zero_add] at H)
      refine T26_nil _ _ _ _ _ ?_
      unfold S26_nil
      iterate 1 refine H.ld 0 rfl rfl ?_
      iterate 1 refine H.ld 1 rfl rfl ?_
      iterate 1 refine H.ld 2 rfl rfl ?_
      exact ⟨hfin, H.ext⟩
  · rw [if_neg hlast] at hres
    refine Br.t (by simp [hlast]) ?_
    exact ⟨n, by omega, out2, o2, q2, F8, M8, by omega, hres⟩
end
end Inf
end Go.Proofs.YtapgacggllbhiaaDoor
