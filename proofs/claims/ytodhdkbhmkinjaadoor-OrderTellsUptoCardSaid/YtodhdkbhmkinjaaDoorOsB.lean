/- Reading order: white space; does a sign go on; the comparisons. Conditions: none but that numbers fit their kinds. -/
import Derived.Test.YtodhdkbhmkinjaaDoorOsA
namespace Go.Proofs.YtodhdkbhmkinjaaDoor
namespace Rdg
open Sh
set_option linter.unusedVariables false
set_option linter.unusedSimpArgs false
set_option maxRecDepth 4000
set_option maxHeartbeats 1000000
theorem dropW_nil (p : UInt8 → Bool) : ∀ l : List UInt8, l.dropWhile p = [] ↔ l.all p = true
  | [] => by simp
  | x :: l => by
    rw [List.dropWhile_cons]
    by_cases hx : p x = true
    · rw [if_pos hx, dropW_nil p l]; simp [hx]
    · rw [if_neg hx]; simp [hx]
theorem dropW_all (p : UInt8 → Bool) : ∀ l : List UInt8, (l.dropWhile p).all p = true ↔ l.all p = true
  | [] => by simp
  | x :: l => by
    rw [List.dropWhile_cons]
    by_cases hx : p x = true
    · rw [if_pos hx, dropW_all p l]; simp [hx]
    · rw [if_neg hx]
theorem trim_nil (l cs : List UInt8) : Lib.trimS l cs = [] ↔ l.all (cs.contains ·) = true := by
  unfold Lib.trimS Lib.trimLeftS Lib.trimRightS
  rw [dropW_nil, List.all_reverse, dropW_all, List.all_reverse]
theorem ws_has : (fun b : UInt8 => ([9, 10, 13, 32] : List UInt8).contains b) = isWs := by
  funext b
  unfold isWs
  simp only [List.contains_cons, List.contains_nil, Bool.or_false, Bool.or_assoc]
theorem ext_of_below {w w' : World} (h : Go.RowKit.Below w.heap.size w w') : Ext (fun _ => False) w w' := ⟨h.os, h.tape, h.output, h.size, fun k hk _ => h.block k hk⟩
/-- Sizes that Go's strings have. -/
abbrev Sz63 (s : ByteArray) : Prop := s.size ≤ 9223372036854775807
theorem c_Trim {s : ByteArray} (hs : Sz63 s) (w : World) : C58 s ⟨#[9, 10, 13, 32]⟩ w fun r w1 => r = ⟨(Lib.trimS s.data.toList [9, 10, 13, 32]).toArray⟩ ∧ Ext (fun _ => False) w w1 :=
  (Tryd.strings_Trim s ⟨#[9, 10, 13, 32]⟩ w hs (by decide) (ascii_of_all (by decide))).mono fun e w' ⟨he, hb⟩ => ⟨_, he, rfl, ext_of_below hb⟩
attribute [local irreducible] Ld St Nw Nn Lt LdS
theorem c_blank {x : Sg} (hs : Sz63 x.s) (w : World) : C46 (st x) w fun r w1 => r = x.blank ∧ Ext (fun _ => False) w w1 := by
  refine T46 (st x) _ _ ?_
  unfold S46
  refine (Hn.start w).nw fun w3 H => ?_
  have H : Hn w w3 [(w.heap.size, scells x, 61)] := H
  refine H.ld 0 rfl (x := x.s) rfl ?_
  refine (c_Trim hs w3).mono ?_
  rintro r w4 ⟨rfl, e4⟩
  refine ⟨?_, (H.keep e4).ext⟩
  rw [eqL]
  show decide ((Lib.trimS x.s.data.toList [9, 10, 13, 32]).toArray.toList = []) = x.blank
  rw [List.toList_toArray, Bool.eq_iff_iff, decide_eq_true_iff, trim_nil, ws_has]
  rfl
theorem c_goesOn {a b : Sg} (ha : Cl a) (hb : Cl b) (hs : Sz63 a.s) (w : World) : C47 (st a) (st b) w fun r w1 => r = goesOn a b ∧ Ext (fun _ => False) w w1 := by
  refine T47 (st a) (st b) _ _ ?_
  unfold S47
  refine (Hn.start w).nw fun w3 H => ?_
  refine H.nw fun w4 H => ?_
  have H : Hn w w4 [(w.heap.size, scells a, 61), (w3.heap.size, scells b, 61)] := H
  refine H.ld 1 rfl (x := b.fx) rfl (H.ld 0 rfl (x := a.tx) rfl ?_)
  refine ldSg H 0 rfl ?_
  refine (c_blank hs w4).mono ?_
  rintro r w9 ⟨rfl, e9⟩
  have H := H.keep e9
  have h1 := ha.hi
  have h2 := ha.tx
  have h3 := hb.fx
  have e : goesOn a b = (!a.blank && decide (b.fx - a.tx ≤ a.hi / 4) && decide (-a.hi ≤ b.fx - a.tx)) := rfl
  rw [e]
  cases hbl : a.blank with
  | true => exact Br.f rfl ⟨rfl, H.ext⟩
  | false =>
    refine Br.t rfl (H.ld 0 rfl (x := a.hi) rfl ?_)
    rw [i64_id (n := b.fx - a.tx) (by omega), tdiv_id (by omega), i64_id (n := a.hi / 4) (by omega)]
    refine Br.dec (fun q => ?_) fun q => ⟨by simp [q], H.ext⟩
    refine H.ld 0 rfl (x := a.hi) rfl ⟨?_, H.ext⟩
    rw [i64_id (by omega)]
    simp only [q, decide_true, Bool.not_false, Bool.true_and, decide_eq_decide]
    omega
/-! ### Comparisons -/
def cmp3 (x y : Int) : Int := if x < y then -1 else if y < x then 1 else 0
theorem c_cmp64 (x y : Int) (w : World) : C41 x y w fun r w1 => r = cmp3 x y ∧ w1 = w := by
  refine T41 _ _ _ _ ?_
  unfold S41
  have n : ∀ (z : Int) (w : World), C54 z w fun r w1 => r = false ∧ w1 = w := fun z w => T54 _ _ _ (by unfold S54; exact ⟨by simp, rfl⟩)
  refine (n x w).mono ?_
  rintro r w ⟨rfl, rfl⟩
  refine (n y w).mono ?_
  rintro r w ⟨rfl, rfl⟩
  unfold cmp3
  refine Br.f rfl (Br.f rfl (Br.dec (fun q => ⟨(if_pos q).symm, rfl⟩) fun q => Br.dec (fun q2 => ⟨by rw [if_neg q, if_pos (by omega)], rfl⟩) fun q2 => ⟨by rw [if_neg q, if_neg (by omega)], rfl⟩))
theorem c_cmpI (x y : Int) (w : World) : C45 x y w fun r w1 => r = cmp3 x y ∧ w1 = w := by
  refine T45 _ _ _ _ ?_
  unfold S45
  have n : ∀ (z : Int) (w : World), C57 z w fun r w1 => r = false ∧ w1 = w := fun z w => T57 _ _ _ (by unfold S57; exact ⟨by simp, rfl⟩)
  refine (n x w).mono ?_
  rintro r w ⟨rfl, rfl⟩
  refine (n y w).mono ?_
  rintro r w ⟨rfl, rfl⟩
  unfold cmp3
  refine Br.f rfl (Br.f rfl (Br.dec (fun q => ⟨(if_pos q).symm, rfl⟩) fun q => Br.dec (fun q2 => ⟨by rw [if_neg q, if_pos (by omega)], rfl⟩) fun q2 => ⟨by rw [if_neg q, if_neg (by omega)], rfl⟩))
theorem cmp3_neg (x y : Int) : cmp3 x y < 0 ↔ x < y := by
  unfold cmp3
  split
  · omega
  · split <;> omega
/-- By falling Y. -/
theorem c_cmpY (a b : Sg) (w : World) : C40 (st a) (st b) w fun r w1 => (r < 0 ↔ b.fy < a.fy) ∧ Ext (fun _ => False) w w1 := by
  refine T40 (st a) (st b) _ _ ?_
  unfold S40
  refine (Hn.start w).nw fun w3 H => ?_
  refine H.nw fun w4 H => ?_
  have H : Hn w w4 [(w.heap.size, scells a, 61), (w3.heap.size, scells b, 61)] := H
  refine H.ld 1 rfl (x := b.fy) rfl (H.ld 0 rfl (x := a.fy) rfl ?_)
  refine (c_cmp64 _ _ w4).mono ?_
  rintro r w5 ⟨rfl, rfl⟩
  exact ⟨cmp3_neg _ _, H.ext⟩
def orF (x y : Int) : Int := if x ≠ 0 then x else y
theorem c_or {x y : Int} {b : Nat} {w : World} (h : Blk w b #[.int .i64 x, .int .i64 y] 3) : C44 ⟨some ⟨b, 0, none⟩, 2, 2⟩ w fun r w1 => r = orF x y ∧ w1 = w := by
  refine T44 _ _ _ ?_
  unfold S44
  have H := Hn.start w
  refine ⟨fun n i w1 => w1 = w ∧ ((i = 0 ∧ n = 2) ∨ (i = 1 ∧ n = 1 ∧ x = 0) ∨ (i = 2 ∧ n = 0 ∧ x = 0 ∧ y = 0)), 2, ⟨rfl, .inl ⟨rfl, rfl⟩⟩, ?_⟩
  rintro n i w1 ⟨rfl, h3⟩
  unfold S44L1
  unfold orF
  rcases h3 with ⟨rfl, rfl⟩ | ⟨rfl, rfl, hx⟩ | ⟨rfl, rfl, hx, hy⟩
  · refine Br.t rfl ⟨by decide, of_decide_eq_true rfl, Nn.of ?_⟩
    refine Ld.of (x := x) h rfl ?_
    refine Br.ne (fun q => ⟨(if_pos q).symm, rfl⟩) fun q => ⟨1, by decide, rfl, .inr (.inl ⟨rfl, rfl, q⟩)⟩
  · refine Br.t rfl ⟨by decide, of_decide_eq_true rfl, Nn.of ?_⟩
    refine Ld.of (x := y) h rfl ?_
    rw [if_neg (fun k => k hx)]
    refine Br.ne (fun q => ⟨rfl, rfl⟩) fun q => ⟨0, by decide, rfl, .inr (.inr ⟨rfl, rfl, hx, q⟩)⟩
  · refine Br.f rfl ⟨?_, rfl⟩
    rw [if_neg (fun k => k hx), hy]
/-- By rising X, then by the place. -/
def cfX (a b : Sg) : Int := orF (cmp3 a.fx b.fx) (cmp3 (a.at' : Int) (b.at' : Int))
theorem cfX_neg (a b : Sg) : cfX a b < 0 ↔ ltX a b = true := by
  unfold cfX orF ltX cmp3
  simp only [decide_eq_true_eq]
  repeat' split
  all_goals omega
theorem c_cmpX (a b : Sg) (w : World) : C43 (st a) (st b) w fun r w1 => r = cfX a b ∧ Ext (fun _ => False) w w1 ∧ w.drawn ≤ w1.drawn := by
  refine T43 (st a) (st b) _ _ ?_
  unfold S43
  refine Nw.of (Nw.of ?_)
  have b0 : Blk ((w.alloc (.cells (scells a).toArray 61)).alloc (.cells (scells b).toArray 61)).drew w.heap.size (scells a).toArray 61 := ((Blk.new w _ _).alloc _).drew
  have b1 : Blk ((w.alloc (.cells (scells a).toArray 61)).alloc (.cells (scells b).toArray 61)).drew (w.alloc (.cells (scells a).toArray 61)).heap.size (scells b).toArray 61 := (Blk.new _ _ _).drew
  have e2 : Ext (fun _ => False) w ((w.alloc (.cells (scells a).toArray 61)).alloc (.cells (scells b).toArray 61)).drew := (((Ext.refl _ w).alloc _).alloc _).drew
  have d2 : w.drawn ≤ ((w.alloc (.cells (scells a).toArray 61)).alloc (.cells (scells b).toArray 61)).drew.drawn := Nat.le_succ _
  refine ⟨fun w' => Blk w' w.heap.size (scells a).toArray 61 ∧ Blk w' (w.alloc (.cells (scells a).toArray 61)).heap.size (scells b).toArray 61, ⟨b0, b1⟩, ?_⟩
  refine LdS.of (x := a.fx) (fun _ h => h.1) rfl (LdS.of (x := b.fx) (fun _ h => h.2) rfl (LdS.of (x := (a.at' : Int)) (fun _ h => h.1) rfl (LdS.of (x := (b.at' : Int)) (fun _ h => h.2) rfl ?_)))
  refine (c_cmp64 _ _ _).mono ?_
  rintro r w5 ⟨rfl, rfl⟩
  refine ⟨⟨b0, b1⟩, (c_cmpI _ _ _).mono ?_⟩
  rintro r w6 ⟨rfl, rfl⟩
  refine Nw.of ?_
  refine (c_or (Blk.new _ _ _)).mono ?_
  rintro r w7 ⟨rfl, rfl⟩
  exact ⟨rfl, e2.alloc _, d2⟩
end Rdg
end Go.Proofs.YtodhdkbhmkinjaaDoor
