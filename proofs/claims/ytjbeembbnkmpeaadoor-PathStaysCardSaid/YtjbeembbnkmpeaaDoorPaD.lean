/- The pen walked: rectangles, and what each operator draws. Conditions: sizes. -/
import Derived.Test.YtjbeembbnkmpeaaDoorPaC
namespace Go.Proofs.YtjbeembbnkmpeaaDoor
namespace Pat
open Sh Mat Fix Opr
set_option linter.unusedVariables false
set_option linter.unusedSimpArgs false
set_option maxRecDepth 4000
set_option maxHeartbeats 4000000
/-- The corners of a rectangle. -/
def crn (x y r t : Int) : Nat → Int × Int
  | 0 => (x, y)
  | 1 => (r, y)
  | 2 => (r, t)
  | _ => (x, t)
def rectK (m : Mx) (x y r t : Int) : Nat → Option (List Sg)
  | 0 => some []
  | k + 1 => (rectK m x y r t k).bind fun L => (pt m (crn x y r t k).1 (crn x y r t k).2).bind fun p => some (L ++ [if k = 0 then mvS p else lnS p])
theorem rect_K {m : Mx} {x y w h r t : Int} (h1 : sum2 x w = some r) (h2 : sum2 y h = some t) : rectF m x y w h = (rectK m x y r t 4).bind fun L => some (L ++ [clS]) := by
  unfold rectF
  rw [h1, h2]
  simp only [rectK, crn, Option.bind_some, Option.bind_assoc]
  cases pt m x y with
  | none => rfl
  | some p =>
    cases pt m r y with
    | none => rfl
    | some q =>
      cases pt m r t with
      | none => rfl
      | some u =>
        cases pt m x t with
        | none => rfl
        | some v => rfl
theorem rectK_no {m : Mx} {x y r t : Int} {k : Nat} (h : rectK m x y r t k = none) : ∀ j, k ≤ j → rectK m x y r t j = none
  | 0, hj => by
    obtain rfl : k = 0 := by omega
    exact h
  | j + 1, hj => by
    by_cases hk : k = j + 1
    · rw [← hk]
      exact h
    · unfold rectK
      rw [rectK_no h j (by omega)]
      rfl
section
variable {w0 w w' w1 : World} {g : Nat} {m : Mx} {ns ps : Slc} {l : List Int} {h : Int × Int} {T : List Sg} {a : ByteArray}
attribute [local irreducible] Ld Sh.St Nw Nn LdS
theorem sum_of {x y n e : Int} (hr : (n, e) = sumF [x, y]) : (e = 0 → sum2 x y = some n) ∧ (e ≠ 0 → e = 2 ∧ sum2 x y = none) := by
  unfold sum2
  rw [← hr]
  refine ⟨fun h => if_pos h, fun h => ⟨?_, if_neg h⟩⟩
  unfold sumF at hr
  split at hr
  · cases hr
    exact absurd rfl h
  · cases hr
    rfl
theorem c_rect (H : Pn w0 w g m ns l h ps T) (hl : l.length = 4) (hT : T.length ≤ 100) : C147 (some ⟨g, 0, none⟩) w (fun w1 => ∃ ps' T' ns' l', rectF m (l.getD 0 0) (l.getD 1 0) (l.getD 2 0) (l.getD 3 0) = some T' ∧ Pn w0 w1 g m ns' l' h ps' (T ++ T')) fun v w1 => v = gu 2 ∧ rectF m (l.getD 0 0) (l.getD 1 0) (l.getD 2 0) (l.getD 3 0) = none ∧ Ext (· = g) w0 w1 := by
  refine T147 _ _ _ _ ?_
  unfold S147
  have weak : ∀ {a b : World}, Ext (fun _ => False) a b → Ext (· = g) a b := fun e => e.mono fun _ _ e => e.elim
  have P1 := H.keep (Ext.refl _ w).drew
  have hsz : w.drew.heap.size = w.heap.size := rfl
  generalize w.drew = u at P1 ⊢
  refine Nn.of ?_
  rw [add_lit, Nat.zero_add]
  refine Ld.of P1.blk rfl (ld_iv (i := 0) P1.num (by omega) rfl (Nn.of ?_))
  rw [add_lit, Nat.zero_add]
  refine Ld.of P1.blk rfl (ld_iv (i := 1) P1.num (by omega) rfl (Nn.of ?_))
  rw [add_lit, Nat.zero_add]
  refine Ld.of P1.blk rfl (ld_iv (i := 2) P1.num (by omega) rfl ?_)
  generalize l.getD 0 0 = x, l.getD 1 0 = y, l.getD 2 0 = wd
  refine (Hn.start u).nw fun u2 H2 => ?_
  have P2 := P1.keep H2.ext
  refine (c_sum (l := [x, wd]) (IRow.of (H2.get 0 rfl) rfl fun i hi => by
    match i, hi with
    | 0, _ => rfl
    | 1, _ => rfl) (by simp)).mono ?_
  rintro n e u3 ⟨hr, e3⟩
  have P3 := P2.keep e3
  obtain ⟨s1, s2⟩ := sum_of hr
  refine (c_mustI n e _).mono ?_ ?_
  rotate_left
  · rintro v u4 ⟨hne, rfl, rfl⟩
    obtain ⟨rfl, h2⟩ := s2 hne
    exact ⟨rfl, by unfold rectF; rw [h2]; rfl, P3.ext⟩
  rintro r u4 ⟨rfl, rfl, rfl⟩
  have hx := s1 rfl
  refine Nn.of ?_
  rw [add_lit, Nat.zero_add]
  refine Ld.of P3.blk rfl (ld_iv (i := 3) P3.num (by omega) rfl ?_)
  generalize l.getD 3 0 = ht
  refine (Hn.start u4).nw fun u5 H5 => ?_
  have P5 := P3.keep H5.ext
  refine (c_sum (l := [y, ht]) (IRow.of (H5.get 0 rfl) rfl fun i hi => by
    match i, hi with
    | 0, _ => rfl
    | 1, _ => rfl) (by simp)).mono ?_
  rintro n e u6 ⟨hr, e6⟩
  have P6 := P5.keep e6
  obtain ⟨s1, s2⟩ := sum_of hr
  refine (c_mustI n e _).mono ?_ ?_
  rotate_left
  · rintro v u7 ⟨hne, rfl, rfl⟩
    obtain ⟨rfl, h2⟩ := s2 hne
    exact ⟨rfl, by unfold rectF; rw [hx, h2]; rfl, P6.ext⟩
  rintro t u7 ⟨rfl, rfl, rfl⟩
  have hy := s1 rfl
  have hF := rect_K (m := m) hx hy
  refine ⟨fun n st v => ∃ (k : Nat) (L : List Sg) (ps' : Slc), st = (k : Int) ∧ k ≤ 4 ∧ n = 4 - k ∧ rectK m x y r t k = some L ∧ L.length = k ∧ Pn w0 v g m ns l h ps' (T ++ L), 4, ⟨0, [], ps, rfl, by omega, rfl, rfl, rfl, by rw [List.append_nil]; exact P6⟩, ?_⟩
  rintro n st v ⟨k, L, ps', rfl, hk, rfl, hL, hLl, Pk⟩
  unfold S147L1
  refine Br.dec (fun q => ⟨by omega, by omega, crn x y r t k, ?_, ?_⟩) fun q => ?_
  · rw [Int.toNat_natCast]
    have hk4 : k < 4 := by omega
    match k, hk4 with
    | 0, _ => rfl
    | 1, _ => rfl
    | 2, _ => rfl
    | 3, _ => rfl
  · refine (Hn.start v).nw fun v2 H2 => ?_
    simp only [List.nil_append, add_lit, Nat.zero_add] at H2 ⊢
    iterate 2 (refine H2.st 0 rfl (by simp) fun _ H2 => ?_; simp only [List.set_cons_zero, List.set_cons_succ] at H2)
    have Pv := Pk.keep H2.ext
    have hwrap : IntKind.i64.wrap ((k : Int) + 1) = ((k + 1 : Nat) : Int) := by rw [i64_id (by omega)]; rfl
    have bad : pt m (crn x y r t k).1 (crn x y r t k).2 = none → rectF m x y wd ht = none := fun hp => by
      rw [hF, rectK_no (k := k + 1) (by unfold rectK; rw [hL]; simp only [Option.bind_some, hp, Option.bind_none]) 4 (by omega)]
      rfl
    refine Br.eq (fun q2 => ?_) fun q2 => ?_
    · iterate 2 refine H2.ld 0 rfl rfl ?_
      refine (c_point Pv _ _).mono ?_ ?_
      · rintro p v5 ⟨hp, e5⟩
        refine (c_put (Pv.keep e5) (by rw [List.length_append]; omega) (mvS p)).mono ?_
        rintro v6 ⟨ps2, P6⟩
        refine ⟨4 - (k + 1), by omega, k + 1, L ++ [mvS p], ps2, hwrap, by omega, rfl, ?_, by rw [List.length_append, List.length_singleton]; omega, by rw [← List.append_assoc]; exact P6⟩
        unfold rectK
        rw [hL, Option.bind_some, hp, Option.bind_some, if_pos (by omega)]
      · rintro v' v5 ⟨rfl, hp, e5⟩
        exact ⟨rfl, bad hp, (Pv.keep e5).ext⟩
    · iterate 2 refine H2.ld 0 rfl rfl ?_
      refine (c_point Pv _ _).mono ?_ ?_
      · rintro p v5 ⟨hp, e5⟩
        refine (c_put (Pv.keep e5) (by rw [List.length_append]; omega) (lnS p)).mono ?_
        rintro v6 ⟨ps2, P6⟩
        refine ⟨4 - (k + 1), by omega, k + 1, L ++ [lnS p], ps2, hwrap, by omega, rfl, ?_, by rw [List.length_append, List.length_singleton]; omega, by rw [← List.append_assoc]; exact P6⟩
        unfold rectK
        rw [hL, Option.bind_some, hp, Option.bind_some, if_neg (by omega)]
      · rintro v' v5 ⟨rfl, hp, e5⟩
        exact ⟨rfl, bad hp, (Pv.keep e5).ext⟩
  · have hk4 : k = 4 := by omega
    subst hk4
    refine (c_put Pk (by rw [List.length_append]; omega) clS).mono ?_
    rintro v6 ⟨ps2, P6⟩
    exact ⟨ps2, L ++ [clS], ns, l, by rw [hF, hL]; rfl, by rw [← List.append_assoc]; exact P6⟩
theorem getD_drop (l : List Int) (k i : Nat) : (l.drop k).getD i 0 = l.getD (k + i) 0 := by
  rw [List.getD_eq_getElem?_getD, List.getD_eq_getElem?_getD, List.getElem?_drop]
theorem draw_m (m : Mx) (h : Int × Int) (l : List Int) : drawF [109] m h l = (pt m (l.getD 0 0) (l.getD 1 0)).bind fun p => some [mvS p] := rfl
theorem draw_l (m : Mx) (h : Int × Int) (l : List Int) : drawF [108] m h l = (pt m (l.getD 0 0) (l.getD 1 0)).bind fun p => some [lnS p] := rfl
theorem draw_c (m : Mx) (h : Int × Int) (l : List Int) : drawF [99] m h l = (pt m (l.getD 0 0) (l.getD 1 0)).bind fun p => (pt m (l.getD 2 0) (l.getD 3 0)).bind fun q => (pt m (l.getD 4 0) (l.getD 5 0)).bind fun r => some [cvS p q r] := rfl
theorem draw_v (m : Mx) (h : Int × Int) (l : List Int) : drawF [118] m h l = (pt m (l.getD 0 0) (l.getD 1 0)).bind fun p => (pt m (l.getD 2 0) (l.getD 3 0)).bind fun q => some [cvS h p q] := rfl
theorem draw_y (m : Mx) (h : Int × Int) (l : List Int) : drawF [121] m h l = (pt m (l.getD 0 0) (l.getD 1 0)).bind fun p => (pt m (l.getD 2 0) (l.getD 3 0)).bind fun q => some [cvS p q q] := rfl
theorem draw_h (m : Mx) (h : Int × Int) (l : List Int) : drawF [104] m h l = some [clS] := rfl
theorem draw_re (m : Mx) (h : Int × Int) (l : List Int) : drawF [114, 101] m h l = rectF m (l.getD 0 0) (l.getD 1 0) (l.getD 2 0) (l.getD 3 0) := rfl
theorem c_draw (H : Pn w0 w g m ns l h ps T) (hl : l.length = (takes (bl a)).length) (hT : T.length ≤ 100) (hk : bl a ∈ ([[109], [108], [99], [118], [121], [104], [114, 101], [87], [87, 42]] : List By)) : C84 (some ⟨g, 0, none⟩) a w (fun w1 => ∃ ps' T' ns' l', drawF (bl a) m h l = some T' ∧ Pn w0 w1 g m ns' l' h ps' (T ++ T')) fun v w1 => v = gu 2 ∧ drawF (bl a) m h l = none ∧ Ext (· = g) w0 w1 := by
  refine T84 _ _ _ _ _ ?_
  unfold S84
  have hT' : T.length ≤ 1000 := by omega
  have len : ∀ {t : By} {n : Nat}, bl a = t → (takes t).length = n → l.length = n := fun h1 h2 => by rw [hl, h1, h2]
  have two : ∀ {w2 : World} {p : Int × Int} {R : World → Prop}, (∀ w3, Hn w2 w3 [(w2.heap.size, [.int .i64 p.1, .int .i64 p.2], 43)] → R w3) → Nw w2 (.cells #[.int .i64 0, .int .i64 0] 43) fun v1 => Sh.St v1 ⟨w2.heap.size, 0, none⟩ (.int .i64 p.1) fun v2 => Sh.St v2 ((⟨w2.heap.size, 0, none⟩ : Addr).add 1) (.int .i64 p.2) R := by
    intro w2 p R k
    refine (Hn.start w2).nw fun w3 H3 => ?_
    simp only [List.nil_append, add_lit, Nat.zero_add] at H3 ⊢
    iterate 2 (refine H3.st 0 rfl (by simp) fun _ H3 => ?_; simp only [List.set_cons_zero, List.set_cons_succ] at H3)
    exact k _ H3
  refine BrB (fun q => ?_) fun n1 => ?_
  · have q : bl a = [109] := q
    have h2 := len q (n := 2) (by decide +kernel)
    rw [q, draw_m]
    refine (c_next H (by omega)).mono ?_ ?_
    · rintro p w2 ⟨hp, P2, e2⟩
      refine (c_put P2 hT' (mvS p)).mono ?_
      rintro w3 ⟨ps3, P3⟩
      exact ⟨ps3, [mvS p], _, _, by rw [hp]; rfl, P3⟩
    · rintro v w2 ⟨rfl, hp, e2⟩
      exact ⟨rfl, by rw [hp]; rfl, H.ext.tr e2⟩
  refine BrB (fun q => ?_) fun n2 => ?_
  · have q : bl a = [108] := q
    have h2 := len q (n := 2) (by decide +kernel)
    rw [q, draw_l]
    refine (c_next H (by omega)).mono ?_ ?_
    · rintro p w2 ⟨hp, P2, e2⟩
      refine (c_put P2 hT' (lnS p)).mono ?_
      rintro w3 ⟨ps3, P3⟩
      exact ⟨ps3, [lnS p], _, _, by rw [hp]; rfl, P3⟩
    · rintro v w2 ⟨rfl, hp, e2⟩
      exact ⟨rfl, by rw [hp]; rfl, H.ext.tr e2⟩
  refine BrB (fun q => ?_) fun n3 => ?_
  · have q : bl a = [99] := q
    have h2 := len q (n := 6) (by decide +kernel)
    rw [q, draw_c]
    refine (c_next H (by omega)).mono ?_ ?_
    rotate_left
    · rintro v w2 ⟨rfl, hp, e2⟩
      exact ⟨rfl, by rw [hp]; rfl, H.ext.tr e2⟩
    rintro p w2 ⟨hp, P2, e2⟩
    refine two fun w3 H3 => ?_
    have P3 := P2.keep H3.ext
    have g2 := P2.blk.lt
    refine (c_next P3 (by rw [List.length_drop]; omega)).mono ?_ ?_
    rotate_left
    · rintro v w4 ⟨rfl, hq, e4⟩
      rw [getD_drop, getD_drop] at hq
      exact ⟨rfl, by rw [hp]; simp only [Option.bind_some]; rw [show pt m (l.getD 2 0) (l.getD 3 0) = none from hq]; rfl, P3.ext.tr e4⟩
    rintro qq w4 ⟨hq, P4, e4⟩
    rw [getD_drop, getD_drop] at hq
    have b1 := e4.blk (H3.get 0 rfl) (by omega)
    refine two fun w5 H5 => ?_
    have b1 := H5.ext.blk b1 id
    have P5 := P4.keep H5.ext
    have g4 := P4.blk.lt
    have P6 := P5.keep (Ext.refl _ w5).drew
    refine ⟨fun w' => Blk w' w2.heap.size ([.int .i64 p.1, .int .i64 p.2] : List Value).toArray 43 ∧ Blk w' w4.heap.size ([.int .i64 qq.1, .int .i64 qq.2] : List Value).toArray 43, ⟨b1, H5.get 0 rfl⟩, ?_⟩
    simp only [add_lit, Nat.zero_add]
    refine LdS.of (fun w' h' => h'.1) rfl (LdS.of (fun w' h' => h'.1) rfl (LdS.of (fun w' h' => h'.2) rfl (LdS.of (fun w' h' => h'.2) rfl ?_)))
    have b2 := H5.get 0 rfl
    have b1' : Blk w5.drew w2.heap.size ([.int .i64 p.1, .int .i64 p.2] : List Value).toArray 43 := b1
    have b2' : Blk w5.drew w4.heap.size ([.int .i64 qq.1, .int .i64 qq.2] : List Value).toArray 43 := b2
    refine (c_next P6 (by rw [List.length_drop, List.length_drop]; omega)).mono ?_ ?_
    rotate_left
    · rintro v w7 ⟨rfl, hr, e7⟩
      rw [List.drop_drop, getD_drop, getD_drop] at hr
      exact ⟨rfl, by rw [hp]; simp only [Option.bind_some]; rw [show pt m (l.getD 2 0) (l.getD 3 0) = some qq from hq]; simp only [Option.bind_some]; rw [show pt m (l.getD 4 0) (l.getD 5 0) = none from hr]; rfl, P6.ext.tr e7⟩
    rintro r w7 ⟨hr, P7, e7⟩
    rw [List.drop_drop, getD_drop, getD_drop] at hr
    refine ⟨⟨e7.blk b1' (by omega), e7.blk b2' (by omega)⟩, (c_curve P7 hT' p qq r).mono ?_⟩
    rintro w8 ⟨ps8, P8⟩
    exact ⟨ps8, [cvS p qq r], _, _, by rw [hp]; simp only [Option.bind_some]; rw [show pt m (l.getD 2 0) (l.getD 3 0) = some qq from hq]; simp only [Option.bind_some]; rw [show pt m (l.getD 4 0) (l.getD 5 0) = some r from hr]; rfl, P8⟩
  refine BrB (fun q => ?_) fun n4 => ?_
  · have q : bl a = [118] := q
    have h2 := len q (n := 4) (by decide +kernel)
    rw [q, draw_v]
    refine (c_next H (by omega)).mono ?_ ?_
    rotate_left
    · rintro v w2 ⟨rfl, hp, e2⟩
      exact ⟨rfl, by rw [hp]; rfl, H.ext.tr e2⟩
    rintro p w2 ⟨hp, P2, e2⟩
    refine two fun w3 H3 => ?_
    have P3 := (P2.keep H3.ext).keep (Ext.refl _ w3).drew
    have g2 := P2.blk.lt
    have b1 : Blk w3.drew w2.heap.size ([.int .i64 p.1, .int .i64 p.2] : List Value).toArray 43 := H3.get 0 rfl
    refine ⟨fun w' => Blk w' w2.heap.size ([.int .i64 p.1, .int .i64 p.2] : List Value).toArray 43 ∧ ∃ n', Blk w' g (pnrow m n' h ps).toArray 141, ⟨b1, _, P3.blk⟩, Nn.of ?_⟩
    simp only [add_lit, Nat.zero_add]
    refine ldS_mk (x := h.1) (fun w' h' => by obtain ⟨_, n', hb⟩ := h'; rw [hb.cell]; rfl) (ldS_mk (x := h.2) (fun w' h' => by obtain ⟨_, n', hb⟩ := h'; rw [hb.cell]; rfl) ?_)
    refine LdS.of (fun w' h' => h'.1) rfl (LdS.of (fun w' h' => h'.1) rfl ?_)
    refine (c_next P3 (by rw [List.length_drop]; omega)).mono ?_ ?_
    rotate_left
    · rintro v w4 ⟨rfl, hq, e4⟩
      rw [getD_drop, getD_drop] at hq
      exact ⟨rfl, by rw [hp]; simp only [Option.bind_some]; rw [show pt m (l.getD 2 0) (l.getD 3 0) = none from hq]; rfl, P3.ext.tr e4⟩
    rintro qq w4 ⟨hq, P4, e4⟩
    rw [getD_drop, getD_drop] at hq
    refine ⟨⟨e4.blk b1 (by omega), _, P4.blk⟩, (c_curve P4 hT' h p qq).mono ?_⟩
    rintro w8 ⟨ps8, P8⟩
    exact ⟨ps8, [cvS h p qq], _, _, by rw [hp]; simp only [Option.bind_some]; rw [show pt m (l.getD 2 0) (l.getD 3 0) = some qq from hq]; rfl, P8⟩
  refine BrB (fun q => ?_) fun n5 => ?_
  · have q : bl a = [121] := q
    have h2 := len q (n := 4) (by decide +kernel)
    rw [q, draw_y]
    refine (c_next H (by omega)).mono ?_ ?_
    rotate_left
    · rintro v w2 ⟨rfl, hp, e2⟩
      exact ⟨rfl, by rw [hp]; rfl, H.ext.tr e2⟩
    rintro p w2 ⟨hp, P2, e2⟩
    refine two fun w3 H3 => ?_
    have P3 := P2.keep H3.ext
    have g2 := P2.blk.lt
    refine (c_next P3 (by rw [List.length_drop]; omega)).mono ?_ ?_
    rotate_left
    · rintro v w4 ⟨rfl, hq, e4⟩
      rw [getD_drop, getD_drop] at hq
      exact ⟨rfl, by rw [hp]; simp only [Option.bind_some]; rw [show pt m (l.getD 2 0) (l.getD 3 0) = none from hq]; rfl, P3.ext.tr e4⟩
    rintro qq w4 ⟨hq, P4, e4⟩
    rw [getD_drop, getD_drop] at hq
    have b1 := e4.blk (H3.get 0 rfl) (by omega)
    refine two fun w5 H5 => ?_
    have b1 := H5.ext.blk b1 id
    have b2 := H5.get 0 rfl
    have P5 := P4.keep H5.ext
    simp only [add_lit, Nat.zero_add]
    refine Ld.of b1 rfl (Ld.of b1 rfl (Ld.of b2 rfl (Ld.of b2 rfl (Ld.of b2 rfl (Ld.of b2 rfl ?_)))))
    refine (c_curve P5 hT' p qq qq).mono ?_
    rintro w8 ⟨ps8, P8⟩
    exact ⟨ps8, [cvS p qq qq], _, _, by rw [hp]; simp only [Option.bind_some]; rw [show pt m (l.getD 2 0) (l.getD 3 0) = some qq from hq]; rfl, P8⟩
  refine BrB (fun q => ?_) fun n6 => ?_
  · have q : bl a = [104] := q
    rw [q, draw_h]
    refine (c_put H hT' clS).mono ?_
    rintro w3 ⟨ps3, P3⟩
    exact ⟨ps3, [clS], _, _, rfl, P3⟩
  refine BrB (fun q => ?_) fun n7 => ?_
  · have q : bl a = [114, 101] := q
    have h2 := len q (n := 4) (by decide +kernel)
    rw [q, draw_re]
    exact c_rect H h2 hT
  · have hW : bl a = [87] ∨ bl a = [87, 42] := by
      simp only [List.mem_cons, List.not_mem_nil, or_false] at hk
      rcases hk with q | q | q | q | q | q | q | q | q
      · exact absurd q n1
      · exact absurd q n2
      · exact absurd q n3
      · exact absurd q n4
      · exact absurd q n5
      · exact absurd q n6
      · exact absurd q n7
      · exact .inl q
      · exact .inr q
    exact ⟨ps, [], ns, l, by rcases hW with q | q <;> rw [q] <;> rfl, by rw [List.append_nil]; exact H⟩
end
end Pat
end Go.Proofs.YtjbeembbnkmpeaaDoor
