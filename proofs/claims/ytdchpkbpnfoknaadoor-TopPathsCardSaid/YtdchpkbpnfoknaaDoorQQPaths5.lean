/- The pen walked: rectangles, and what each operator draws. Conditions: sizes. -/
import Derived.Test.YtdchpkbpnfoknaaDoorQQPaths4
import Derived.Test.YtdchpkbpnfoknaaDoorQQPaths3
import Derived.Test.YtdchpkbpnfoknaaDoorQQPaths2
namespace Go.Proofs.YtdchpkbpnfoknaaDoor
namespace Pat
open Sh Mat Fix Opr
set_option linter.unusedVariables false
set_option linter.unusedSimpArgs false
set_option maxRecDepth 4000
set_option maxHeartbeats 4000000
/-- The corners of a rectangle. -/
def crn (x y r t : Int) : Nat → Int × Int
  | 0 => (x, y)
  | 1 => (r, y)
  | 2 => (r, t)
  | _ => (x, t)
def rectK (m : Mx) (x y r t : Int) : Nat → Option (List Sg)
  | 0 => some []
  | k + 1 => (rectK m x y r t k).bind fun L => (pt m (crn x y r t k).1 (crn x y r t k).2).bind fun p => some (L ++ [if k = 0 then mvS p else lnS p])
theorem rect_K {m : Mx} {x y w h r t : Int} (h1 : sum2 x w = some r) (h2 : sum2 y h = some t) : rectF m x y w h = (rectK m x y r t 4).bind fun L => some (L ++ [clS]) := by
  unfold rectF
  rw [h1, h2]
  simp only [rectK, crn, Option.bind_some, Option.bind_assoc]
  cases pt m x y with
  | none => rfl
  | some p =>
    cases pt m r y with
    | none => rfl
    | some q =>
      cases pt m r t with
      | none => rfl
      | some u =>
        cases pt m x t with
        | none => rfl
        | some v => rfl
theorem rectK_no {m : Mx} {x y r t : Int} {k : Nat} (h : rectK m x y r t k = none) : ∀ j, k ≤ j → rectK m x y r t j = none
  | 0, hj => by
    obtain rfl : k = 0 := by omega
    exact h
  | j + 1, hj => by
    by_cases hk : k = j + 1
    · rw [← hk]
      exact h
    · unfold rectK
      rw [rectK_no h j (by omega)]
      rfl
section
variable {w0 w w' w1 : World} {g : Nat} {m : Mx} {ns ps : Slc} {l : List Int} {h : Int × Int} {T : List Sg} {a : ByteArray}
attribute [local irreducible] Ld Sh.St Nw Nn LdS
theorem sum_of {x y n e : Int} (hr : (n, e) = sumF [x, y]) : (e = 0 → sum2 x y = some n) ∧ (e ≠ 0 → e = 2 ∧ sum2 x y = none) := by
  unfold sum2
  rw [← hr]
  refine ⟨fun h => if_pos h, fun h => ⟨?_, if_neg h⟩⟩
  unfold sumF at hr
  split at hr
  · cases hr
    exact absurd rfl h
  · cases hr
    rfl
theorem c_rect (H : Pn w0 w g m ns l h ps T) (hl : l.length = 4) (hT : T.length ≤ 100) : C50 (some ⟨g, 0, none⟩) w (fun w1 => ∃ ps' T' ns' l', rectF m (l.getD 0 0) (l.getD 1 0) (l.getD 2 0) (l.getD 3 0) = some T' ∧ Pn w0 w1 g m ns' l' h ps' (T ++ T')) fun v w1 => v = gu 2 ∧ rectF m (l.getD 0 0) (l.getD 1 0) (l.getD 2 0) (l.getD 3 0) = none ∧ Ext (· = g) w0 w1 := by
  refine T50 _ _ _ _ ?_
  unfold S50
  have weak : ∀ {a b : World}, Ext (fun _ => False) a b → Ext (· = g) a b := fun e => e.mono fun _ _ e => e.elim
  have P1 := H.keep (Ext.refl _ w).drew
  have hsz : w.drew.heap.size = w.heap.size := rfl
  generalize w.drew = u at P1 ⊢
  refine Nn.of ?_
  rw [add_lit, Nat.zero_add]
  refine Ld.of P1.blk rfl (ld_iv (i := 0) P1.num (by omega) rfl (Nn.of ?_))
  rw [add_lit, Nat.zero_add]
  refine Ld.of P1.blk rfl (ld_iv (i := 1) P1.num (by omega) rfl (Nn.of ?_))
  rw [add_lit, Nat.zero_add]
  refine Ld.of P1.blk rfl (ld_iv (i := 2) P1.num (by omega) rfl ?_)
  generalize l.getD 0 0 = x, l.getD 1 0 = y, l.getD 2 0 = wd
  refine (Hn.start u).nw fun u2 H2 => ?_
  have P2 := P1.keep H2.ext
  refine (c_sum (l := [x, wd]) (IRow.of (H2.get 0 rfl) rfl fun i hi => by
    match i, hi with
    | 0, _ => rfl
    | 1, _ => rfl) (by simp)).mono ?_
  rintro n e u3 ⟨hr, e3⟩
  have P3 := P2.keep e3
  obtain ⟨s1, s2⟩ := sum_of hr
  refine (c_mustI n e _).mono ?_ ?_
  rotate_left
  · rintro v u4 ⟨hne, rfl, rfl⟩
    obtain ⟨rfl, h2⟩ := s2 hne
    exact ⟨rfl, by unfold rectF; rw [h2]; rfl, P3.ext⟩
  rintro r u4 ⟨rfl, rfl, rfl⟩
  have hx := s1 rfl
  refine Nn.of ?_
  rw [add_lit, Nat.zero_add]
  refine Ld.of P3.blk rfl (ld_iv (i := 3) P3.num (by omega) rfl ?_)
  generalize l.getD 3 0 = ht
  refine (Hn.start u4).nw fun u5 H5 => ?_
  have P5 := P3.keep H5.ext
  refine (c_sum (l := [y, ht]) (IRow.of (H5.get 0 rfl) rfl fun i hi => by
    match i, hi with
    | 0, _ => rfl
    | 1, _ => rfl) (by simp)).mono ?_
  rintro n e u6 ⟨hr, e6⟩
  have P6 := P5.keep e6
  obtain ⟨s1, s2⟩ := sum_of hr
  refine (c_mustI n e _).mono ?_ ?_
  rotate_left
  · rintro v u7 ⟨hne, rfl, rfl⟩
    obtain ⟨rfl, h2⟩ := s2 hne
    exact ⟨rfl, by unfold rectF; rw [hx, h2]; rfl, P6.ext⟩
  rintro t u7 ⟨rfl, rfl, rfl⟩
  have hy := s1 rfl
  have hF := rect_K (m := m) hx hy
  refine ⟨fun n st v => ∃ (k : Nat) (L : List Sg) (ps' : Slc), st = (k : Int) ∧ k ≤ 4 ∧ n = 4 - k ∧ rectK m x y r t k = some L ∧ L.length = k ∧ Pn w0 v g m ns l h ps' (T ++ L), 4, ⟨0, [], ps, rfl, by omega, rfl, rfl, rfl, by rw [List.append_nil]; exact P6⟩, ?_⟩
  rintro n st v ⟨k, L, ps', rfl, hk, rfl, hL, hLl, Pk⟩
  unfold S50L1
  refine Br.dec (fun q => ⟨by omega, by omega, crn x y r t k, ?_, ?_⟩) fun q => ?_
  · rw [Int.toNat_natCast]
    have hk4 : k < 4 := by omega
    match k, hk4 with
    | 0, _ => rfl
    | 1, _ => rfl
    | 2, _ => rfl
    | 3, _ => rfl
  · refine (Hn.start v).nw fun v2 H2 => ?_
    simp only [List.nil_append, add_lit, Nat.zero_add] at H2 ⊢
    iterate 2 (refine H2.st 0 rfl (by simp) fun _ H2 => ?_; simp only [List.set_cons_zero, List.set_cons_succ] at H2)
    have Pv := Pk.keep H2.ext
    have hwrap : IntKind.i64.wrap ((k : Int) + 1) = ((k + 1 : Nat) : Int) := by rw [i64_id (by omega)]; rfl
    have bad : pt m (crn x y r t k).1 (crn x y r t k).2 = none → rectF m x y wd ht = none := fun hp => by
      rw [hF, rectK_no (k := k + 1) (by unfold rectK; rw [hL]; simp only [Option.bind_some, hp, Option.bind_none]) 4 (by omega)]
      rfl
    refine Br.eq (fun q2 => ?_) fun q2 => ?_
    · iterate 2 refine H2.ld 0 rfl rfl ?_
      refine (c_point Pv _ _).mono ?_ ?_
      · rintro p v5 ⟨hp, e5⟩
        refine (c_put (Pv.keep e5) (by rw [List.length_append]; omega) (mvS p)).mono ?_
        rintro v6 ⟨ps2, P6⟩
        refine ⟨4 - (k + 1), by omega, k + 1, L ++ [mvS p], ps2, hwrap, by omega, rfl, ?_, by rw [List.length_append, List.length_singleton]; omega, by rw [← List.append_assoc]; exact P6⟩
        unfold rectK
        rw [hL, Option.bind_some, hp, Option.bind_some, if_pos (by omega)]
      · rintro v' v5 ⟨rfl, hp, e5⟩
        exact ⟨rfl, bad hp, (Pv.keep e5).ext⟩
    · iterate 2 refine H2.ld 0 rfl rfl ?_
      refine (c_point Pv _ _).mono ?_ ?_
      · rintro p v5 ⟨hp, e5⟩
        refine (c_put (Pv.keep e5) (by rw [List.length_append]; omega) (lnS p)).mono ?_
        rintro v6 ⟨ps2, P6⟩
        refine ⟨4 - (k + 1), by omega, k + 1, L ++ [lnS p], ps2, hwrap, by omega, rfl, ?_, by rw [List.length_append, List.length_singleton]; omega, by rw [← List.append_assoc]; exact P6⟩
        unfold rectK
        rw [hL, Option.bind_some, hp, Option.bind_some, if_neg (by omega)]
      · rintro v' v5 ⟨rfl, hp, e5⟩
        exact ⟨rfl, bad hp, (Pv.keep e5).ext⟩
  · have hk4 : k = 4 := by omega
    subst hk4
    refine (c_put Pk (by rw [List.length_append]; omega) clS).mono ?_
    rintro v6 ⟨ps2, P6⟩
    exact ⟨ps2, L ++ [clS], ns, l, by rw [hF, hL]; rfl, by rw [← List.append_assoc]; exact P6⟩
theorem getD_drop (l : List Int) (k i : Nat) : (l.drop k).getD i 0 = l.getD (k + i) 0 := by
  rw [List.getD_eq_getElem?_getD, List.getD_eq_getElem?_getD, List.getElem?_drop]
theorem draw_m (m : Mx) (h : Int × Int) (l : List Int) : drawF [109] m h l = (pt m (l.getD 0 0) (l.getD 1 0)).bind fun p => some [mvS p] := rfl
theorem draw_l (m : Mx) (h : Int × Int) (l : List Int) : drawF [108] m h l = (pt m (l.getD 0 0) (l.getD 1 0)).bind fun p => some [lnS p] := rfl
theorem draw_c (m : Mx) (h : Int × Int) (l : List Int) : drawF [99] m h l = (pt m (l.getD 0 0) (l.getD 1 0)).bind fun p => (pt m (l.getD 2 0) (l.getD 3 0)).bind fun q => (pt m (l.getD 4 0) (l.getD 5 0)).bind fun r => some [cvS p q r] := rfl
theorem draw_v (m : Mx) (h : Int × Int) (l : List Int) : drawF [118] m h l = (pt m (l.getD 0 0) (l.getD 1 0)).bind fun p => (pt m (l.getD 2 0) (l.getD 3 0)).bind fun q => some [cvS h p q] := rfl
theorem draw_y (m : Mx) (h : Int × Int) (l : List Int) : drawF [121] m h l = (pt m (l.getD 0 0) (l.getD 1 0)).bind fun p => (pt m (l.getD 2 0) (l.getD 3 0)).bind fun q => some [cvS p q q] := rfl
theorem draw_h (m : Mx) (h : Int × Int) (l : List Int) : drawF [104] m h l = some [clS] := rfl
theorem draw_re (m : Mx) (h : Int × Int) (l : List Int) : drawF [114, 101] m h l = rectF m (l.getD 0 0) (l.getD 1 0) (l.getD 2 0) (l.getD 3 0) := rfl
theorem c_draw (H : Pn w0 w g m ns l h ps T) (hl : l.length = (takes (bl a)).length) (hT : T.length ≤ 100) (hk : bl a ∈ ([[109], [108], [99], [118], [121], [104], [114, 101], [87], [87, 42]] : List By)) : C27 (some ⟨g, 0, none⟩) a w (fun w1 => ∃ ps' T' ns' l', drawF (bl a) m h l = some T' ∧ Pn w0 w1 g m ns' l' h ps' (T ++ T')) fun v w1 => v = gu 2 ∧ drawF (bl a) m h l = none ∧ Ext (· = g) w0 w1 := by
  refine T27 _ _ _ _ _ ?_
  unfold S27
  have hT' : T.length ≤ 1000 := by omega
  have len : ∀ {t : By} {n : Nat}, bl a = t → (takes t).length = n → l.length = n := fun h1 h2 => by rw [hl, h1, h2]
  have two : ∀ {w2 : World} {p : Int × Int} {R : World → Prop}, (∀ w3, Hn w2 w3 [(w2.heap.size, [.int .i64 p.1, .int .i64 p.2], 36)] → R w3) → Nw w2 (.cells #[.int .i64 0, .int .i64 0] 36) fun v1 => Sh.St v1 ⟨w2.heap.size, 0, none⟩ (.int .i64 p.1) fun v2 => Sh.St v2 ((⟨w2.heap.size, 0, none⟩ : Addr).add 1) (.int .i64 p.2) R := by
    intro w2 p R k
    refine (Hn.start w2).nw fun w3 H3 => ?_
    simp only [List.nil_append, add_lit, Nat.zero_add] at H3 ⊢
    iterate 2 (refine H3.st 0 rfl (by simp) fun _ H3 => ?_; simp only [List.set_cons_zero, List.set_cons_succ] at H3)
    exact k _ H3
  refine BrB (fun q => ?_) fun n1 => ?_
  · have q : bl a = [109] := q
    have h2 := len q (n := 2) (by decide +kernel)
    rw [q, draw_m]
    refine (c_next H (by omega)).mono ?_ ?_
    · rintro p w2 ⟨hp, P2, e2⟩
      refine (c_put P2 hT' (mvS p)).mono ?_
      rintro w3 ⟨ps3, P3⟩
      exact ⟨ps3, [mvS p], _, _, by rw [hp]; rfl, P3⟩
    · rintro v w2 ⟨rfl, hp, e2⟩
      exact ⟨rfl, by rw [hp]; rfl, H.ext.tr e2⟩
  refine BrB (fun q => ?_) fun n2 => ?_
  · have q : bl a = [108] := q
    have h2 := len q (n := 2) (by decide +kernel)
    rw [q, draw_l]
    refine (c_next H (by omega)).mono ?_ ?_
    · rintro p w2 ⟨hp, P2, e2⟩
      refine (c_put P2 hT' (lnS p)).mono ?_
      rintro w3 ⟨ps3, P3⟩
      exact ⟨ps3, [lnS p], _, _, by rw [hp]; rfl, P3⟩
    · rintro v w2 ⟨rfl, hp, e2⟩
      exact ⟨rfl, by rw [hp]; rfl, H.ext.tr e2⟩
  refine BrB (fun q => ?_) fun n3 => ?_
  · have q : bl a = [99] := q
    have h2 := len q (n := 6) (by decide +kernel)
    rw [q, draw_c]
    refine (c_next H (by omega)).mono ?_ ?_
    rotate_left
    · rintro v w2 ⟨rfl, hp, e2⟩
      exact ⟨rfl, by rw [hp]; rfl, H.ext.tr e2⟩
    rintro p w2 ⟨hp, P2, e2⟩
    refine two fun w3 H3 => ?_
    have P3 := P2.keep H3.ext
    have g2 := P2.blk.lt
    refine (c_next P3 (by rw [List.length_drop]; omega)).mono ?_ ?_
    rotate_left
    · rintro v w4 ⟨rfl, hq, e4⟩
      rw [getD_drop, getD_drop] at hq
      exact ⟨rfl, by rw [hp]; simp only [Option.bind_some]; rw [show pt m (l.getD 2 0) (l.getD 3 0) = none from hq]; rfl, P3.ext.tr e4⟩
    rintro qq w4 ⟨hq, P4, e4⟩
    rw [getD_drop, getD_drop] at hq
    have b1 := e4.blk (H3.get 0 rfl) (by omega)
    refine two fun w5 H5 => ?_
    have b1 := H5.ext.blk b1 id
    have P5 := P4.keep H5.ext
    have g4 := P4.blk.lt
    have P6 := P5.keep (Ext.refl _ w5).drew
    refine ⟨fun w' => Blk w' w2.heap.size ([.int .i64 p.1, .int .i64 p.2] : List Value).toArray 36 ∧ Blk w' w4.heap.size ([.int .i64 qq.1, .int .i64 qq.2] : List Value).toArray 36, ⟨b1, H5.get 0 rfl⟩, ?_⟩
    simp only [add_lit, Nat.zero_add]
    refine LdS.of (fun w' h' => h'.1) rfl (LdS.of (fun w' h' => h'.1) rfl (LdS.of (fun w' h' => h'.2) rfl (LdS.of (fun w' h' => h'.2) rfl ?_)))
    have b2 := H5.get 0 rfl
    have b1' : Blk w5.drew w2.heap.size ([.int .i64 p.1, .int .i64 p.2] : List Value).toArray 36 := b1
    have b2' : Blk w5.drew w4.heap.size ([.int .i64 qq.1, .int .i64 qq.2] : List Value).toArray 36 := b2
    refine (c_next P6 (by rw [List.length_drop, List.length_drop]; omega)).mono ?_ ?_
    rotate_left
    · rintro v w7 ⟨rfl, hr, e7⟩
      rw [List.drop_drop, getD_drop, getD_drop] at hr
      exact ⟨rfl, by rw [hp]; simp only [Option.bind_some]; rw [show pt m (l.getD 2 0) (l.getD 3 0) = some qq from hq]; simp only [Option.bind_some]; rw [show pt m (l.getD 4 0) (l.getD 5 0) = none from hr]; rfl, P6.ext.tr e7⟩
    rintro r w7 ⟨hr, P7, e7⟩
    rw [List.drop_drop, getD_drop, getD_drop] at hr
    refine ⟨⟨e7.blk b1' (by omega), e7.blk b2' (by omega)⟩, (c_curve P7 hT' p qq r).mono ?_⟩
    rintro w8 ⟨ps8, P8⟩
    exact ⟨ps8, [cvS p qq r], _, _, by rw [hp]; simp only [Option.bind_some]; rw [show pt m (l.getD 2 0) (l.getD 3 0) = some qq from hq]; simp only [Option.bind_some]; rw [show pt m (l.getD 4 0) (l.getD 5 0) = some r from hr]; rfl, P8⟩
  refine BrB (fun q => ?_) fun n4 => ?_
  · have q : bl a = [118] := q
    have h2 := len q (n := 4) (by decide +kernel)
    rw [q, draw_v]
    refine (c_next H (by omega)).mono ?_ ?_
    rotate_left
    · rintro v w2 ⟨rfl, hp, e2⟩
      exact ⟨rfl, by rw [hp]; rfl, H.ext.tr e2⟩
    rintro p w2 ⟨hp, P2, e2⟩
    refine two fun w3 H3 => ?_
    have P3 := (P2.keep H3.ext).keep (Ext.refl _ w3).drew
    have g2 := P2.blk.lt
    have b1 : Blk w3.drew w2.heap.size ([.int .i64 p.1, .int .i64 p.2] : List Value).toArray 36 := H3.get 0 rfl
    refine ⟨fun w' => Blk w' w2.heap.size ([.int .i64 p.1, .int .i64 p.2] : List Value).toArray 36 ∧ ∃ n', Blk w' g (pnrow m n' h ps).toArray 77, ⟨b1, _, P3.blk⟩, Nn.of ?_⟩
    simp only [add_lit, Nat.zero_add]
    refine ldS_mk (x := h.1) (fun w' h' => by obtain ⟨_, n', hb⟩ := h'; rw [hb.cell]; rfl) (ldS_mk (x := h.2) (fun w' h' => by obtain ⟨_, n', hb⟩ := h'; rw [hb.cell]; rfl) ?_)
    refine LdS.of (fun w' h' => h'.1) rfl (LdS.of (fun w' h' => h'.1) rfl ?_)
    refine (c_next P3 (by rw [List.length_drop]; omega)).mono ?_ ?_
    rotate_left
    · rintro v w4 ⟨rfl, hq, e4⟩
      rw [getD_drop, getD_drop] at hq
      exact ⟨rfl, by rw [hp]; simp only [Option.bind_some]; rw [show pt m (l.getD 2 0) (l.getD 3 0) = none from hq]; rfl, P3.ext.tr e4⟩
    rintro qq w4 ⟨hq, P4, e4⟩
    rw [getD_drop, getD_drop] at hq
    refine ⟨⟨e4.blk b1 (by omega), _, P4.blk⟩, (c_curve P4 hT' h p qq).mono ?_⟩
    rintro w8 ⟨ps8, P8⟩
    exact ⟨ps8, [cvS h p qq], _, _, by rw [hp]; simp only [Option.bind_some]; rw [show pt m (l.getD 2 0) (l.getD 3 0) = some qq from hq]; rfl, P8⟩
  refine BrB (fun q => ?_) fun n5 => ?_
  · have q : bl a = [121] := q
    have h2 := len q (n := 4) (by decide +kernel)
    rw [q, draw_y]
    refine (c_next H (by omega)).mono ?_ ?_
    rotate_left
    · rintro v w2 ⟨rfl, hp, e2⟩
      exact ⟨rfl, by rw [hp]; rfl, H.ext.tr e2⟩
    rintro p w2 ⟨hp, P2, e2⟩
    refine two fun w3 H3 => ?_
    have P3 := P2.keep H3.ext
    have g2 := P2.blk.lt
    refine (c_next P3 (by rw [List.length_drop]; omega)).mono ?_ ?_
    rotate_left
    · rintro v w4 ⟨rfl, hq, e4⟩
      rw [getD_drop, getD_drop] at hq
      exact ⟨rfl, by rw [hp]; simp only [Option.bind_some]; rw [show pt m (l.getD 2 0) (l.getD 3 0) = none from hq]; rfl, P3.ext.tr e4⟩
    rintro qq w4 ⟨hq, P4, e4⟩
    rw [getD_drop, getD_drop] at hq
    have b1 := e4.blk (H3.get 0 rfl) (by omega)
    refine two fun w5 H5 => ?_
    have b1 := H5.ext.blk b1 id
    have b2 := H5.get 0 rfl
    have P5 := P4.keep H5.ext
    simp only [add_lit, Nat.zero_add]
    refine Ld.of b1 rfl (Ld.of b1 rfl (Ld.of b2 rfl (Ld.of b2 rfl (Ld.of b2 rfl (Ld.of b2 rfl ?_)))))
    refine (c_curve P5 hT' p qq qq).mono ?_
    rintro w8 ⟨ps8, P8⟩
    exact ⟨ps8, [cvS p qq qq], _, _, by rw [hp]; simp only [Option.bind_some]; rw [show pt m (l.getD 2 0) (l.getD 3 0) = some qq from hq]; rfl, P8⟩
  refine BrB (fun q => ?_) fun n6 => ?_
  · have q : bl a = [104] := q
    rw [q, draw_h]
    refine (c_put H hT' clS).mono ?_
    rintro w3 ⟨ps3, P3⟩
    exact ⟨ps3, [clS], _, _, rfl, P3⟩
  refine BrB (fun q => ?_) fun n7 => ?_
  · have q : bl a = [114, 101] := q
    have h2 := len q (n := 4) (by decide +kernel)
    rw [q, draw_re]
    exact c_rect H h2 hT
  · have hW : bl a = [87] ∨ bl a = [87, 42] := by
      simp only [List.mem_cons, List.not_mem_nil, or_false] at hk
      rcases hk with q | q | q | q | q | q | q | q | q
      · exact absurd q n1
      · exact absurd q n2
      · exact absurd q n3
      · exact absurd q n4
      · exact absurd q n5
      · exact absurd q n6
      · exact absurd q n7
      · exact .inl q
      · exact .inr q
    exact ⟨ps, [], ns, l, by rcases hW with q | q <;> rw [q] <;> rfl, by rw [List.append_nil]; exact H⟩
end
end Pat
end Go.Proofs.YtdchpkbpnfoknaaDoor

/- Paths: operands as numbers, known names, the current point; what Do does, plain. Conditions: sizes. -/
namespace Go.Proofs.YtdchpkbpnfoknaaDoor
namespace Pat
open Sh Mat Fix Opr
set_option linter.unusedVariables false
set_option linter.unusedSimpArgs false
set_option maxRecDepth 4000
set_option maxHeartbeats 4000000
def nine : List By := [[109], [108], [99], [118], [121], [104], [114, 101], [87], [87, 42]]
def nmO : List Ob → Option (List Int)
  | [] => some []
  | o :: r => (numV o).bind fun n => (nmO r).bind fun l => some (n :: l)
theorem nmO_len : ∀ {L : List Ob} {l : List Int}, nmO L = some l → l.length = L.length
  | [], l, h => by cases h; rfl
  | o :: r, l, h => by
    unfold nmO at h
    cases hn : numV o with
    | none => rw [hn] at h; cases h
    | some n =>
      rw [hn, Option.bind_some] at h
      cases hr : nmO r with
      | none => rw [hr] at h; cases h
      | some l' =>
        rw [hr, Option.bind_some] at h
        cases h
        rw [List.length_cons, List.length_cons, nmO_len hr]
/-- What is left of the reading at place i, with l read so far. -/
def nmAt (L : List Ob) (i : Nat) (l : List Int) : Option (List Int) := (nmO (L.drop i)).bind fun r => some (l ++ r)
theorem nmAt_0 (L : List Ob) : nmAt L 0 [] = nmO L := by
  unfold nmAt
  rw [List.drop_zero]
  cases nmO L <;> rfl
theorem nmAt_end (L : List Ob) (l : List Int) : nmAt L L.length l = some l := by
  unfold nmAt
  rw [List.drop_length]
  simp [nmO]
theorem nmAt_no {L : List Ob} {i : Nat} (hi : i < L.length) (l : List Int) (hn : numV L[i] = none) : nmAt L i l = none := by
  unfold nmAt
  rw [List.drop_eq_getElem_cons hi]
  conv => lhs; unfold nmO
  rw [hn]
  rfl
theorem nmAt_yes {L : List Ob} {i : Nat} (hi : i < L.length) (l : List Int) {n : Int} (hn : numV L[i] = some n) : nmAt L i l = nmAt L (i + 1) (l ++ [n]) := by
  unfold nmAt
  rw [List.drop_eq_getElem_cons hi]
  conv => lhs; unfold nmO
  rw [hn]
  cases nmO (L.drop (i + 1)) with
  | none => rfl
  | some r => simp
theorem chk0 {nm dd : By} {L : List Ob} (h : chkF nm L dd = 0) : takes nm ≠ [63] ∧ (takes nm).length = L.length ∧ fitsT (takes nm) L = true := by
  unfold chkF at h
  split at h
  · cases h
  · rename_i h1
    split at h
    · cases h
    · rename_i h2
      split at h
      · cases h
      · rename_i h3
        exact ⟨h1, Decidable.not_not.1 h2, by simpa using h3⟩
theorem nine_takes : ∀ nm ∈ nine, ∀ b ∈ takes nm, b = 110 := by
  intro nm h
  simp only [nine, List.mem_cons, List.not_mem_nil, or_false] at h
  rcases h with rfl | rfl | rfl | rfl | rfl | rfl | rfl | rfl | rfl <;> decide +kernel
theorem nine_kinds {nm d : By} {L : List Ob} (hn : nm ∈ nine) (hc : chkF nm L d = 0) : ∀ o ∈ L, o.1 = 2 ∨ o.1 = 3 := by
  obtain ⟨_, hlen, hfit⟩ := chk0 hc
  intro o ho
  obtain ⟨i, hi⟩ := List.mem_iff_getElem?.1 ho
  have hlt := (List.getElem?_eq_some_iff.1 hi).1
  have hb : (takes nm)[i]? = some (takes nm)[i] := List.getElem?_eq_getElem (by omega)
  have hfk : fitsK (takes nm)[i] o.1 = true := by
    by_cases hh : fitsK (takes nm)[i] o.1 = true
    · exact hh
    · rw [fitsT_no hb hi (by simpa using hh)] at hfit
      cases hfit
  rw [nine_takes nm hn _ (List.getElem_mem (by omega))] at hfk
  simpa [fitsK] using hfk
/-- A path: its segments, the point where the last part began, whether it clips. -/
structure Pa where
  L : List Sg
  bg : Int × Int
  cl : Bool
def curS (L : List Sg) (bg : Int × Int) : Int × Int := match L.getLast? with
  | none => (0, 0)
  | some s => if s.1 = 4 then bg else (s.2.2.2.2.2.1, s.2.2.2.2.2.2)
def bgF (bg : Int × Int) (s : Sg) : Int × Int := if s.1 = 1 then (s.2.2.2.2.2.1, s.2.2.2.2.2.2) else bg
def clipN (nm : By) : Bool := decide (nm = [87] ∨ nm = [87, 42])
def doP (p : Pa) (nm d : By) (L : List Ob) (m : Mx) : Int × Pa := if nm ∉ nine then (8, p) else if chkF nm L d ≠ 0 then (chkF nm L d, p)
  else if nm ≠ [109] ∧ nm ≠ [114, 101] ∧ p.L = [] then (29, p)
  else match nmO L with
    | none => (2, p)
    | some l => match drawF nm m (curS p.L p.bg) l with
      | none => (2, p)
      | some T => if p.L.length + T.length ≤ 8192 then (0, ⟨p.L ++ T, T.foldl bgF p.bg, p.cl || clipN nm⟩) else (6, p)
theorem draw_len {nm : By} {m : Mx} {h : Int × Int} {l : List Int} {T : List Sg} (hd : drawF nm m h l = some T) : T.length ≤ 5 := by
  have fin : ∀ {T' : List Sg}, T'.length ≤ 5 → some T' = some T → T.length ≤ 5 := fun h1 h2 => by cases h2; exact h1
  have b : ∀ {α : Type} {o : Option α} {f : α → Option (List Sg)}, o.bind f = some T → ∃ y, f y = some T := fun {α o f} h => by
    cases o with
    | none => cases h
    | some y => exact ⟨y, h⟩
  unfold drawF at hd
  split at hd
  · obtain ⟨_, h⟩ := b hd; exact fin (by simp) h
  split at hd
  · obtain ⟨_, h⟩ := b hd; exact fin (by simp) h
  split at hd
  · obtain ⟨_, h⟩ := b hd; obtain ⟨_, h⟩ := b h; obtain ⟨_, h⟩ := b h; exact fin (by simp) h
  split at hd
  · obtain ⟨_, h⟩ := b hd; obtain ⟨_, h⟩ := b h; exact fin (by simp) h
  split at hd
  · obtain ⟨_, h⟩ := b hd; obtain ⟨_, h⟩ := b h; exact fin (by simp) h
  split at hd
  · exact fin (by decide) hd
  split at hd
  · unfold rectF at hd
    obtain ⟨_, h⟩ := b hd; obtain ⟨_, h⟩ := b h; obtain ⟨_, h⟩ := b h; obtain ⟨_, h⟩ := b h; obtain ⟨_, h⟩ := b h; obtain ⟨_, h⟩ := b h; exact fin (by simp) h
  · exact fin (by decide) hd
theorem draw_here {nm : By} (m : Mx) (h h' : Int × Int) (l : List Int) (hn : nm = [109] ∨ nm = [114, 101]) : drawF nm m h l = drawF nm m h' l := by
  rcases hn with rfl | rfl <;> rfl
section
variable {w0 w w' w1 : World} {s : Slc} {L : List Ob} {a d : ByteArray}
attribute [local irreducible] Ld Sh.St Nw Nn LdS
theorem c_knows (a : ByteArray) (w : World) : C21 a w fun r w1 => r = decide (bl a ∈ nine) ∧ Ext (fun _ => False) w w1 := by
  refine T21 _ _ _ ?_
  unfold S21
  refine (Hn.start w).nw (cs := strsB nine) fun w2 H => ?_
  refine (c_contains (SL.blk (H.get 0 rfl) rfl) (by decide) a).mono ?_
  rintro r w3 ⟨rfl, rfl⟩
  exact ⟨rfl, H.ext⟩
theorem c_nums (h : OV w s L) (hl : L.length ≤ 100000) (hk : ∀ o ∈ L, o.1 = 2 ∨ o.1 = 3) : C26 (a, s, d) w fun r e w1 => Ext (fun _ => False) w w1 ∧ match nmO L with
    | none => e = 2
    | some l => e = 0 ∧ IO w w1 r l := by
  refine T26 (a, s, d) _ _ ?_
  unfold S26
  refine (Hn.start w).nw fun w2 H => ?_
  simp only [List.nil_append, add_lit, Nat.zero_add] at H ⊢
  have hlen := h.1
  refine H.ld 0 rfl rfl ?_
  refine ⟨fun n st w3 => ∃ (i : Nat) (l : List Int), st.2 = (i : Int) ∧ i ≤ L.length ∧ n = L.length - i ∧ l.length ≤ i ∧ IO w w3 st.1 l ∧ Ext (fun _ => False) w w3 ∧ nmO L = nmAt L i l, L.length, ⟨0, [], rfl, by omega, rfl, Nat.le_refl _, IO.nil _ _, H.ext, (nmAt_0 L).symm⟩, ?_⟩
  clear H
  rintro n ⟨r, st⟩ w3 ⟨i, l, hst, hi, rfl, hll, ho, e3, hn⟩
  simp only at hst ho
  subst hst
  unfold S26L1
  dsimp only
  rw [hlen]
  refine Br.dec (fun q => ⟨by omega, by omega, ?_⟩) fun q => ?_
  · have hlt : i < L.length := by omega
    have hLi : L[i]? = some L[i] := List.getElem?_eq_getElem hlt
    obtain ⟨ad, ha, c0, c1, c2, c3, c4, c5⟩ := (h.keep e3).get hLi
    have hkk := hk L[i] (List.getElem_mem hlt)
    rw [ha, Int.toNat_natCast]
    refine Nn.of (Ld.mk c0 (Ld.mk c1 (Ld.mk c2 (Ld.mk c3 (Ld.mk c4 (Ld.mk c5 ?_))))))
    refine (Hn.start w3).nw fun w4 H => ?_
    simp only [List.nil_append, add_lit, Nat.zero_add] at H ⊢
    iterate 6 (refine H.st 0 rfl (by simp) fun _ H => ?_; simp only [List.set_cons_zero, List.set_cons_succ] at H)
    have num : ∀ (B : World → Prop) (K : Slc → World → Prop) (v : World), Ext (fun _ => False) w3 v → (numV L[i] = none → ∀ w5, Ext (fun _ => False) w w5 → B w5) → (∀ x r' w5, numV L[i] = some x → IO w w5 r' (l ++ [x]) → Ext (fun _ => False) w w5 → K r' w5) →
        C46 (L[i].1, L[i].2.1, L[i].2.2.1, L[i].2.2.2.1, L[i].2.2.2.2.1, L[i].2.2.2.2.2) v fun r28 r29 vw30 => Br (!r29) (B vw30) (Nw vw30 (.cells #[.int .i64 r28] 2) fun vw31 =>
            Rn Tryd.prog (Builtin.append_ #[55, 55] 55 #[Slc.v r, Slc.v ((⟨some ⟨vw30.heap.size, 0, none⟩, 1, 1⟩ : Slc))]) vw31 Slc.v fun (x32 : Slc) vw33 => K x32 vw33) := by
      intro B K v ev k1 k2
      refine (c_number L[i] v).mono ?_
      rintro x ok w5 ⟨hv, e5⟩
      have e35 := ev.tr e5
      cases hx : numV L[i] with
      | none =>
        rw [hx] at hv
        cases hv
        exact Br.t rfl (k1 hx w5 (e3.tr e35))
      | some y =>
        rw [hx] at hv
        cases hv
        exact Br.f rfl (IO.snoc (w0 := w) ⟨ho.1.keep e35 fun _ _ e => e, ho.2⟩ (e3.tr e35) (by omega) fun r' w' ho' e' => k2 x r' w' hx ho' e')
    have hw : IntKind.i64.wrap ((i : Int) + 1) = ((i + 1 : Nat) : Int) := by rw [i64_id (by omega)]; rfl
    rw [hw]
    have rest : ∀ x r' w5, numV L[i] = some x → IO w w5 r' (l ++ [x]) → Ext (fun _ => False) w w5 → ∃ m', m' < L.length - i ∧ ∃ (k : Nat) (l' : List Int), ((i + 1 : Nat) : Int) = (k : Int) ∧ k ≤ L.length ∧ m' = L.length - k ∧ l'.length ≤ k ∧ IO w w5 r' l' ∧ Ext (fun _ => False) w w5 ∧ nmO L = nmAt L k l' := fun x r' w5 hx ho' e' =>
      ⟨L.length - (i + 1), by omega, i + 1, l ++ [x], rfl, by omega, rfl, by rw [List.length_append, List.length_singleton]; omega, ho', e', hn.trans (nmAt_yes hlt l hx)⟩
    refine H.ld 0 rfl rfl (Br.ne (fun q2 => H.ld 0 rfl rfl (Br.ne (fun q3 => (hkk.elim q2 q3).elim) fun q3 => ?_)) fun q2 => ?_)
    · iterate 6 refine H.ld 0 rfl rfl ?_
      exact num _ _ _ H.ext (fun hx w5 e5 => by rw [hn, nmAt_no hlt l hx]; exact ⟨e5, by trivial⟩) rest
    · iterate 6 refine H.ld 0 rfl rfl ?_
      exact num _ _ _ H.ext (fun hx w5 e5 => by rw [hn, nmAt_no hlt l hx]; exact ⟨e5, by trivial⟩) rest
  · have : i = L.length := by omega
    subst this
    rw [nmAt_end] at hn
    rw [hn]
    exact ⟨e3, by trivial, ho⟩
end
end Pat
end Go.Proofs.YtdchpkbpnfoknaaDoor

/- Paths in memory; (*Path).Do. Conditions: sizes; the table of spaces is laid. -/
namespace Go.Proofs.YtdchpkbpnfoknaaDoor
namespace Pat
open Sh Mat Fix Opr
set_option linter.unusedVariables false
set_option linter.unusedSimpArgs false
set_option maxRecDepth 8000
set_option maxHeartbeats 8000000
theorem BrNB {a b : ByteArray} {A B : Prop} (h1 : ¬ bl a = bl b → A) (h2 : bl a = bl b → B) : Br (!(a.toList == b.toList)) A B := by
  rw [eqB]
  by_cases h : bl a = bl b
  · rw [decide_eq_true h]
    exact h2 h
  · rw [decide_eq_false h]
    exact h1 h
def parow (sg : Slc) (bg : Int × Int) (cl : Bool) : List Value := [Slc.v sg, .int .i64 bg.1, .int .i64 bg.2, .bool cl]
/-- A path, in its block. -/
structure PV (w : World) (b : Nat) (p : Pa) (sg : Slc) : Prop where
  blk : Blk w b (parow sg p.bg p.cl).toArray 68
  seg : Row w sg 38 7 (sgs p.L)
  own : ∀ j, sg.own j → j ≠ b
  few : p.L.length ≤ 8192
section
variable {w0 w w' w1 w7 : World} {s sg : Slc} {L : List Ob} {a d : ByteArray} {b : Nat} {p : Pa} {m : Mx}
theorem PV.keepF {F : Nat → Prop} (h : PV w b p sg) (he : Ext F w w') (hb : ¬ F b) (ho : ∀ j, sg.own j → ¬ F j) : PV w' b p sg :=
  ⟨he.blk h.blk hb, h.seg.keep he ho, h.own, h.few⟩
theorem PV.keep (h : PV w b p sg) (he : Ext (fun _ => False) w w') : PV w' b p sg := h.keepF he id fun _ _ e => e
theorem PV.len (h : PV w b p sg) : sg.len = p.L.length := by
  have := h.seg.1
  rw [sgs_len] at this
  omega
theorem PV.sv (h : PV w b p sg) : SV w sg p.L := SV.row h.seg
attribute [local irreducible] Ld Sh.St Nw Nn LdS
theorem c_current (h : PV w b p sg) (hne : p.L ≠ []) : C24 (some ⟨b, 0, none⟩) w fun r w1 => r = curS p.L p.bg ∧ Ext (fun _ => False) w w1 := by
  refine T24 _ _ _ ?_
  unfold S24
  refine (Hn.start w).nw fun w2 H => ?_
  simp only [List.nil_append, add_lit, Nat.zero_add] at H ⊢
  have H := H.drew
  have P2 := h.keep H.ext
  have hl0 : 0 < p.L.length := List.length_pos_iff.2 hne
  have hfew := h.few
  refine ⟨fun w' => PV w' b p sg, P2, Nn.of ?_⟩
  refine LdS.of (fun w' (h' : PV w' b p sg) => h'.blk) rfl (Nn.of ?_)
  refine LdS.of (fun w' (h' : PV w' b p sg) => h'.blk) rfl ?_
  have hi : IntKind.i64.wrap (((sg.len : Nat) : Int) - 1) = ((p.L.length - 1 : Nat) : Int) := by rw [h.len, i64_id (by omega)]; omega
  rw [hi, Int.toNat_natCast]
  have hlast : p.L[p.L.length - 1]? = some p.L[p.L.length - 1] := List.getElem?_eq_getElem (by omega)
  have hget : p.L.getLast? = some p.L[p.L.length - 1] := by rw [List.getLast?_eq_getElem?, hlast]
  generalize p.L[p.L.length - 1] = o at hlast hget
  obtain ⟨ad, ha, hc⟩ := P2.sv.get hlast
  have hlen := h.len
  rw [ha]
  refine ⟨by omega, by omega, Nn.of ?_⟩
  have cell : ∀ (j : Nat) (v : Value), (sgrow o)[j]? = some v → ∀ w', PV w' b p sg → w'.cell? ((ad.add ((p.L.length - 1) * 7)).add j) = some v := fun j v hj w' h' => by
    obtain ⟨ad', ha', hc'⟩ := h'.sv.get hlast
    rw [ha] at ha'
    cases ha'
    exact hc' j v hj
  have cell0 : ∀ w', PV w' b p sg → w'.cell? (ad.add ((p.L.length - 1) * 7)) = some (.int .i64 o.1) := fun w' h' => by
    have := cell 0 _ rfl w' h'
    rw [add_add', Nat.add_zero] at this
    exact this
  refine ldS_mk cell0 (ldS_mk (cell 1 _ rfl) (ldS_mk (cell 2 _ rfl) (ldS_mk (cell 3 _ rfl) (ldS_mk (cell 4 _ rfl) (ldS_mk (cell 5 _ rfl) (ldS_mk (cell 6 _ rfl) ?_))))))
  refine H.nw fun w3 H3 => ?_
  refine ⟨h.keep H3.ext, ?_⟩
  simp only [List.cons_append, List.nil_append] at H3
  iterate 7 (refine H3.st 1 rfl (by simp) fun _ H3 => ?_; simp only [List.set_cons_zero, List.set_cons_succ] at H3)
  refine H3.ld 1 rfl rfl ?_
  refine Br.ne (fun q => ?_) fun q => ?_
  · iterate 2 refine H3.ld 1 rfl rfl ?_
    iterate 2 (refine H3.st 0 rfl (by simp) fun _ H3 => ?_; simp only [List.set_cons_zero, List.set_cons_succ] at H3)
    iterate 2 refine H3.ld 0 rfl rfl ?_
    refine ⟨?_, H3.ext⟩
    unfold curS
    rw [hget]
    exact (if_neg q).symm
  · have P3 := h.keep H3.ext
    refine Nn.of ?_
    simp only [add_lit, Nat.zero_add]
    refine Ld.of P3.blk rfl (Ld.of P3.blk rfl ?_)
    iterate 2 (refine H3.st 0 rfl (by simp) fun _ H3 => ?_; simp only [List.set_cons_zero, List.set_cons_succ] at H3)
    iterate 2 refine H3.ld 0 rfl rfl ?_
    refine ⟨?_, H3.ext⟩
    unfold curS
    rw [hget]
    exact (if_pos q).symm
/-- The result is stored, and read again. -/
theorem c_fin {R : Int → World → Prop} {eb : Nat} {t : TypeId} {v0 : Value} {r : Int} (hb : Blk w7 eb ([v0] : List Value).toArray t) (k : ∀ w8, Ext (· = eb) w7 w8 → R r w8) : Sh.St w7 ⟨eb, 0, none⟩ (.int .i64 r) fun w8 => CD19 ⟨eb, 0, none⟩ none w8 fun w9 => Ld w9 ⟨eb, 0, none⟩ (Value.int .i64) fun (y : Int) => R y w9 := by
  refine stB hb (Nat.lt_succ_self 0) fun w8 g8 e8 => T19_nil _ _ _ ?_
  unfold S19_nil
  refine Ld.mk (x := r) ?_ (k w8 e8)
  rw [g8.cell]
  rfl
theorem c_pan {R : Int → World → Prop} {t : TypeId} {v0 : Value} {r : Int} (w3 : World) (hb : Blk w7 w3.heap.size ([v0] : List Value).toArray t) (k : ∀ w8, Ext (· = w3.heap.size) w7 w8 → R r w8) : S5P w3 R (gu r) w7 := by
  unfold S5P
  refine T19_T70 _ _ _ _ ?_
  unfold S19_T70
  have hlt := hb.lt
  refine (Hn.start w7).nw fun w8 H => ?_
  simp only [List.nil_append] at H
  refine H.st 0 rfl (by simp) fun w9 H => ?_
  simp only [List.set_cons_zero, List.set_cons_succ] at H
  refine H.ld 0 rfl rfl ?_
  refine stB (H.ext.blk hb id) (Nat.lt_succ_self 0) fun w10 g10 e10 => ?_
  refine Ld.mk (x := r) ?_ (k w10 ((H.ext.mono fun _ _ e => e.elim).tr e10))
  rw [g10.cell]
  rfl
/-- What Do gives. -/
def DoR (w w1 : World) (b : Nat) (sg : Slc) (r : Int) (q : Int × Pa) : Prop := ∃ sg', q.1 = r ∧ PV w1 b q.2 sg' ∧ Ext (fun j => j = b ∨ sg.own j) w w1 ∧ ∀ j, sg'.own j → sg.own j ∨ w.heap.size ≤ j
theorem nine_clip : ∀ l ∈ nine, (((l.getD 0 0).toNat : Int) == 87) = clipN l ∧ 0 < l.length := by decide
theorem c_do (hs : AS w) (hp : PV w b p sg) (h : OV w s L) (hl : L.length ≤ 9223372036854775807) : C5 (some ⟨b, 0, none⟩) (a, s, d) m w fun r w1 => DoR w w1 b sg r (doP p (bl a) (bl d) L m) := by
  refine T5 _ (a, s, d) m _ _ ?_
  unfold S5
  have hbl := hp.blk.lt
  have hlen := hp.len
  have hfew := hp.few
  refine (Hn.start w).nw fun w2 H => ?_
  refine H.nw fun w3 H => ?_
  have s3 : w.heap.size < w3.heap.size := H.lt 0 rfl
  refine H.nw fun w4 H => ?_
  simp only [List.cons_append, List.nil_append, add_lit, Nat.zero_add] at H ⊢
  let base : List (Nat × List Value × TypeId) := [(w.heap.size, [.string a, Slc.v s, .string d], 31), (w2.heap.size, mrow m, 23), (w3.heap.size, [.int .i64 0], 26)]
  have H : Hn w w4 base := H
  have l0 := H.lt 0 rfl
  have l1 := H.lt 1 rfl
  have l2 := H.lt 2 rfl
  have same : ∀ {w7 w8 : World} {r : Int}, Ext (fun _ => False) w w7 → Ext (· = w3.heap.size) w7 w8 → doP p (bl a) (bl d) L m = (r, p) → DoR w w8 b sg r (doP p (bl a) (bl d) L m) := fun {w7 w8 r} e7 e8 hd => by
    rw [hd]
    refine ⟨sg, rfl, (hp.keep e7).keepF e8 (by omega) fun j hj e => ?_, (e7.trans e8 (fun _ e => e.elim) fun j hj e => ?_), fun j hj => .inl hj⟩
    · have := hp.seg.own_lt hj
      omega
    · omega
  refine (c_need _ 1 _).mono ?_ ?_
  rotate_left
  · rintro v w5 ⟨rfl, hh, rfl⟩
    cases hh
  rintro w5 ⟨_, rfl⟩
  refine H.ld 0 rfl rfl ?_
  refine (c_knows a _).mono ?_
  rintro r w6 ⟨rfl, e6⟩
  have H := H.keep e6
  refine (c_need _ 8 _).mono ?_ ?_
  rotate_left
  · rintro v w7 ⟨rfl, hh, rfl⟩
    have hh := of_decide_eq_false hh
    exact c_pan w3 (H.get 2 rfl) fun w8 e8 => same H.ext e8 (by unfold doP; rw [if_pos hh])
  rintro w7 ⟨hk, rfl⟩
  have hk := of_decide_eq_true hk
  have H := H.drew
  refine ⟨fun w' => Hn w w' base, H, ?_⟩
  iterate 6 refine LdS.of (fun w' (h' : Hn w w' base) => h'.get 0 rfl) rfl ?_
  refine (c_check (hs.keep H.ext) (h.keep H.ext) hl).mono ?_
  rintro r w8 ⟨rfl, e8⟩
  have H := H.keep e8
  refine ⟨H, (c_mustO a d s _ _).mono ?_ ?_⟩
  rotate_left
  · rintro v w9 ⟨hne, rfl, e9⟩
    have H := H.keep e9
    exact c_pan w3 (H.get 2 rfl) fun w8 e8 => same H.ext e8 (by unfold doP; rw [if_neg (fun hn => hn hk), if_pos hne])
  rintro r w9 ⟨hck, e9⟩
  have H := H.keep e9
  iterate 6 refine H.ld 1 rfl rfl ?_
  have hL6 : L.length ≤ 6 := by
    obtain ⟨_, h1, _⟩ := chk0 hck
    have := (takes_low (bl a)).1
    omega
  have hgb : b < w9.heap.size := by have := H.size; omega
  have k0 := H.lt 0 rfl
  have k1 := H.lt 1 rfl
  have k2 := H.lt 2 rfl
  have sw := H.size
  refine H.nw' (cs := pnrow m nilS (0, 0) nilS) fun w10 H10 e10 => ?_
  have g10 := H10.get 3 rfl
  have H : Hn w w10 base := H.keep e10
  have gl10 := g10.lt
  clear H10
  have nb : ∀ j, j = w9.heap.size → w.heap.size ≤ j ∧ j ∉ base.map (·.1) := fun j hj => by
    simp only [base, List.map_cons, List.map_nil, List.mem_cons, List.not_mem_nil, or_false]
    omega
  refine Join.intro ?_
  have main : ∀ (h0 : Int × Int) (w11 : World), Hn w w11 base → Blk w11 w9.heap.size (pnrow m nilS h0 nilS).toArray 77 → ¬ (bl a ≠ [109] ∧ bl a ≠ [114, 101] ∧ p.L = []) → (∀ l, drawF (bl a) m h0 l = drawF (bl a) m (curS p.L p.bg) l) →
      S5J1 w (some ⟨b, 0, none⟩) w3 w9 (fun r w1 => DoR w w1 b sg r (doP p (bl a) (bl d) L m)) () w11 := by
    intro h0 w11 H g11 hguard hdr
    have hdo : doP p (bl a) (bl d) L m = (match nmO L with
        | none => (2, p)
        | some l => match drawF (bl a) m h0 l with
          | none => (2, p)
          | some T => if p.L.length + T.length ≤ 8192 then (0, ⟨p.L ++ T, T.foldl bgF p.bg, p.cl || clipN (bl a)⟩) else (6, p)) := by
      unfold doP
      rw [if_neg (fun hn => hn hk), if_neg (fun hn => hn hck), if_neg hguard]
      cases nmO L with
      | none => rfl
      | some l =>
        dsimp only
        rw [hdr l]
        all_goals (cases drawF (bl a) m (curS p.L p.bg) l <;> rfl)
    have gl := g11.lt
    unfold S5J1
    simp only [add_lit, Nat.zero_add]
    iterate 3 refine H.ld 0 rfl rfl ?_
    refine (c_nums (h.keep H.ext) (by omega) (nine_kinds hk hck)).mono ?_
    rintro r49 e50 w12 ⟨e12, hnum⟩
    have H := H.keep e12
    refine (c_mustN r49 e50 _).mono ?_ ?_
    rotate_left
    · rintro v w13 ⟨hne, rfl, rfl⟩
      cases hn : nmO L with
      | none =>
        rw [hn] at hnum hdo
        obtain rfl : e50 = 2 := hnum
        exact c_pan w3 (H.get 2 rfl) fun w8 e8 => same H.ext e8 hdo
      | some l =>
        rw [hn] at hnum
        exact absurd hnum.1 hne
    rintro r w13 ⟨rfl, rfl, rfl⟩
    cases hn : nmO L with
    | none =>
      rw [hn] at hnum
      cases hnum
    | some l =>
    rw [hn] at hnum hdo
    obtain ⟨_, hio⟩ := hnum
    dsimp only at hdo
    refine Nn.of ?_
    rw [add_lit, Nat.zero_add]
    refine stB (e12.blk g11 id) (by simp [pnrow, mrow]) fun w14 g14 e14 => ?_
    rw [pn_set6] at g14
    have H14 := H.other e14 nb
    have s14 := e14.size
    have s12 := e12.size
    have P0 : Pn w14 w14 w9.heap.size m r l h0 nilS [] := by
      refine ⟨g14, hio.iv.keepF e14 fun j hj e => by have e : j = w9.heap.size := e; have := hio.2 j hj; omega, ?_, Row.nil _ _ _, by omega, fun j hj => ⟨by have := hio.1.own_lt hj; omega, by have := hio.2 j hj; omega⟩, fun j hj => (by obtain ⟨a', ha', _⟩ := hj; cases ha'), Ext.refl _ _⟩
      rcases hio.1.2 with rfl | ⟨_, _, _, _, hcap, _⟩
      · exact Nat.le_refl _
      · exact hcap
    refine H14.ld 0 rfl rfl ?_
    refine (c_draw P0 (by rw [nmO_len hn, (chk0 hck).2.1]) (by simp) hk).mono ?_ ?_
    rotate_left
    · rintro v w15 ⟨rfl, hd, e15⟩
      rw [hd] at hdo
      have H15 := H14.other e15 nb
      exact c_pan w3 (H15.get 2 rfl) fun w8 e8 => same H15.ext e8 hdo
    rintro w15 ⟨ps', T', ns', l', hd, P15⟩
    rw [hd] at hdo
    dsimp only at hdo
    simp only [List.nil_append] at P15
    have hT5 := draw_len hd
    have H15 := H14.other P15.ext nb
    have hp15 := hp.keep H15.ext
    refine Nn.of ?_
    refine Ld.of (hp15.blk.drew) rfl (Nn.of ?_)
    rw [add_lit, Nat.zero_add]
    refine Ld.of P15.blk.drew rfl ?_
    have hpl := P15.plen
    rw [i64_id (by omega)]
    have H15 := H15.drew
    refine (c_need _ 6 _).mono ?_ ?_
    rotate_left
    · rintro v w16 ⟨rfl, hh, rfl⟩
      have hh := of_decide_eq_false hh
      rw [if_neg (by omega)] at hdo
      exact c_pan w3 (H15.get 2 rfl) fun w8 e8 => same H15.ext e8 hdo
    rintro w16 ⟨hh, rfl⟩
    have hh := of_decide_eq_true hh
    rw [if_pos (by omega)] at hdo
    have H16 := H15.drew
    have P16 := (P15.keep (Ext.refl _ w15).drew).keep (Ext.refl _ w15.drew).drew
    generalize w15.drew.drew = u at H16 P16 ⊢
    have hpu := hp.keep H16.ext
    refine ⟨fun w' => Blk w' b (parow sg p.bg p.cl).toArray 68 ∧ Blk w' w9.heap.size (pnrow m ns' h0 ps').toArray 77, ⟨hpu.blk, P16.blk⟩, Nn.of ?_⟩
    refine LdS.of (fun w' h' => h'.1) rfl (Nn.of ?_)
    rw [add_lit, Nat.zero_add]
    refine LdS.of (fun w' h' => h'.2) rfl ?_
    obtain ⟨s', v2, r1, r2, r3, r4, r5⟩ := elSg.app (ty := 33) hpu.seg P16.par.view (sgs_one T') (by omega) (by omega)
    refine ⟨s', v2, r1, Nn.of ?_⟩
    have su := H16.size
    have so : ∀ j, sg.own j → j < w.heap.size ∧ j ≠ b := fun j hj => ⟨hp.seg.own_lt hj, hp.own j hj⟩
    have so' : ∀ j, s'.own j → sg.own j ∨ w.heap.size ≤ j := fun j hj => (r5 j hj).imp id fun h => by omega
    have sob : ∀ j, s'.own j → j ≠ b := fun j hj => (so' j hj).elim (fun h => (so j h).2) fun h => by omega
    refine stB (r4.blk hpu.blk fun hj => (so b hj).2 rfl) (by simp [parow]) fun v3 b3 e3 => ?_
    have b3 : Blk v3 b (parow s' p.bg p.cl).toArray 68 := b3
    have Ev3 : Ext (fun j => j = b ∨ sg.own j) u v3 := r4.trans e3 (fun _ h => .inr h) fun j _ h => .inl h
    have gne : ¬ (w9.heap.size = b ∨ sg.own w9.heap.size) := fun h => h.elim (fun h => by omega) fun h => by have := (so _ h).1; omega
    have g3 := Ev3.blk P16.blk gne
    refine Nn.of ?_
    rw [add_lit, Nat.zero_add]
    refine Ld.of g3 rfl ?_
    have hrow3 : Row v3 s' 38 7 (sgs (p.L ++ T')) := by
      rw [sgs_app]
      exact r2.keep e3 fun j hj e => sob j hj e
    have hps3 : SV v3 ps' T' := (SV.row P16.par).keepF Ev3 fun j hj h => by
      have h1 := P16.pown j hj
      have h2 := P16.ng
      rcases h with h | h
      · have h : j = b := h
        omega
      · have := (so j h).1
        omega
    have eb3 : Blk v3 w3.heap.size ([.int .i64 0] : List Value).toArray 26 := Ev3.blk (H16.get 2 rfl) fun h => h.elim (fun h => by omega) fun h => by have := (so _ h).1; omega
    have op3 : Blk v3 w.heap.size ([.string a, Slc.v s, .string d] : List Value).toArray 31 := Ev3.blk (H16.get 0 rfl) fun h => h.elim (fun h => by omega) fun h => by have := (so _ h).1; omega
    have sv3 := Ev3.size
    refine ⟨fun n st v => ∃ i : Nat, st = (i : Int) ∧ i ≤ T'.length ∧ n = T'.length - i ∧ Blk v b (parow s' ((T'.take i).foldl bgF p.bg) p.cl).toArray 68 ∧ Ext (· = b) v3 v, T'.length, ⟨0, rfl, by omega, rfl, b3, Ext.refl _ _⟩, ?_⟩
    rintro n st v ⟨i, rfl, hi, rfl, bv, ev⟩
    unfold S5L1
    rw [hpl]
    have sv := ev.size
    have hpsv := hps3.keepF ev fun j hj e => by
      have e : j = b := e
      have h1 := P16.pown j hj
      have h2 := P16.ng
      omega
    refine Br.dec (fun q => ⟨by omega, by omega, ?_⟩) fun q => ?_
    · have hlt : i < T'.length := by omega
      have ho : T'[i]? = some T'[i] := List.getElem?_eq_getElem hlt
      have htake : T'.take (i + 1) = T'.take i ++ [T'[i]] := by rw [List.take_add_one, ho]; rfl
      generalize T'[i] = o at ho htake
      obtain ⟨ad, ha, hc⟩ := hpsv.get ho
      have hc0 := hc 0 _ rfl
      rw [add_add', Nat.add_zero] at hc0
      rw [ha, Int.toNat_natCast]
      refine Nn.of (Ld.mk hc0 (Ld.mk (hc 1 _ rfl) (Ld.mk (hc 2 _ rfl) (Ld.mk (hc 3 _ rfl) (Ld.mk (hc 4 _ rfl) (Ld.mk (hc 5 _ rfl) (Ld.mk (hc 6 _ rfl) ?_)))))))
      refine (Hn.start v).nw fun v5 H5 => ?_
      simp only [List.nil_append, add_lit, Nat.zero_add] at H5 ⊢
      iterate 7 (refine H5.st 0 rfl (by simp) fun _ H5 => ?_; simp only [List.set_cons_zero, List.set_cons_succ] at H5)
      have bv5 := H5.ext.blk bv id
      have ev5 : Ext (· = b) v3 _ := ev.tr (H5.ext.mono fun _ _ e => e.elim)
      refine H5.ld 0 rfl rfl ?_
      have hw : IntKind.i64.wrap ((i : Int) + 1) = ((i + 1 : Nat) : Int) := by rw [i64_id (by omega)]; rfl
      refine Br.eq (fun q2 => ?_) fun q2 => ?_
      · iterate 2 refine H5.ld 0 rfl rfl ?_
        refine Nn.of ?_
        simp only [add_lit, Nat.zero_add]
        refine stB bv5 (by simp [parow]) fun v6 b6 e6 => ?_
        refine stB b6 (by simp [parow]) fun v7 b7 e7 => ?_
        refine ⟨T'.length - (i + 1), by omega, i + 1, hw, by omega, rfl, ?_, (ev5.tr e6).tr e7⟩
        rw [htake, List.foldl_append]
        have : List.foldl bgF (List.foldl bgF p.bg (T'.take i)) [o] = (o.2.2.2.2.2.1, o.2.2.2.2.2.2) := if_pos q2
        rw [this]
        exact b7
      · refine ⟨T'.length - (i + 1), by omega, i + 1, hw, by omega, rfl, ?_, ev5⟩
        rw [htake, List.foldl_append]
        have : List.foldl bgF (List.foldl bgF p.bg (T'.take i)) [o] = List.foldl bgF p.bg (T'.take i) := if_neg q2
        rw [this]
        exact bv5
    · have hiT : i = T'.length := by omega
      subst hiT
      rw [List.take_length] at bv
      refine Nn.of ?_
      simp only [add_lit, Nat.zero_add]
      have fin : ∀ (c : Bool), c = (p.cl || clipN (bl a)) → Sh.St v ⟨b, 3, none⟩ (.bool c) fun v6 => Sh.St v6 ⟨w3.heap.size, 0, none⟩ (.int .i64 0) fun v7 => CD19 ⟨w3.heap.size, 0, none⟩ none v7 fun v8 => Ld v8 ⟨w3.heap.size, 0, none⟩ (Value.int .i64) fun (y : Int) => DoR w v8 b sg y (doP p (bl a) (bl d) L m) := by
        rintro c rfl
        refine stB bv (by simp [parow]) fun v6 b6 e6 => ?_
        refine c_fin ((ev.tr e6).blk eb3 (by omega)) fun v8 e8 => ?_
        rw [hdo]
        have Eall : Ext (· = b) v3 v6 := ev.tr e6
        have s6 := Eall.size
        refine ⟨s', rfl, ⟨e8.blk b6 (by omega), (hrow3.keep Eall fun j hj e => sob j hj e).keep e8 fun j hj e => ?_, sob, ?_⟩, ?_, so'⟩
        · have e : j = w3.heap.size := e
          rcases r5 j hj with h | h
          · have := (so j h).1
            omega
          · have := P16.ng
            have := P16.ext.size
            omega
        · show (p.L ++ T').length ≤ 8192
          rw [List.length_append]
          omega
        · refine ((H16.ext.trans Ev3 (fun _ e => e.elim) fun j _ h => h).trans Eall (fun _ h => h) fun j _ h => .inl h).trans e8 (fun _ h => h) fun j hj e => by omega
      refine Ld.of bv rfl ?_
      cases hcl : p.cl with
      | true =>
        refine Br.t rfl (Nn.of ?_)
        simp only [add_lit, Nat.zero_add]
        exact fin true (by rw [hcl]; rfl)
      | false =>
        refine Br.f rfl (Ld.of (ev.blk op3 (by omega)) rfl ?_)
        obtain ⟨q1, q2⟩ := nine_clip _ hk
        refine ⟨by omega, by rw [bl_size]; omega, Nn.of ?_⟩
        simp only [add_lit, Nat.zero_add]
        exact fin _ (by rw [hcl, Bool.false_or, ← q1]; congr 1; exact bAt_list a 0)
  refine H.ld 0 rfl rfl (BrNB (fun nm => ?_) fun qm => ?_)
  rotate_left
  · have qm : bl a = [109] := qm
    exact main (0, 0) w10 H g10 (fun h => h.1 qm) fun l => draw_here m _ _ l (.inl qm)
  refine H.ld 0 rfl rfl (BrNB (fun nre => ?_) fun qre => ?_)
  rotate_left
  · have qre : bl a = [114, 101] := qre
    exact main (0, 0) w10 H g10 (fun h => h.2.1 qre) fun l => draw_here m _ _ l (.inr qre)
  have hp10 := hp.keep H.ext
  refine Nn.of (Ld.of hp10.blk rfl ?_)
  refine (c_need _ 29 _).mono ?_ ?_
  rotate_left
  · rintro v w11 ⟨rfl, hh, rfl⟩
    have hh := of_decide_eq_false hh
    have hnil : p.L = [] := List.eq_nil_of_length_eq_zero (by omega)
    exact c_pan w3 (H.get 2 rfl) fun w8 e8 => same H.ext e8 (by unfold doP; rw [if_neg (fun hn => hn hk), if_neg (fun hn => hn hck), if_pos ⟨nm, nre, hnil⟩])
  rintro w11 ⟨hh, rfl⟩
  have hh := of_decide_eq_true hh
  have hne : p.L ≠ [] := fun e => by rw [e] at hlen; simp at hlen; omega
  refine (c_current hp10 hne).mono ?_
  rintro r w12 ⟨rfl, e12⟩
  have H := H.keep e12
  refine Nn.of ?_
  simp only [add_lit, Nat.zero_add]
  refine stB (e12.blk g10 id) (by simp [pnrow, mrow]) fun w13 g13 e13 => ?_
  refine stB g13 (by simp [pnrow, mrow]) fun w14 g14 e14 => ?_
  exact main (curS p.L p.bg) w14 (H.other (e13.tr e14) nb) g14 (fun h => hne h.2.2) fun l => rfl
end
end Pat
end Go.Proofs.YtdchpkbpnfoknaaDoor

/- Great structs in memory: read and written as one. Conditions: none. -/
namespace Go.Proofs.YtdchpkbpnfoknaaDoor
namespace Sh
set_option linter.unusedVariables false
set_option linter.unusedSimpArgs false
theorem Sig.cells_len : ∀ (ts : List Ty1) (x : Sig ts), (Sig.cells ts x).length = ts.length
  | [], _ => rfl
  | [t], _ => rfl
  | t :: u :: r, x => by
    show (_ :: Sig.cells (u :: r) x.2).length = _
    rw [List.length_cons, Sig.cells_len (u :: r) x.2]
    rfl
theorem LdT.mk {w : World} {b o : Nat} : ∀ (ts : List Ty1) (i : Nat) (x : Sig ts) (K : Sig ts → Prop), (∀ j v, (Sig.cells ts x)[j]? = some v → w.cell? ⟨b, o + i + j, none⟩ = some v) → K x → LdT w ⟨b, o, none⟩ i ts K
  | [], _, _, _, _, k => k
  | [t], i, x, K, h, k => by
    have h0 := h 0 (t.v x) rfl
    refine Ld.mk (x := x) ?_ k
    rw [add_lit]
    exact h0
  | t :: u :: r, i, x, K, h, k => by
    have h0 := h 0 (t.v x.1) rfl
    refine Ld.mk (x := x.1) ?_ (LdT.mk (u :: r) (i + 1) x.2 (fun y => K (x.1, y)) (fun j v hj => ?_) k)
    · rw [add_lit]
      exact h0
    · have := h (j + 1) v hj
      rw [show o + (i + 1) + j = o + i + (j + 1) by omega]
      exact this
theorem LdST.mk {S : World → Prop} {b o : Nat} : ∀ (ts : List Ty1) (i : Nat) (x : Sig ts) (K : Sig ts → Prop), (∀ w, S w → ∀ j v, (Sig.cells ts x)[j]? = some v → w.cell? ⟨b, o + i + j, none⟩ = some v) → K x → LdST S ⟨b, o, none⟩ i ts K
  | [], _, _, _, _, k => k
  | [t], i, x, K, h, k => ⟨x, fun w hw => by rw [add_lit]; exact h w hw 0 (t.v x) rfl, k⟩
  | t :: u :: r, i, x, K, h, k => ⟨x.1, fun w hw => by rw [add_lit]; exact h w hw 0 (t.v x.1) rfl, LdST.mk (u :: r) (i + 1) x.2 (fun y => K (x.1, y)) (fun w hw j v hj => by
      have := h w hw (j + 1) v hj
      rw [show o + (i + 1) + j = o + i + (j + 1) by omega]
      exact this) k⟩
theorem cells_blk {w : World} {b : Nat} {pre post : List Value} {t : TypeId} {ts : List Ty1} {x : Sig ts} (h : Blk w b (pre ++ (Sig.cells ts x ++ post)).toArray t) {j : Nat} {v : Value} (hj : (Sig.cells ts x)[j]? = some v) : w.cell? ⟨b, pre.length + j, none⟩ = some v := by
  have hl := (List.getElem?_eq_some_iff.1 hj).1
  rw [h.cell, List.getElem?_toArray, List.getElem?_append_right (by omega), Nat.add_sub_cancel_left, List.getElem?_append_left hl]
  exact hj
theorem LdT.blk {w : World} {b o : Nat} {pre post : List Value} {t : TypeId} {ts : List Ty1} {x : Sig ts} {K : Sig ts → Prop} (h : Blk w b (pre ++ (Sig.cells ts x ++ post)).toArray t) (ho : pre.length = o) (k : K x) : LdT w ⟨b, o, none⟩ 0 ts K :=
  LdT.mk ts 0 x K (fun j v hj => by rw [← ho]; exact cells_blk h hj) k
theorem LdST.blk {S : World → Prop} {b o : Nat} {pre post : List Value} {t : TypeId} {ts : List Ty1} {x : Sig ts} {K : Sig ts → Prop} (h : ∀ w, S w → Blk w b (pre ++ (Sig.cells ts x ++ post)).toArray t) (ho : pre.length = o) (k : K x) : LdST S ⟨b, o, none⟩ 0 ts K :=
  LdST.mk ts 0 x K (fun w hw j v hj => by rw [← ho]; exact cells_blk (h w hw) hj) k
theorem StT.of {b o : Nat} : ∀ (ts : List Ty1) (i : Nat) (x : Sig ts) (w : World) (K : World → Prop), StL b (o + i) (Sig.cells ts x) w K → StT ⟨b, o, none⟩ i ts x w K
  | [], _, _, _, _, h => h
  | [t], i, x, w, K, h => by
    show St w ((⟨b, o, none⟩ : Addr).add i) (t.v x) K
    rw [add_lit]
    exact h
  | t :: u :: r, i, x, w, K, h => by
    show St w ((⟨b, o, none⟩ : Addr).add i) (t.v x.1) fun w' => StT ⟨b, o, none⟩ (i + 1) (u :: r) x.2 w' K
    rw [add_lit]
    obtain ⟨h1, h2⟩ := h
    exact ⟨h1, StT.of (u :: r) (i + 1) x.2 _ K h2⟩
theorem Hn.stT {w0 w : World} {L : List (Nat × List Value × TypeId)} {b o : Nat} {t : TypeId} {i : Nat} {pre zs post : List Value} {ts : List Ty1} {x : Sig ts} {K : World → Prop} (h : Hn w0 w L) (hi : L[i]? = some (b, pre ++ (zs ++ post), t)) (ho : pre.length = o) (hz : zs.length = ts.length)
    (k : ∀ w2, Hn w0 w2 (L.set i (b, pre ++ (Sig.cells ts x ++ post), t)) → K w2) : StT ⟨b, o, none⟩ 0 ts x w K :=
  StT.of ts 0 x w K (Hn.stL (Sig.cells ts x) zs pre post (o + 0) w h hi ho (by rw [Sig.cells_len]; exact hz) k)
theorem Hn.ldT {w0 w : World} {L : List (Nat × List Value × TypeId)} {b o : Nat} {t : TypeId} {i : Nat} {pre post : List Value} {ts : List Ty1} {x : Sig ts} {K : Sig ts → Prop} (h : Hn w0 w L) (hi : L[i]? = some (b, pre ++ (Sig.cells ts x ++ post), t)) (ho : pre.length = o) (k : K x) : LdT w ⟨b, o, none⟩ 0 ts K :=
  LdT.blk (h.get i hi) ho k
/-- One cell after another of an old block is stored. -/
theorem stL_blk {b : Nat} {t : TypeId} {K : World → Prop} : ∀ (vs zs pre post : List Value) (o : Nat) (w : World), Blk w b (pre ++ (zs ++ post)).toArray t → pre.length = o → zs.length = vs.length → (∀ w2, Blk w2 b (pre ++ (vs ++ post)).toArray t → Ext (· = b) w w2 → K w2) → StL b o vs w K
  | [], zs, pre, post, o, w, h, ho, hz, k => by
    have : zs = [] := List.eq_nil_of_length_eq_zero hz
    subst this
    exact k w h (Ext.refl _ _)
  | v :: vs, [], pre, post, o, w, h, ho, hz, k => by cases hz
  | v :: vs, z :: zs, pre, post, o, w, h, ho, hz, k => by
    refine ⟨h.can (by rw [List.size_toArray, ← ho]; simp), ?_⟩
    have h2 := h.set o v
    have e : (pre ++ (z :: zs ++ post)).set o v = (pre ++ [v]) ++ (zs ++ post) := by
      rw [← ho, List.cons_append, set_at]
      simp
    rw [List.setIfInBounds_toArray, e] at h2
    refine stL_blk vs zs (pre ++ [v]) post (o + 1) _ h2 (by simp [ho]) (by simpa using hz) fun w3 h3 e3 => k w3 (by simpa using h3) (((Ext.refl (· = b) w).set (.inl rfl) v).tr e3)
theorem StT.blk {w : World} {b o : Nat} {t : TypeId} {pre zs post : List Value} {ts : List Ty1} {x : Sig ts} {K : World → Prop} (h : Blk w b (pre ++ (zs ++ post)).toArray t) (ho : pre.length = o) (hz : zs.length = ts.length)
    (k : ∀ w2, Blk w2 b (pre ++ (Sig.cells ts x ++ post)).toArray t → Ext (· = b) w w2 → K w2) : StT ⟨b, o, none⟩ 0 ts x w K :=
  StT.of ts 0 x w K (stL_blk (Sig.cells ts x) zs pre post (o + 0) w h ho (by rw [Sig.cells_len]; exact hz) k)
end Sh
end Go.Proofs.YtdchpkbpnfoknaaDoor

/- The formulas of 6 functions of the program, written by program (gen.py); the kernel checks each. No condition. -/
namespace Go.Proofs.YtdchpkbpnfoknaaDoor
open Sh
set_option linter.unusedVariables false
set_option maxRecDepth 100000

def C29 (s1 : Slc) (w : World) (R : Slc → World → Prop) : Prop :=
  Calls Tryd.prog 29 #[Slc.v s1] w fun e w' => ∃ r0 : Slc, e = .returned (Slc.v r0) ∧ R r0 w'
theorem C29.mono {s1 : Slc} {w : World} {R R' : Slc → World → Prop} (h : C29 s1 w R) (hr : ∀ r0 w', R r0 w' → R' r0 w') : C29 s1 w R' :=
  Calls.mono h fun _ _ ⟨r0, he, hR⟩ => ⟨r0, he, hr _ _ hR⟩
def C8 (x1 : Option Addr) (w : World) (R : Slc → World → Prop) : Prop :=
  Calls Tryd.prog 8 #[.pointer x1] w fun e w' => ∃ r0 : Slc, e = .returned (Slc.v r0) ∧ R r0 w'
theorem C8.mono {x1 : Option Addr} {w : World} {R R' : Slc → World → Prop} (h : C8 x1 w R) (hr : ∀ r0 w', R r0 w' → R' r0 w') : C8 x1 w R' :=
  Calls.mono h fun _ _ ⟨r0, he, hR⟩ => ⟨r0, he, hr _ _ hR⟩
def C32 (s11 : Slc) (s22 : Slc) (w : World) (R : Bool → World → Prop) : Prop :=
  Calls Tryd.prog 32 #[Slc.v s11, Slc.v s22] w fun e w' => ∃ r0 : Bool, e = .returned (.bool r0) ∧ R r0 w'
theorem C32.mono {s11 : Slc} {s22 : Slc} {w : World} {R R' : Bool → World → Prop} (h : C32 s11 s22 w R) (hr : ∀ r0 w', R r0 w' → R' r0 w') : C32 s11 s22 w R' :=
  Calls.mono h fun _ _ ⟨r0, he, hR⟩ => ⟨r0, he, hr _ _ hR⟩
def C11 (a1 : Slc) (b2 : Slc) (w : World) (R : Bool → World → Prop) : Prop :=
  Calls Tryd.prog 11 #[Slc.v a1, Slc.v b2] w fun e w' => ∃ r0 : Bool, e = .returned (.bool r0) ∧ R r0 w'
theorem C11.mono {a1 : Slc} {b2 : Slc} {w : World} {R R' : Bool → World → Prop} (h : C11 a1 b2 w R) (hr : ∀ r0 w', R r0 w' → R' r0 w') : C11 a1 b2 w R' :=
  Calls.mono h fun _ _ ⟨r0, he, hR⟩ => ⟨r0, he, hr _ _ hR⟩
def C15 (x1 : Option Addr) (o2 : ByteArray × Slc × ByteArray) (g3 : TyA58) (w : World) (R : (TyA51) → Bool → Int → World → Prop) : Prop :=
  Calls Tryd.prog 15 #[.pointer x1, .agg #[.string o2.1, Slc.v o2.2.1, .string o2.2.2], .agg (Sig.cells LiA58 g3).toArray] w fun e w' => ∃ r0 : TyA51, ∃ r1 : Bool, ∃ r2 : Int, e = .returned (.tuple #[.agg (Sig.cells LiA51 r0).toArray, .bool r1, .int .i64 r2]) ∧ R r0 r1 r2 w'
theorem C15.mono {x1 : Option Addr} {o2 : ByteArray × Slc × ByteArray} {g3 : TyA58} {w : World} {R R' : (TyA51) → Bool → Int → World → Prop} (h : C15 x1 o2 g3 w R) (hr : ∀ r0 r1 r2 w', R r0 r1 r2 w' → R' r0 r1 r2 w') : C15 x1 o2 g3 w R' :=
  Calls.mono h fun _ _ ⟨r0, r1, r2, he, hR⟩ => ⟨r0, r1, r2, he, hr _ _ _ _ hR⟩
def C16 (m1 : Int × Int × Int × Int × Int × Int) (w : World) (R : (TyA58) → World → Prop) : Prop :=
  Calls Tryd.prog 16 #[.agg #[.int .i64 (m1.1), .int .i64 (m1.2.1), .int .i64 (m1.2.2.1), .int .i64 (m1.2.2.2.1), .int .i64 (m1.2.2.2.2.1), .int .i64 (m1.2.2.2.2.2)]] w fun e w' => ∃ r0 : TyA58, e = .returned (.agg (Sig.cells LiA58 r0).toArray) ∧ R r0 w'
theorem C16.mono {m1 : Int × Int × Int × Int × Int × Int} {w : World} {R R' : (TyA58) → World → Prop} (h : C16 m1 w R) (hr : ∀ r0 w', R r0 w' → R' r0 w') : C16 m1 w R' :=
  Calls.mono h fun _ _ ⟨r0, he, hR⟩ => ⟨r0, he, hr _ _ hR⟩

/-- slices.Clone[[]foliant/api.Seg,foliant/api.Seg] -/
def S29 (s1 : Slc) (w : World) (R : Slc → World → Prop) : Prop :=
  Br s1.p.isNone (R (⟨none, 0, 0⟩ : Slc) w) (Nw w (.cells #[] 38) fun vw2 =>
    Rn Tryd.prog (Builtin.append_ #[33, 33] 33 #[Slc.v ((⟨some ⟨w.heap.size, 0, none⟩, 0, 0⟩ : Slc)), Slc.v s1]) vw2 Slc.v fun (x3 : Slc) vw4 =>
    R x3 vw4)
def pl29 : Plan := (.seq (.reg .seq) (.seq (.seq (.reg .seq) (.cond (.seq (.reg .seq) .leaf) .leaf)) (.seq (.reg .seq) .leaf)))
set_option maxRecDepth 100000 in
theorem T29 (s1 : Slc) (w : World) (R : Slc → World → Prop) (h : S29 s1 w R) : C29 s1 w R := by
  have e : fnT Tryd.prog ⟨FF, MAY, (fun _ _ => False)⟩ pl29 Tryd.f29 [Slc.v s1] w [(.one .slc)] (fun s w => R s w) = S29 s1 w R := by kernel_rfl
  exact (fn_calls okF okM Tryd.func29 (by kernel_rfl) (by kernel_rfl) (e.mpr h)).mono fun _ _ ⟨s, he, hR⟩ => ⟨s, he, hR⟩

/-- (*foliant/path.Path).Segs -/
def S8 (x1 : Option Addr) (w : World) (R : Slc → World → Prop) : Prop :=
  Br x1.isNone (R (⟨none, 0, 0⟩ : Slc) w) (Nn x1 fun a2 =>
    Ld w a2 Slc.v fun (x3 : Slc) =>
    C29 x3 w fun r4 vw5 =>
      R r4 vw5)
def pl8 : Plan := (.seq (.reg .seq) (.seq (.seq (.reg .seq) (.cond (.seq (.reg .seq) .leaf) .leaf)) (.seq (.reg .seq) .leaf)))
set_option maxRecDepth 100000 in
theorem T8 (x1 : Option Addr) (w : World) (R : Slc → World → Prop) (h : S8 x1 w R) : C8 x1 w R := by
  have e : fnT Tryd.prog ⟨FF, MAY, (fun _ _ => False)⟩ pl8 Tryd.f8 [.pointer x1] w [(.one .slc)] (fun s w => R s w) = S8 x1 w R := by kernel_rfl
  exact (fn_calls okF okM Tryd.func8 (by kernel_rfl) (by kernel_rfl) (e.mpr h)).mono fun _ _ ⟨s, he, hR⟩ => ⟨s, he, hR⟩

def S32L1 (s11 : Slc) (s22 : Slc) (R : Bool → World → Prop) (I5 : Int → World → Prop) (s3 : Int) (vw4 : World) : Prop :=
  Br (decide (s3 < ((s11.len : Nat) : Int))) (0 ≤ s3 ∧ s3 < (s11.len : Nat) ∧ Nn s11.p fun a6 =>
    Ld vw4.drew (a6.add ((s3).toNat * 7)) (Value.int .i64) fun (x7 : Int) =>
    Ld vw4.drew ((a6.add ((s3).toNat * 7)).add 1) (Value.int .i64) fun (x8 : Int) =>
    Ld vw4.drew ((a6.add ((s3).toNat * 7)).add 2) (Value.int .i64) fun (x9 : Int) =>
    Ld vw4.drew ((a6.add ((s3).toNat * 7)).add 3) (Value.int .i64) fun (x10 : Int) =>
    Ld vw4.drew ((a6.add ((s3).toNat * 7)).add 4) (Value.int .i64) fun (x11 : Int) =>
    Ld vw4.drew ((a6.add ((s3).toNat * 7)).add 5) (Value.int .i64) fun (x12 : Int) =>
    Ld vw4.drew ((a6.add ((s3).toNat * 7)).add 6) (Value.int .i64) fun (x13 : Int) =>
    0 ≤ s3 ∧ s3 < (s22.len : Nat) ∧ Nn s22.p fun a14 =>
    Ld vw4.drew (a14.add ((s3).toNat * 7)) (Value.int .i64) fun (x15 : Int) =>
    Ld vw4.drew ((a14.add ((s3).toNat * 7)).add 1) (Value.int .i64) fun (x16 : Int) =>
    Ld vw4.drew ((a14.add ((s3).toNat * 7)).add 2) (Value.int .i64) fun (x17 : Int) =>
    Ld vw4.drew ((a14.add ((s3).toNat * 7)).add 3) (Value.int .i64) fun (x18 : Int) =>
    Ld vw4.drew ((a14.add ((s3).toNat * 7)).add 4) (Value.int .i64) fun (x19 : Int) =>
    Ld vw4.drew ((a14.add ((s3).toNat * 7)).add 5) (Value.int .i64) fun (x20 : Int) =>
    Ld vw4.drew ((a14.add ((s3).toNat * 7)).add 6) (Value.int .i64) fun (x21 : Int) =>
    Lt (!((x7 == x15) && (((x8 == x16) && ((x9 == x17) && true)) && (((x10 == x18) && ((x11 == x19) && true)) && (((x12 == x20) && ((x13 == x21) && true)) && true))))) fun (x22 : Bool) =>
    Br x22 (R false vw4.drew) (I5 (IntKind.i64.wrap (s3 + 1)) vw4.drew)) (R true vw4)
/-- slices.Equal[[]foliant/api.Seg,foliant/api.Seg] -/
def S32 (s11 : Slc) (s22 : Slc) (w : World) (R : Bool → World → Prop) : Prop :=
  Br (((s11.len : Nat) : Int) != ((s22.len : Nat) : Int)) (R false w) (Lp (σ := Int) (S32L1 s11 s22 R) 0 w)
def pl32 : Plan := (.seq (.reg .seq) (.seq (.seq (.reg .seq) (.cond (.seq (.reg .seq) .leaf) .leaf)) (.seq (.seq (.reg .seq) (.block (.loop [(13, (.one (.int .i64)))] [0, 1, 12] (.seq (.reg .seq) (.seq (.cond .leaf .leaf) (.seq (.block (.seq (.reg .seq) (.seq (.reg .still) (.cond (.seq (.reg .seq) .leaf) .leaf)))) (.reg .seq))))))) (.seq (.reg .seq) .leaf))))
set_option maxRecDepth 100000 in
theorem T32 (s11 : Slc) (s22 : Slc) (w : World) (R : Bool → World → Prop) (h : S32 s11 s22 w R) : C32 s11 s22 w R := by
  have e : fnT Tryd.prog ⟨FF, MAY, (fun _ _ => False)⟩ pl32 Tryd.f32 [Slc.v s11, Slc.v s22] w [(.one .bool)] (fun s w => R s w) = S32 s11 s22 w R := by kernel_rfl
  exact (fn_calls okF okM Tryd.func32 (by kernel_rfl) (by kernel_rfl) (e.mpr h)).mono fun _ _ ⟨s, he, hR⟩ => ⟨s, he, hR⟩

/-- foliant/path.Same -/
def S11 (a1 : Slc) (b2 : Slc) (w : World) (R : Bool → World → Prop) : Prop :=
  C32 a1 b2 w fun r3 vw4 =>
    R r3 vw4
def pl11 : Plan := (.seq (.reg .seq) (.seq (.reg .seq) .leaf))
set_option maxRecDepth 100000 in
theorem T11 (a1 : Slc) (b2 : Slc) (w : World) (R : Bool → World → Prop) (h : S11 a1 b2 w R) : C11 a1 b2 w R := by
  have e : fnT Tryd.prog ⟨FF, MAY, (fun _ _ => False)⟩ pl11 Tryd.f11 [Slc.v a1, Slc.v b2] w [(.one .bool)] (fun s w => R s w) = S11 a1 b2 w R := by kernel_rfl
  exact (fn_calls okF okM Tryd.func11 (by kernel_rfl) (by kernel_rfl) (e.mpr h)).mono fun _ _ ⟨s, he, hR⟩ => ⟨s, he, hR⟩

def S15J1 (x1 : Option Addr) (vw5 : World) (s52 : Addr) (R : (TyA51) → Bool → Int → World → Prop) (s61 : Unit) (vw62 : World) : Prop :=
  Nn x1 fun a67 =>
  Ld vw62 (a67.add 3) Value.bool fun (x68 : Bool) =>
  Br x68 (Ld vw62 s52 (Value.int .i64) fun (x69 : Int) =>
    St vw62 s52 (.int .i64 (ior .i64 x69 8)) fun vw70 =>
    Nn x1 fun a71 =>
    St vw70 a71 (Slc.v ((⟨none, 0, 0⟩ : Slc))) fun vw72 =>
    St vw72 (a71.add 1) (.int .i64 0) fun vw73 =>
    St vw73 (a71.add 2) (.int .i64 0) fun vw74 =>
    St vw74 (a71.add 3) (.bool false) fun vw75 =>
    Ld vw75 (s52.add 1) Slc.v fun (x76 : Slc) =>
    Br (((x76.len : Nat) : Int) == 0) (StT (⟨vw5.heap.size, 0, none⟩ : Addr) 0 LiA51 ((0, (⟨none, 0, 0⟩ : Slc), 0, 0, 0, 0, 0, 0, 0, 0, 0, 0) : TyA51) vw75 fun vw77 =>
      LdT vw77 (⟨vw5.heap.size, 0, none⟩ : Addr) 0 LiA51 fun (x78 : TyA51) =>
      R x78 false 0 vw77) (Ld vw75 s52 (Value.int .i64) fun (x79 : Int) =>
      Br (x79 == 0) (StT (⟨vw5.heap.size, 0, none⟩ : Addr) 0 LiA51 ((0, (⟨none, 0, 0⟩ : Slc), 0, 0, 0, 0, 0, 0, 0, 0, 0, 0) : TyA51) vw75 fun vw80 =>
        LdT vw80 (⟨vw5.heap.size, 0, none⟩ : Addr) 0 LiA51 fun (x81 : TyA51) =>
        R x81 false 0 vw80) (LdT vw75 s52 0 LiA51 fun (x82 : TyA51) =>
        StT (⟨vw5.heap.size, 0, none⟩ : Addr) 0 LiA51 x82 vw75 fun vw83 =>
        LdT vw83 (⟨vw5.heap.size, 0, none⟩ : Addr) 0 LiA51 fun (x84 : TyA51) =>
        R x84 true 0 vw83))) (Nn x1 fun a85 =>
    St vw62 a85 (Slc.v ((⟨none, 0, 0⟩ : Slc))) fun vw86 =>
    St vw86 (a85.add 1) (.int .i64 0) fun vw87 =>
    St vw87 (a85.add 2) (.int .i64 0) fun vw88 =>
    St vw88 (a85.add 3) (.bool false) fun vw89 =>
    Ld vw89 (s52.add 1) Slc.v fun (x90 : Slc) =>
    Br (((x90.len : Nat) : Int) == 0) (StT (⟨vw5.heap.size, 0, none⟩ : Addr) 0 LiA51 ((0, (⟨none, 0, 0⟩ : Slc), 0, 0, 0, 0, 0, 0, 0, 0, 0, 0) : TyA51) vw89 fun vw91 =>
      LdT vw91 (⟨vw5.heap.size, 0, none⟩ : Addr) 0 LiA51 fun (x92 : TyA51) =>
      R x92 false 0 vw91) (Ld vw89 s52 (Value.int .i64) fun (x93 : Int) =>
      Br (x93 == 0) (StT (⟨vw5.heap.size, 0, none⟩ : Addr) 0 LiA51 ((0, (⟨none, 0, 0⟩ : Slc), 0, 0, 0, 0, 0, 0, 0, 0, 0, 0) : TyA51) vw89 fun vw94 =>
        LdT vw94 (⟨vw5.heap.size, 0, none⟩ : Addr) 0 LiA51 fun (x95 : TyA51) =>
        R x95 false 0 vw94) (LdT vw89 s52 0 LiA51 fun (x96 : TyA51) =>
        StT (⟨vw5.heap.size, 0, none⟩ : Addr) 0 LiA51 x96 vw89 fun vw97 =>
        LdT vw97 (⟨vw5.heap.size, 0, none⟩ : Addr) 0 LiA51 fun (x98 : TyA51) =>
        R x98 true 0 vw97)))
def S15J2 (x1 : Option Addr) (vw5 : World) (vw14 : World) (R : (TyA51) → Bool → Int → World → Prop) (s52 : Addr) (vw53 : World) : Prop :=
  Join (S15J1 x1 vw5 s52 R) fun (vJ99 : Unit → World → Prop) =>
    Ld vw53 ((⟨vw14.heap.size, 0, none⟩ : Addr).add 1) Value.bool fun (x100 : Bool) =>
    Br x100 (Ld vw53 (s52.add 1) Slc.v fun (x101 : Slc) =>
      Br (decide (((x101.len : Nat) : Int) > 0)) (Ld vw53 (s52.add 1) Slc.v fun (x102 : Slc) =>
        Nw vw53 (.cells #[.int .i64 4, .int .i64 0, .int .i64 0, .int .i64 0, .int .i64 0, .int .i64 0, .int .i64 0] 38) fun vw103 =>
        Rn Tryd.prog (Builtin.append_ #[33, 33] 33 #[Slc.v x102, Slc.v ((⟨some ⟨vw53.heap.size, 0, none⟩, 1, 1⟩ : Slc))]) vw103 Slc.v fun (x104 : Slc) vw105 =>
        St vw105 (s52.add 1) (Slc.v x104) fun vw106 =>
        vJ99 () vw106) (vJ99 () vw53)) (vJ99 () vw53)
/-- (*foliant/path.Path).Paint -/
def S15 (x1 : Option Addr) (o2 : ByteArray × Slc × ByteArray) (g3 : TyA58) (w : World) (R : (TyA51) → Bool → Int → World → Prop) : Prop :=
  Nw w (.cells #[.string o2.1, Slc.v o2.2.1, .string o2.2.2] 31) fun vw4 =>
  Nw vw4 (.cells (Sig.cells LiA58 g3).toArray 59) fun vw5 =>
  Nw vw5 (.cells #[.int .i64 0, Slc.v ((⟨none, 0, 0⟩ : Slc)), .int .i64 0, .int .i64 0, .int .i64 0, .int .i64 0, .int .i64 0, .int .i64 0, .int .i64 0, .int .i64 0, .int .i64 0, .int .i64 0] 52) fun vw6 =>
  Br x1.isNone (StT (⟨vw5.heap.size, 0, none⟩ : Addr) 0 LiA51 ((0, (⟨none, 0, 0⟩ : Slc), 0, 0, 0, 0, 0, 0, 0, 0, 0, 0) : TyA51) vw6 fun vw8 =>
    LdT vw8 (⟨vw5.heap.size, 0, none⟩ : Addr) 0 LiA51 fun (x9 : TyA51) =>
    R x9 false 1 vw8) (Ld vw6 (⟨0, 0, none⟩ : Addr) Value.map fun (x10 : Option Nat) =>
    Ld vw6 (⟨w.heap.size, 0, none⟩ : Addr) Value.string fun (x11 : ByteArray) =>
    ∃ x12 : Int × Bool, ∃ vok13 : Bool, ∃ vw14 : World, RunV Tryd.prog (Instr.lookup 98 (.map x10) (.string x11) true) vw6 (.tuple #[.agg #[.int .i64 (x12.1), .bool x12.2], .bool vok13]) vw14 ∧ Nw vw14 (.cells #[.int .i64 0, .bool false] 96) fun vw15 =>
    St vw15 (⟨vw14.heap.size, 0, none⟩ : Addr) (.int .i64 (x12.1)) fun vw16 =>
    St vw16 ((⟨vw14.heap.size, 0, none⟩ : Addr).add 1) (.bool x12.2) fun vw17 =>
    Br (!vok13) (StT (⟨vw5.heap.size, 0, none⟩ : Addr) 0 LiA51 ((0, (⟨none, 0, 0⟩ : Slc), 0, 0, 0, 0, 0, 0, 0, 0, 0, 0) : TyA51) vw17 fun vw19 =>
      LdT vw19 (⟨vw5.heap.size, 0, none⟩ : Addr) 0 LiA51 fun (x20 : TyA51) =>
      R x20 false 8 vw19) (Ld vw17 (⟨w.heap.size, 0, none⟩ : Addr) Value.string fun (x27 : ByteArray) =>
      Ld vw17 ((⟨w.heap.size, 0, none⟩ : Addr).add 1) Slc.v fun (x28 : Slc) =>
      Ld vw17 ((⟨w.heap.size, 0, none⟩ : Addr).add 2) Value.string fun (x29 : ByteArray) =>
      C23 (x27, x28, x29) vw17 fun r30 vw31 =>
        Br (r30 != 0) (StT (⟨vw5.heap.size, 0, none⟩ : Addr) 0 LiA51 ((0, (⟨none, 0, 0⟩ : Slc), 0, 0, 0, 0, 0, 0, 0, 0, 0, 0) : TyA51) vw31 fun vw32 =>
          LdT vw32 (⟨vw5.heap.size, 0, none⟩ : Addr) 0 LiA51 fun (x33 : TyA51) =>
          R x33 false r30 vw32) (Join (S15J2 x1 vw5 vw14 R) fun (vJ107 : Addr → World → Prop) =>
            ∃ vS108 : World → Prop, vS108 vw31.drew ∧ LdS vS108 (⟨vw14.heap.size, 0, none⟩ : Addr) (Value.int .i64) fun (x109 : Int) =>
            Nn x1 fun a110 =>
            LdS vS108 a110 Slc.v fun (x111 : Slc) =>
            LdS vS108 ((⟨vw4.heap.size, 0, none⟩ : Addr).add 12) (Value.int .i64) fun (x112 : Int) =>
            LdS vS108 (((⟨vw4.heap.size, 0, none⟩ : Addr).add 12).add 1) (Value.int .i64) fun (x113 : Int) =>
            LdS vS108 (((⟨vw4.heap.size, 0, none⟩ : Addr).add 12).add 2) (Value.int .i64) fun (x114 : Int) =>
            LdS vS108 (((⟨vw4.heap.size, 0, none⟩ : Addr).add 12).add 3) (Value.int .i64) fun (x115 : Int) =>
            LdS vS108 (((⟨vw4.heap.size, 0, none⟩ : Addr).add 12).add 4) (Value.int .i64) fun (x116 : Int) =>
            LdS vS108 ((⟨vw4.heap.size, 0, none⟩ : Addr).add 17) (Value.int .i64) fun (x117 : Int) =>
            LdS vS108 (((⟨vw4.heap.size, 0, none⟩ : Addr).add 17).add 1) (Value.int .i64) fun (x118 : Int) =>
            LdS vS108 (((⟨vw4.heap.size, 0, none⟩ : Addr).add 17).add 2) (Value.int .i64) fun (x119 : Int) =>
            LdS vS108 (((⟨vw4.heap.size, 0, none⟩ : Addr).add 17).add 3) (Value.int .i64) fun (x120 : Int) =>
            LdS vS108 (((⟨vw4.heap.size, 0, none⟩ : Addr).add 17).add 4) (Value.int .i64) fun (x121 : Int) =>
            (Nw vw31.drew (.cells #[.int .i64 0, Slc.v ((⟨none, 0, 0⟩ : Slc)), .int .i64 0, .int .i64 0, .int .i64 0, .int .i64 0, .int .i64 0, .int .i64 0, .int .i64 0, .int .i64 0, .int .i64 0, .int .i64 0] 52) fun vw122 =>
              StT (⟨vw31.drew.heap.size, 0, none⟩ : Addr) 0 LiA51 ((x109, x111, x112, x113, x114, x115, x116, x117, x118, x119, x120, x121) : TyA51) vw122 fun vw123 =>
              vJ107 (⟨vw31.drew.heap.size, 0, none⟩ : Addr) vw123) ∧
            (Nw vw31.drew (.cells #[.int .i64 0, Slc.v ((⟨none, 0, 0⟩ : Slc)), .int .i64 0, .int .i64 0, .int .i64 0, .int .i64 0, .int .i64 0, .int .i64 0, .int .i64 0, .int .i64 0, .int .i64 0, .int .i64 0] 52) fun vw124 =>
              vS108 vw124 ∧ StT (⟨vw31.drew.heap.size, 0, none⟩ : Addr) 0 LiA51 ((x109, x111, x112, x113, x114, x115, x116, x117, x118, x119, x120, x121) : TyA51) vw124 fun vw125 =>
              vJ107 (⟨vw31.drew.heap.size, 0, none⟩ : Addr) vw125))))
def pl15 : Plan := (.seq (.reg .seq) (.seq (.seq (.reg .seq) (.cond (.seq (.reg .seq) .leaf) .leaf)) (.seq (.reg .seq) (.seq (.seq (.reg .seq) (.cond (.seq (.reg .seq) .leaf) .leaf)) (.seq (.seq (.reg .seq) (.seq (.reg .seq) (.cond (.seq (.reg .seq) .leaf) .leaf))) (.join [(12, (.one .addr))] [0, 6, 9] (.reg (.held [10] (.take 0 (.take 1 (.take 2 (.take 3 (.take 4 (.take 5 (.take 6 (.take 7 (.take 8 (.take 9 (.effs 10 (some [11]) (.eff 11 (some [12]) (.eff 12 (some []) .done)) (.eff 11 none (.eff 10 (some [12]) (.eff 12 (some []) .done)))))))))))))))) (.join [] [0, 6, 12] (.seq (.reg .seq) (.cond (.reg .seq) .leaf)) (.seq (.seq (.reg .seq) (.cond (.reg .seq) .leaf)) (.seq (.reg .seq) (.seq (.seq (.reg .seq) (.cond (.seq (.reg .seq) .leaf) .leaf)) (.seq (.reg .seq) .leaf)))))))))))
set_option maxRecDepth 100000 in
theorem T15 (x1 : Option Addr) (o2 : ByteArray × Slc × ByteArray) (g3 : TyA58) (w : World) (R : (TyA51) → Bool → Int → World → Prop) (h : S15 x1 o2 g3 w R) : C15 x1 (o2.1, o2.2.1, o2.2.2) g3 w R := by
  have e : fnT Tryd.prog ⟨FF, MAY, (fun _ _ => False)⟩ pl15 Tryd.f15 [.pointer x1, .agg #[.string o2.1, Slc.v o2.2.1, .string o2.2.2], .agg (Sig.cells LiA58 g3).toArray] w [(.agg [(.int .i64), .slc, (.int .i64), (.int .i64), (.int .i64), (.int .i64), (.int .i64), (.int .i64), (.int .i64), (.int .i64), (.int .i64), (.int .i64)]), (.one .bool), (.one (.int .i64))] (fun s w => R s.1 s.2.1 s.2.2 w) = S15 x1 o2 g3 w R := by kernel_rfl
  exact (fn_calls okF okM Tryd.func15 (by kernel_rfl) (by kernel_rfl) (e.mpr h)).mono fun _ _ ⟨s, he, hR⟩ => ⟨s.1, s.2.1, s.2.2, he, hR⟩

/-- foliant/state.First -/
def S16 (m1 : Int × Int × Int × Int × Int × Int) (w : World) (R : (TyA58) → World → Prop) : Prop :=
  Nw w (.cells #[.int .i64 (m1.1), .int .i64 (m1.2.1), .int .i64 (m1.2.2.1), .int .i64 (m1.2.2.2.1), .int .i64 (m1.2.2.2.2.1), .int .i64 (m1.2.2.2.2.2)] 23) fun vw2 =>
  Nw vw2 (.cells #[.int .i64 0, .int .i64 0, .int .i64 0, .int .i64 0, .int .i64 0, .int .i64 0, .int .i64 0, .int .i64 0, .int .i64 0, .int .i64 0, Slc.v ((⟨none, 0, 0⟩ : Slc)), .int .i64 0, .int .i64 0, .int .i64 0, .int .i64 0, .int .i64 0, .int .i64 0, .int .i64 0, .int .i64 0, .int .i64 0, .int .i64 0, .int .i64 0, .int .i64 0, .int .i64 0, .int .i64 0, .int .i64 0, .int .i64 0, .int .i64 0, .string ((⟨#[]⟩ : ByteArray)), .int .i64 0] 59) fun vw3 =>
  Ld vw3 (⟨w.heap.size, 0, none⟩ : Addr) (Value.int .i64) fun (x4 : Int) =>
  Ld vw3 ((⟨w.heap.size, 0, none⟩ : Addr).add 1) (Value.int .i64) fun (x5 : Int) =>
  Ld vw3 ((⟨w.heap.size, 0, none⟩ : Addr).add 2) (Value.int .i64) fun (x6 : Int) =>
  Ld vw3 ((⟨w.heap.size, 0, none⟩ : Addr).add 3) (Value.int .i64) fun (x7 : Int) =>
  Ld vw3 ((⟨w.heap.size, 0, none⟩ : Addr).add 4) (Value.int .i64) fun (x8 : Int) =>
  Ld vw3 ((⟨w.heap.size, 0, none⟩ : Addr).add 5) (Value.int .i64) fun (x9 : Int) =>
  StT (⟨vw2.heap.size, 0, none⟩ : Addr) 0 LiA58 ((x4, x5, x6, x7, x8, x9, 10000, 0, 0, 100000, (⟨none, 0, 0⟩ : Slc), 0, 0, 0, 0, 0, 0, 0, 0, 0, 0, 0, 0, 0, 1000000, 0, 0, 0, (⟨#[]⟩ : ByteArray), 0) : TyA58) vw3 fun vw10 =>
  LdT vw10 (⟨vw2.heap.size, 0, none⟩ : Addr) 0 LiA58 fun (x11 : TyA58) =>
  R x11 vw10
def pl16 : Plan := (.seq (.reg .seq) (.seq (.reg .seq) .leaf))
set_option maxRecDepth 100000 in
theorem T16 (m1 : Int × Int × Int × Int × Int × Int) (w : World) (R : (TyA58) → World → Prop) (h : S16 m1 w R) : C16 (m1.1, m1.2.1, m1.2.2.1, m1.2.2.2.1, m1.2.2.2.2.1, m1.2.2.2.2.2) w R := by
  have e : fnT Tryd.prog ⟨FF, MAY, (fun _ _ => False)⟩ pl16 Tryd.f16 [.agg #[.int .i64 (m1.1), .int .i64 (m1.2.1), .int .i64 (m1.2.2.1), .int .i64 (m1.2.2.2.1), .int .i64 (m1.2.2.2.2.1), .int .i64 (m1.2.2.2.2.2)]] w [(.agg [(.int .i64), (.int .i64), (.int .i64), (.int .i64), (.int .i64), (.int .i64), (.int .i64), (.int .i64), (.int .i64), (.int .i64), .slc, (.int .i64), (.int .i64), (.int .i64), (.int .i64), (.int .i64), (.int .i64), (.int .i64), (.int .i64), (.int .i64), (.int .i64), (.int .i64), (.int .i64), (.int .i64), (.int .i64), (.int .i64), (.int .i64), (.int .i64), .str, (.int .i64)])] (fun s w => R s w) = S16 m1 w R := by kernel_rfl
  exact (fn_calls okF okM Tryd.func16 (by kernel_rfl) (by kernel_rfl) (e.mpr h)).mono fun _ _ ⟨s, he, hR⟩ => ⟨s, he, hR⟩

end Go.Proofs.YtdchpkbpnfoknaaDoor

/- Paths: New, Segs, Same, Paint. Conditions: sizes; the table of painting operators is laid. -/
namespace Go.Proofs.YtdchpkbpnfoknaaDoor
namespace Pat
open Sh Mat Fix Opr
set_option linter.unusedVariables false
set_option linter.unusedSimpArgs false
set_option maxRecDepth 8000
set_option maxHeartbeats 8000000
instance sgDec : DecidableEq Sg := fun a b => decidable_of_iff (a.1 = b.1 ∧ a.2.1 = b.2.1 ∧ a.2.2.1 = b.2.2.1 ∧ a.2.2.2.1 = b.2.2.2.1 ∧ a.2.2.2.2.1 = b.2.2.2.2.1 ∧ a.2.2.2.2.2.1 = b.2.2.2.2.2.1 ∧ a.2.2.2.2.2.2 = b.2.2.2.2.2.2) (by
  obtain ⟨a1, a2, a3, a4, a5, a6, a7⟩ := a
  obtain ⟨b1, b2, b3, b4, b5, b6, b7⟩ := b
  simp only [Prod.mk.injEq])
/-- A row of segments of its own. -/
def SO (w0 w : World) (r : Slc) (L : List Sg) : Prop := Row w r 38 7 (sgs L) ∧ ∀ j, r.own j → w0.heap.size ≤ j
theorem SO.sv {w0 w : World} {r : Slc} {L : List Sg} (h : SO w0 w r L) : SV w r L := SV.row h.1
theorem SO.nil (w0 w : World) : SO w0 w nilS [] := ⟨Row.nil _ _ _, fun j hj => by obtain ⟨a, ha, _⟩ := hj; cases ha⟩
def pa0 : Pa := ⟨[], (0, 0), false⟩
section
variable {w0 w w' w1 w7 : World} {s s2 sg : Slc} {L M : List Sg} {b : Nat} {p : Pa}
theorem PV.new (h : Blk w b (parow nilS (0, 0) false).toArray 68) : PV w b pa0 nilS := ⟨h, Row.nil _ _ _, fun j hj => (by obtain ⟨a, ha, _⟩ := hj; cases ha), by decide⟩
attribute [local irreducible] Ld Sh.St Nw Nn LdS LdT LdST StT
theorem c_new (w : World) : C4 w fun r w1 => ∃ b, r = some ⟨b, 0, none⟩ ∧ w.heap.size ≤ b ∧ PV w1 b pa0 nilS ∧ Ext (fun _ => False) w w1 := by
  refine T4 _ _ ?_
  unfold S4
  refine (Hn.start w).nw fun w2 H => ?_
  exact ⟨_, rfl, Nat.le_refl _, PV.new (H.get 0 rfl), H.ext⟩
theorem c_clone (h : SV w s L) (hl : L.length ≤ 100000) : C29 s w fun r w1 => SO w w1 r L ∧ Ext (fun _ => False) w w1 := by
  refine T29 _ _ _ ?_
  unfold S29
  obtain ⟨p, n, c⟩ := s
  cases p with
  | none =>
    have : L = [] := by
      cases L with
      | nil => rfl
      | cons y r =>
        obtain ⟨a, ha, _⟩ := h.get (i := 0) rfl
        cases ha
    subst this
    exact ⟨SO.nil _ _, Ext.refl _ _⟩
  | some a =>
    show Nw _ _ _
    refine (Hn.start w).nw (cs := []) fun w2 H => ?_
    have hb := H.get 0 rfl
    have e2 := H.ext
    have hlen := h.1
    obtain ⟨s', w', r1, r2, r3, r4, r5⟩ := elSg.app (ty := 33) (s := ⟨some ⟨w.heap.size, 0, none⟩, 0, 0⟩) (xs := []) (w := w2) ⟨by simp, .inr ⟨_, #[], rfl, hb, Nat.le_refl _, by simp, by simp⟩⟩ (h.keep e2).2 (sgs_one L) (by simp only at hlen ⊢; omega) (by simp only at hlen ⊢; omega)
    have ho : ∀ j, s'.own j → w.heap.size ≤ j := fun j hj => by
      rcases r5 j hj with hh | hh
      · obtain ⟨a', ha, rfl⟩ := hh
        cases ha
        exact Nat.le_refl _
      · have := e2.size; omega
    refine ⟨s', w', r1, ⟨by simpa using r2, ho⟩, Ext.new e2 r4 fun j hj => ?_⟩
    obtain ⟨a', ha, rfl⟩ := hj
    cases ha
    exact Nat.le_refl _
theorem c_segs (h : PV w b p sg) : C8 (some ⟨b, 0, none⟩) w fun r w1 => SO w w1 r p.L ∧ Ext (fun _ => False) w w1 := by
  refine T8 _ _ _ ?_
  unfold S8
  refine Br.f rfl (Nn.of (Ld.of h.blk rfl ?_))
  exact c_clone h.sv (by have := h.few; omega)
theorem c_segs0 (w : World) : C8 none w fun r w1 => r = nilS ∧ w1 = w := by
  refine T8 _ _ _ ?_
  unfold S8
  exact Br.t rfl ⟨rfl, rfl⟩
theorem seg_eq (o q : Sg) : (!((o.1 == q.1) && (((o.2.1 == q.2.1) && ((o.2.2.1 == q.2.2.1) && true)) && (((o.2.2.2.1 == q.2.2.2.1) && ((o.2.2.2.2.1 == q.2.2.2.2.1) && true)) && (((o.2.2.2.2.2.1 == q.2.2.2.2.2.1) && ((o.2.2.2.2.2.2 == q.2.2.2.2.2.2) && true)) && true))))) = decide (o ≠ q) := by
  obtain ⟨a1, a2, a3, a4, a5, a6, a7⟩ := o
  obtain ⟨b1, b2, b3, b4, b5, b6, b7⟩ := q
  rw [Bool.eq_iff_iff]
  simp
  omega
theorem c_equal (h : SV w s L) (h2 : SV w s2 M) (hl : L.length ≤ 100000) : C32 s s2 w fun r w1 => r = decide (L = M) ∧ Ext (fun _ => False) w w1 := by
  refine T32 _ _ _ _ ?_
  unfold S32
  rw [h.1, h2.1]
  refine Br.ne (fun q => ⟨?_, Ext.refl _ _⟩) fun q => ?_
  · symm
    rw [decide_eq_false_iff_not]
    rintro rfl
    exact q rfl
  have hLM : L.length = M.length := by omega
  refine ⟨fun n st w3 => ∃ i : Nat, st = (i : Int) ∧ i ≤ L.length ∧ n = L.length - i ∧ L.take i = M.take i ∧ Ext (fun _ => False) w w3, L.length, ⟨0, rfl, by omega, rfl, by simp, Ext.refl _ _⟩, ?_⟩
  rintro n st w3 ⟨i, rfl, hi, rfl, hall, e3⟩
  unfold S32L1
  rw [h.1, h2.1]
  refine Br.dec (fun q => ?_) fun q => ?_
  · have e3 := e3.drew
    have hL : L[i]? = some L[i] := List.getElem?_eq_getElem (by omega)
    have hM : M[i]? = some M[i] := List.getElem?_eq_getElem (by omega)
    have tL : L.take (i + 1) = L.take i ++ [L[i]] := by rw [List.take_add_one, hL]; rfl
    have tM : M.take (i + 1) = M.take i ++ [M[i]] := by rw [List.take_add_one, hM]; rfl
    generalize L[i] = o at hL tL
    generalize M[i] = q' at hM tM
    obtain ⟨a1, ha1, c1⟩ := (h.keep e3).get hL
    obtain ⟨a2, ha2, c2⟩ := (h2.keep e3).get hM
    have c10 := c1 0 _ rfl
    rw [add_add', Nat.add_zero] at c10
    have c20 := c2 0 _ rfl
    rw [add_add', Nat.add_zero] at c20
    rw [ha1, ha2, Int.toNat_natCast]
    refine ⟨by omega, by omega, Nn.of (Ld.mk c10 (Ld.mk (c1 1 _ rfl) (Ld.mk (c1 2 _ rfl) (Ld.mk (c1 3 _ rfl) (Ld.mk (c1 4 _ rfl) (Ld.mk (c1 5 _ rfl) (Ld.mk (c1 6 _ rfl) ?_)))))))⟩
    refine ⟨by omega, by omega, Nn.of (Ld.mk c20 (Ld.mk (c2 1 _ rfl) (Ld.mk (c2 2 _ rfl) (Ld.mk (c2 3 _ rfl) (Ld.mk (c2 4 _ rfl) (Ld.mk (c2 5 _ rfl) (Ld.mk (c2 6 _ rfl) (Lt.of ?_))))))))⟩
    rw [seg_eq]
    refine Br.dec (fun hne => ⟨?_, e3⟩) fun heq => ?_
    · symm
      rw [decide_eq_false_iff_not]
      rintro rfl
      rw [hL] at hM
      cases hM
      exact hne rfl
    · refine ⟨L.length - (i + 1), by omega, i + 1, by rw [i64_id (by omega)]; rfl, by omega, rfl, ?_, e3⟩
      rw [tL, tM, hall, Decidable.not_not.1 heq]
  · refine ⟨?_, e3⟩
    symm
    rw [decide_eq_true_iff]
    rwa [List.take_of_length_le (by omega), List.take_of_length_le (by omega)] at hall
theorem c_same (h : SV w s L) (h2 : SV w s2 M) (hl : L.length ≤ 100000) : C11 s s2 w fun r w1 => r = decide (L = M) ∧ Ext (fun _ => False) w w1 := by
  refine T11 _ _ _ _ ?_
  unfold S11
  exact c_equal h h2 hl
end
end Pat
end Go.Proofs.YtdchpkbpnfoknaaDoor

/- Paths: Paint. Conditions: sizes; the table of painting operators is laid. -/
namespace Go.Proofs.YtdchpkbpnfoknaaDoor
namespace Pat
open Sh Mat Fix Opr
set_option linter.unusedVariables false
set_option linter.unusedSimpArgs false
set_option maxRecDepth 8000
set_option maxHeartbeats 8000000
def ten : List By := [[83], [115], [102], [70], [102, 42], [66], [66, 42], [98], [98, 42], [110]]
/-- What a painting operator does: how it paints, whether it closes the path. -/
def howN (nm : By) : Int × Bool := if nm = [83] then (4, false) else if nm = [115] then (4, true) else if nm = [102] then (1, false) else if nm = [70] then (1, false) else if nm = [102, 42] then (3, false)
  else if nm = [66] then (5, false) else if nm = [66, 42] then (7, false) else if nm = [98] then (5, true) else if nm = [98, 42] then (7, true) else (0, false)
theorem how_8 : ∀ nm ∈ ten, ior .i64 (howN nm).1 8 = (howN nm).1 + 8 := by decide
theorem how_no {nm : By} (h : nm ∉ ten) : howN nm = (0, false) := by
  simp only [ten, List.mem_cons, List.not_mem_nil, or_false, not_or] at h
  obtain ⟨h1, h2, h3, h4, h5, h6, h7, h8, h9, h10⟩ := h
  unfold howN
  rw [if_neg h1, if_neg h2, if_neg h3, if_neg h4, if_neg h5, if_neg h6, if_neg h7, if_neg h8, if_neg h9]
/-- The table of painting operators, in memory. -/
def PM (w : World) : Prop := ∃ (bm : Nat) (o : Obj), w.cell? ⟨0, 0, none⟩ = some (.map (some bm)) ∧ w.heap[bm]? = some o ∧ ∀ (w' : World) (nm : ByteArray), nm.size ≤ maxLen → w'.heap[bm]? = some o →
  RunV Tryd.prog (Instr.lookup 98 (.map (some bm)) (.string nm) true) w' (.tuple #[.agg #[.int .i64 (howN (bl nm)).1, .bool (howN (bl nm)).2], .bool (decide (bl nm ∈ ten))]) w'
theorem PM.keepF {w w' : World} {F : Nat → Prop} (h : PM w) (he : Ext F w w') (hF : ∀ j, j < w.heap.size → ¬ F j) : PM w' := by
  obtain ⟨bm, o, h1, h2, h3⟩ := h
  have h0 := cell_lt' h1
  have hb := (Array.getElem?_eq_some_iff.1 h2).1
  exact ⟨bm, o, by rw [he.cell h0 (hF _ h0)]; exact h1, by rw [he.block bm hb (hF _ hb)]; exact h2, h3⟩
theorem PM.keep {w w' : World} (h : PM w) (he : Ext (fun _ => False) w w') : PM w' := h.keepF he fun _ _ e => e
abbrev G : Type := Int × Int × Int × Int × Int × Int × Int × Int × Int × Int × Slc × Int × Int × Int × Int × Int × Int × Int × Int × Int × Int × Int × Int × Int × Int × Int × Int × Int × ByteArray × Int
abbrev LG : List Ty1 := [.int .i64, .int .i64, .int .i64, .int .i64, .int .i64, .int .i64, .int .i64, .int .i64, .int .i64, .int .i64, .slc, .int .i64, .int .i64, .int .i64, .int .i64, .int .i64, .int .i64, .int .i64, .int .i64, .int .i64, .int .i64, .int .i64, .int .i64, .int .i64, .int .i64, .int .i64, .int .i64, .int .i64, .str, .int .i64]
abbrev Co5 : Type := Int × Int × Int × Int × Int
def fillG (g : G) : Co5 := (g.2.2.2.2.2.2.2.2.2.2.2.2.1, g.2.2.2.2.2.2.2.2.2.2.2.2.2.1, g.2.2.2.2.2.2.2.2.2.2.2.2.2.2.1, g.2.2.2.2.2.2.2.2.2.2.2.2.2.2.2.1, g.2.2.2.2.2.2.2.2.2.2.2.2.2.2.2.2.1)
def strkG (g : G) : Co5 := (g.2.2.2.2.2.2.2.2.2.2.2.2.2.2.2.2.2.1, g.2.2.2.2.2.2.2.2.2.2.2.2.2.2.2.2.2.2.1, g.2.2.2.2.2.2.2.2.2.2.2.2.2.2.2.2.2.2.2.1, g.2.2.2.2.2.2.2.2.2.2.2.2.2.2.2.2.2.2.2.2.1, g.2.2.2.2.2.2.2.2.2.2.2.2.2.2.2.2.2.2.2.2.2.1)
/-- A paint, as a value. -/
abbrev Pt : Type := Int × Slc × Int × Int × Int × Int × Int × Int × Int × Int × Int × Int
abbrev LPt : List Ty1 := [.int .i64, .slc, .int .i64, .int .i64, .int .i64, .int .i64, .int .i64, .int .i64, .int .i64, .int .i64, .int .i64, .int .i64]
def mkPt (how : Int) (s : Slc) (f k : Co5) : Pt := (how, s, f.1, f.2.1, f.2.2.1, f.2.2.2.1, f.2.2.2.2, k.1, k.2.1, k.2.2.1, k.2.2.2.1, k.2.2.2.2)
def c50 : Co5 := (0, 0, 0, 0, 0)
def pt0 : Pt := mkPt 0 nilS c50 c50
/-- What Paint does to a path: the error, how it paints, the segments, whether it paints, the path. -/
structure PaR where
  e : Int
  how : Int
  L : List Sg
  is : Bool
  p : Pa
def paintP (p : Pa) (nm d : By) (La : List Ob) : PaR := if nm ∉ ten then ⟨8, 0, [], false, p⟩ else if chkF nm La d ≠ 0 then ⟨chkF nm La d, 0, [], false, p⟩
  else if (if (howN nm).2 = true ∧ p.L ≠ [] then p.L ++ [clS] else p.L) = [] ∨ (howN nm).1 + (if p.cl = true then 8 else 0) = 0 then ⟨0, 0, [], false, pa0⟩
  else ⟨0, (howN nm).1 + (if p.cl = true then 8 else 0), (if (howN nm).2 = true ∧ p.L ≠ [] then p.L ++ [clS] else p.L), true, pa0⟩
section
variable {w0 w w' w1 w7 : World} {s s2 sg : Slc} {L : List Ob} {b : Nat} {p : Pa} {a d : ByteArray} {g : G}
attribute [local irreducible] Ld Sh.St Nw Nn LdS LdT LdST StT
theorem rcap {w : World} {s : Slc} {e : TypeId} {k : Nat} {xs : List Value} (h : Row w s e k xs) : s.len ≤ s.cap := by
  rcases h.2 with rfl | ⟨_, _, _, _, hcap, _⟩
  · exact Nat.le_refl _
  · exact hcap
/-- What Paint gives. -/
def PtR (w w1 : World) (b : Nat) (sg : Slc) (f k : Co5) (r : Pt) (is : Bool) (e : Int) (q : PaR) : Prop := ∃ sg' sp, r = (if q.is = true then mkPt q.how sp f k else pt0) ∧ is = q.is ∧ e = q.e ∧ SV w1 sp q.L ∧ PV w1 b q.p sg' ∧ Ext (fun j => j = b ∨ sg.own j) w w1 ∧ (∀ j, sg'.own j → sg.own j ∨ w.heap.size ≤ j) ∧ (∀ j, sp.own j → sg.own j ∨ w.heap.size ≤ j) ∧ (q.e = 0 → sg' = nilS) ∧ sp.len ≤ sp.cap
theorem out1 {w w' : World} {M : List (Nat × List Value × TypeId)} {b2 : Nat} {t2 : TypeId} {y : Pt} {zs : List Value} {K : Pt → World → Prop} (H : Hn w w' M) (j : Nat) (h2 : M[j]? = some (b2, zs, t2)) (hz : zs.length = 12) (k : ∀ w'', Ext (fun _ => False) w w'' → Ext (· = b2) w' w'' → K y w'') :
    StT ⟨b2, 0, none⟩ 0 LPt y w' fun w'' => LdT w'' ⟨b2, 0, none⟩ 0 LPt fun z => K z w'' := by
  refine StT.blk (pre := []) (post := []) (ts := LPt) (x := y) (by rw [List.append_nil]; exact H.get j h2) rfl hz fun w7 g7 e7 => ?_
  rw [List.append_nil] at g7
  exact LdT.blk (pre := []) (post := []) (ts := LPt) (x := y) (by rw [List.append_nil]; exact g7) rfl (k w7 (Ext.new H.ext e7 fun j' hj => by have := H.ge j h2; omega) e7)
theorem out1B {w' : World} {b2 : Nat} {t2 : TypeId} {y : Pt} {zs : List Value} {K : Pt → World → Prop} (h2 : Blk w' b2 zs.toArray t2) (hz : zs.length = 12) (k : ∀ w'', Ext (· = b2) w' w'' → K y w'') :
    StT ⟨b2, 0, none⟩ 0 LPt y w' fun w'' => LdT w'' ⟨b2, 0, none⟩ 0 LPt fun z => K z w'' := by
  refine StT.blk (pre := []) (post := []) (ts := LPt) (x := y) (by rw [List.append_nil]; exact h2) rfl hz fun w7 g7 e7 => ?_
  rw [List.append_nil] at g7
  exact LdT.blk (pre := []) (post := []) (ts := LPt) (x := y) (by rw [List.append_nil]; exact g7) rfl (k w7 e7)
theorem pt_set0 (h v : Int) (s : Slc) (f k : Co5) : (Sig.cells LPt (mkPt h s f k)).set 0 (.int .i64 v) = Sig.cells LPt (mkPt v s f k) := rfl
theorem pt_set1 (h : Int) (s v : Slc) (f k : Co5) : (Sig.cells LPt (mkPt h s f k)).set 1 (Slc.v v) = Sig.cells LPt (mkPt h v f k) := rfl
theorem pt_lt (x : Pt) {i : Nat} (h : i < 12) : i < (Sig.cells LPt x).length := h
theorem c_paint (hs : AS w) (hpm : PM w) (hp : PV w b p sg) (h : OV w s L) (hl : L.length ≤ 9223372036854775807) (ha : a.size ≤ maxLen) : C15 (some ⟨b, 0, none⟩) (a, s, d) g w fun r is e w1 => PtR w w1 b sg (fillG g) (strkG g) r is e (paintP p (bl a) (bl d) L) := by
  refine T15 _ (a, s, d) _ _ _ ?_
  unfold S15
  have hbl := hp.blk.lt
  have hlen := hp.len
  have hfew := hp.few
  refine (Hn.start w).nw fun w2 H => ?_
  refine H.nw fun w3 H => ?_
  refine H.nw fun w4 H => ?_
  simp only [List.cons_append, List.nil_append, add_lit, Nat.zero_add] at H ⊢
  let base : List (Nat × List Value × TypeId) := [(w.heap.size, [.string a, Slc.v s, .string d], 31), (w2.heap.size, Sig.cells LG g, 59), (w3.heap.size, Sig.cells LPt pt0, 52)]
  have H : Hn w w4 base := H
  have l0 := H.lt 0 rfl
  have l1 := H.lt 1 rfl
  have l2 := H.lt 2 rfl
  have sw := H.size
  have g0 := H.ge 0 rfl
  have g2 := H.ge 2 rfl
  have so : ∀ j, sg.own j → j < w.heap.size ∧ j ≠ b := fun j hj => ⟨hp.seg.own_lt hj, hp.own j hj⟩
  have same : ∀ {w' : World} {e : Int} {M : List (Nat × List Value × TypeId)}, Hn w w' (base ++ M) → e ≠ 0 → paintP p (bl a) (bl d) L = ⟨e, 0, [], false, p⟩ →
      StT ⟨w3.heap.size, 0, none⟩ 0 LPt pt0 w' fun w'' => LdT w'' ⟨w3.heap.size, 0, none⟩ 0 LPt fun z => PtR w w'' b sg (fillG g) (strkG g) z false e (paintP p (bl a) (bl d) L) := fun {w' e M} H' hne hq =>
    out1 H' 2 rfl rfl fun w'' e1 e2 => by
      rw [hq]
      exact ⟨sg, nilS, rfl, rfl, rfl, SV.nil _, hp.keep e1, e1.mono fun _ _ e => e.elim, fun j hj => .inl hj, (fun j hj => by obtain ⟨a', ha, _⟩ := hj; cases ha), (fun h => absurd h hne), Nat.le_refl _⟩
  refine Br.f rfl ?_
  obtain ⟨bm, o, m1, m2, m3⟩ := hpm.keep H.ext
  refine Ld.mk m1 (H.ld 0 rfl rfl ?_)
  refine ⟨((howN (bl a)).1, (howN (bl a)).2), decide (bl a ∈ ten), w4, m3 w4 a ha m2, ?_⟩
  refine H.nw' fun w5 H5 e5 => ?_
  simp only [base, List.cons_append, List.nil_append] at H5
  iterate 2 (refine H5.st 3 rfl (by simp) fun _ H5 => ?_; simp only [List.set_cons_zero, List.set_cons_succ] at H5)
  by_cases hk : bl a ∈ ten
  case neg =>
    rw [decide_eq_false hk]
    exact Br.t rfl (same (M := [_]) H5 (by decide) (by unfold paintP; rw [if_pos hk]))
  rw [decide_eq_true hk]
  refine Br.f rfl ?_
  iterate 3 refine H5.ld 0 rfl rfl ?_
  refine (c_check (hs.keep H5.ext) (h.keep H5.ext) hl).mono ?_
  rintro r w6 ⟨rfl, e6⟩
  have H6 := H5.keep e6
  refine Br.ne (fun q => same (M := [_]) H6 q (by unfold paintP; rw [if_neg (fun hn => hn hk), if_pos q])) fun hck => ?_
  have hck : chkF (bl a) L (bl d) = 0 := hck
  have k0 := H6.lt 0 rfl
  have k2 := H6.lt 2 rfl
  have k3 := H6.lt 3 rfl
  have fin : ∀ (gp : Nat) (sp : Slc) (LL : List Sg) (w9 : World), Ext (fun j => sg.own j) w w9 → Blk w9 b (parow sg p.bg p.cl).toArray 68 → Blk w9 w3.heap.size (Sig.cells LPt pt0).toArray 52 → Blk w9 gp (Sig.cells LPt (mkPt (howN (bl a)).1 sp (fillG g) (strkG g))).toArray 52 → SV w9 sp LL → w6.heap.size ≤ gp → (∀ j, sp.own j → sg.own j ∨ (w6.heap.size ≤ j ∧ j ≠ gp)) → sp.len ≤ sp.cap → LL = (if (howN (bl a)).2 = true ∧ p.L ≠ [] then p.L ++ [clS] else p.L) →
      S15J1 (some ⟨b, 0, none⟩) w3 ⟨gp, 0, none⟩ (fun r is e w1 => PtR w w1 b sg (fillG g) (strkG g) r is e (paintP p (bl a) (bl d) L)) () w9 := by
    intro gp sp LL w9 E9 b9 z9 q9 sv9 hgp hown hcap hLL
    unfold S15J1
    simp only [add_lit, Nat.zero_add]
    have spn : ∀ j, sp.own j → j ≠ b ∧ j ≠ gp ∧ j ≠ w3.heap.size := fun j hj => by
      rcases hown j hj with h | h
      · have := so j h
        omega
      · omega
    have hq : paintP p (bl a) (bl d) L = (if LL = [] ∨ (howN (bl a)).1 + (if p.cl = true then 8 else 0) = 0 then ⟨0, 0, [], false, pa0⟩ else ⟨0, (howN (bl a)).1 + (if p.cl = true then 8 else 0), LL, true, pa0⟩) := by
      unfold paintP
      rw [if_neg (fun hn => hn hk), if_neg (fun hn => hn hck), ← hLL]
    -- behind the turn of 'How'
    have rest : ∀ (hw : Int) (w10 : World), hw = (howN (bl a)).1 + (if p.cl = true then 8 else 0) → Ext (fun j => j = gp) w9 w10 → Blk w10 gp (Sig.cells LPt (mkPt hw sp (fillG g) (strkG g))).toArray 52 →
        Sh.St w10 ⟨b, 0, none⟩ (Slc.v (⟨none, 0, 0⟩ : Slc)) fun v1 => Sh.St v1 ⟨b, 1, none⟩ (.int .i64 0) fun v2 => Sh.St v2 ⟨b, 2, none⟩ (.int .i64 0) fun v3 => Sh.St v3 ⟨b, 3, none⟩ (.bool false) fun v4 => Ld v4 ⟨gp, 1, none⟩ Slc.v fun (x76 : Slc) =>
          Br (((x76.len : Nat) : Int) == 0) (StT ⟨w3.heap.size, 0, none⟩ 0 LPt pt0 v4 fun v5 => LdT v5 ⟨w3.heap.size, 0, none⟩ 0 LPt fun z => PtR w v5 b sg (fillG g) (strkG g) z false 0 (paintP p (bl a) (bl d) L))
            (Ld v4 ⟨gp, 0, none⟩ (Value.int .i64) fun (x79 : Int) => Br (x79 == 0) (StT ⟨w3.heap.size, 0, none⟩ 0 LPt pt0 v4 fun v5 => LdT v5 ⟨w3.heap.size, 0, none⟩ 0 LPt fun z => PtR w v5 b sg (fillG g) (strkG g) z false 0 (paintP p (bl a) (bl d) L))
              (LdT v4 ⟨gp, 0, none⟩ 0 LPt fun (x82 : Pt) => StT ⟨w3.heap.size, 0, none⟩ 0 LPt x82 v4 fun v5 => LdT v5 ⟨w3.heap.size, 0, none⟩ 0 LPt fun z => PtR w v5 b sg (fillG g) (strkG g) z true 0 (paintP p (bl a) (bl d) L))) := by
      intro hw w10 hhw E10 q10
      have nob : b ≠ gp := by omega
      refine stB (E10.blk b9 nob) (by simp [parow]) fun v1 c1 e1 => stB c1 (by simp [parow]) fun v2 c2 e2 => stB c2 (by simp [parow]) fun v3 c3 e3 => stB c3 (by simp [parow]) fun v4 c4 e4 => ?_
      have eb : Ext (· = b) w10 v4 := ((e1.tr e2).tr e3).tr e4
      have c4 : Blk v4 b (parow nilS (0, 0) false).toArray 68 := c4
      have q4 := eb.blk q10 (by omega)
      have z4 := eb.blk (E10.blk z9 (by omega)) (by omega)
      have sv4 := (sv9.keepF E10 fun j hj => (spn j hj).2.1).keepF eb fun j hj => (spn j hj).1
      have Ev4 : Ext (fun j => j = b ∨ sg.own j) w v4 := (E9.trans E10 (fun _ h => .inr h) fun j hj e => by omega).trans eb (fun _ h => h) fun j _ e => .inl e
      have pv : ∀ {v5 : World}, Ext (· = w3.heap.size) v4 v5 → PV v5 b pa0 nilS := fun e => PV.new (e.blk c4 (by omega))
      have e5' : ∀ {v5 : World}, Ext (· = w3.heap.size) v4 v5 → Ext (fun j => j = b ∨ sg.own j) w v5 := fun e => Ev4.trans e (fun _ h => h) fun j hj h => by omega
      refine Ld.of q4 rfl ?_
      show Br (((sp.len : Nat) : Int) == 0) _ _
      rw [sv9.1]
      have no : LL = [] ∨ hw = 0 → StT ⟨w3.heap.size, 0, none⟩ 0 LPt pt0 v4 fun v5 => LdT v5 ⟨w3.heap.size, 0, none⟩ 0 LPt fun z => PtR w v5 b sg (fillG g) (strkG g) z false 0 (paintP p (bl a) (bl d) L) := fun hh => by
        refine out1B z4 rfl fun v5 e5 => ?_
        rw [hq, if_pos (by rw [← hhw]; exact hh)]
        exact ⟨nilS, nilS, rfl, rfl, rfl, SV.nil _, pv e5, e5' e5, (fun j hj => by obtain ⟨a', ha, _⟩ := hj; cases ha), (fun j hj => by obtain ⟨a', ha, _⟩ := hj; cases ha), (fun _ => rfl), Nat.le_refl _⟩
      refine Br.eq (fun q1 => no (.inl (List.eq_nil_of_length_eq_zero (by omega)))) fun q1 => Ld.of q4 rfl (Br.eq (fun q2 => no (.inr q2)) fun q2 => ?_)
      refine LdT.blk (pre := []) (post := []) (ts := LPt) (x := mkPt hw sp (fillG g) (strkG g)) (by rw [List.append_nil]; exact q4) rfl ?_
      refine out1B z4 rfl fun v5 e5 => ?_
      have hne : ¬ (LL = [] ∨ (howN (bl a)).1 + (if p.cl = true then 8 else 0) = 0) := by
        rw [← hhw]
        rintro (h | h)
        · rw [h] at q1
          exact q1 rfl
        · exact q2 h
      rw [hq, if_neg hne]
      refine ⟨nilS, sp, by rw [hhw]; rfl, rfl, rfl, sv4.keepF e5 fun j hj => (spn j hj).2.2, pv e5, e5' e5, (fun j hj => by obtain ⟨a', ha, _⟩ := hj; cases ha), (fun j hj => (hown j hj).imp id fun h => by omega), (fun _ => rfl), hcap⟩
    refine Nn.of ?_
    simp only [add_lit, Nat.zero_add]
    refine Ld.of b9 rfl ?_
    cases hcl : p.cl with
    | true =>
      refine Br.t rfl (Ld.of q9 rfl ?_)
      have hi : ior .i64 (howN (bl a)).1 8 = (howN (bl a)).1 + 8 := how_8 _ hk
      show Sh.St _ _ (.int .i64 (ior .i64 (howN (bl a)).1 8)) _
      rw [hi]
      refine stB q9 (pt_lt _ (by decide)) fun w10 q10 e10 => ?_
      rw [pt_set0] at q10
      refine Nn.of ?_
      simp only [add_lit, Nat.zero_add]
      exact rest _ w10 (by rw [hcl]; rfl) e10 q10
    | false =>
      refine Br.f rfl (Nn.of ?_)
      simp only [add_lit, Nat.zero_add]
      exact rest (howN (bl a)).1 w9 (by rw [hcl]; simp) (Ext.refl _ _) q9
  have main : ∀ (gp : Nat) (w8 : World), Ext (fun _ => False) w w8 → Blk w8 b (parow sg p.bg p.cl).toArray 68 → Blk w8 w4.heap.size ([.int .i64 (howN (bl a)).1, .bool (howN (bl a)).2] : List Value).toArray 96 → Blk w8 w3.heap.size (Sig.cells LPt pt0).toArray 52 → Blk w8 gp (Sig.cells LPt (mkPt (howN (bl a)).1 sg (fillG g) (strkG g))).toArray 52 → w6.heap.size ≤ gp →
      S15J2 (some ⟨b, 0, none⟩) w3 w4 (fun r is e w1 => PtR w w1 b sg (fillG g) (strkG g) r is e (paintP p (bl a) (bl d) L)) ⟨gp, 0, none⟩ w8 := by
    intro gp w8 E8 b8 h8 z8 q8 hgp
    unfold S15J2
    simp only [add_lit, Nat.zero_add]
    have p8 := hp.keep E8
    have gl := q8.lt
    have plain : ¬ ((howN (bl a)).2 = true ∧ p.L ≠ []) → S15J1 (some ⟨b, 0, none⟩) w3 ⟨gp, 0, none⟩ (fun r is e w1 => PtR w w1 b sg (fillG g) (strkG g) r is e (paintP p (bl a) (bl d) L)) () w8 := fun hh =>
      fin gp sg p.L w8 (E8.mono fun _ _ e => e.elim) b8 z8 q8 p8.sv hgp (fun j hj => .inl hj) (rcap hp.seg) (by rw [if_neg hh])
    refine Join.intro (Ld.of h8 rfl ?_)
    cases hc : (howN (bl a)).2 with
    | false => exact Br.f rfl (plain fun h => by rw [hc] at h; cases h.1)
    | true =>
      refine Br.t rfl (Ld.of q8 rfl (Br.dec (fun hpos => ?_) fun hz => plain fun h => ?_))
      · have hpos : ((sg.len : Nat) : Int) > 0 := hpos
        refine Ld.of q8 rfl ?_
        refine (Hn.start w8).nw (cs := sgrow clS) fun w9 H9 => ?_
        have p9 := p8.keep H9.ext
        have hb := H9.get 0 rfl
        obtain ⟨s', w10, r1, r2, r3, e10, r5⟩ := elSg.app1 (ty := 33) p9.seg hb rfl (sg_one clS) (by omega) (by omega)
        refine ⟨s', w10, r1, ?_⟩
        have s9 := H9.size
        have no : ∀ j, w.heap.size ≤ j → ¬ sg.own j := fun j hj h => by have := (so j h).1; omega
        have q10 := e10.blk (H9.ext.blk q8 id) (no _ (by omega))
        refine stB q10 (pt_lt _ (by decide)) fun w11 q11 e11 => ?_
        rw [pt_set1] at q11
        have own' : ∀ j, s'.own j → sg.own j ∨ (w6.heap.size ≤ j ∧ j ≠ gp) := fun j hj => (r5 j hj).imp id fun h => by
          have := H9.size
          omega
        refine fin gp s' (p.L ++ [clS]) w11 (((E8.tr H9.ext).trans e10 (fun _ e => e.elim) fun j _ h => h).trans e11 (fun _ h => h) fun j hj e => by omega) (e11.blk (e10.blk (H9.ext.blk b8 id) fun h => (so b h).2 rfl) (by omega)) (e11.blk (e10.blk (H9.ext.blk z8 id) (no _ (by omega))) (by omega)) q11 ?_ hgp own' (rcap r2) ?_
        · refine (SV.row (t := 38) (by rw [sgs_app, sgs_sing]; exact r2)).keepF e11 fun j hj e => ?_
          have e : j = gp := e
          rcases own' j hj with h | h
          · exact no _ (by omega) h
          · exact h.2 e
        · rw [if_pos ⟨hc, fun e => by rw [e] at hlen; simp at hlen; omega⟩]
      · have hz : ¬ ((sg.len : Nat) : Int) > 0 := hz
        have : 0 < p.L.length := List.length_pos_iff.2 h.2
        omega
  refine Join.intro ?_
  have H7 := H6.drew
  have p7 := hp.keep H7.ext
  refine ⟨fun w' => Blk w' w4.heap.size ([.int .i64 (howN (bl a)).1, .bool (howN (bl a)).2] : List Value).toArray 96 ∧ Blk w' b (parow sg p.bg p.cl).toArray 68 ∧ Blk w' w2.heap.size (Sig.cells LG g).toArray 59, ⟨H7.get 3 rfl, p7.blk, H7.get 1 rfl⟩, ?_⟩
  refine LdS.of (fun w' h' => h'.1) rfl (Nn.of ?_)
  refine LdS.of (fun w' h' => h'.2.1) rfl ?_
  iterate 10 refine LdS.of (fun w' h' => h'.2.2) rfl ?_
  refine ⟨?_, ?_⟩
  · refine H7.nw (cs := Sig.cells LPt pt0) fun w8 H8 => ?_
    have q8 := H8.get 4 rfl
    refine StT.blk (pre := []) (post := []) (zs := Sig.cells LPt pt0) (ts := LPt) (by rw [List.append_nil]; exact q8) rfl rfl fun w9 g9 e9 => ?_
    rw [List.append_nil] at g9
    have hsz : w6.drew.heap.size = w6.heap.size := rfl
    exact main _ w9 (Ext.new H8.ext e9 fun j hj => by have := H6.size; omega) (e9.blk (hp.keep H8.ext).blk (by omega)) (e9.blk (H8.get 3 rfl) (by omega)) (e9.blk (H8.get 2 rfl) (by omega)) g9 (Nat.le_refl _)
  · refine H7.nw (cs := Sig.cells LPt pt0) fun w8 H8 => ?_
    have q8 := H8.get 4 rfl
    refine ⟨⟨H8.get 3 rfl, (hp.keep H8.ext).blk, H8.get 1 rfl⟩, ?_⟩
    refine StT.blk (pre := []) (post := []) (zs := Sig.cells LPt pt0) (ts := LPt) (by rw [List.append_nil]; exact q8) rfl rfl fun w9 g9 e9 => ?_
    rw [List.append_nil] at g9
    have hsz : w6.drew.heap.size = w6.heap.size := rfl
    exact main _ w9 (Ext.new H8.ext e9 fun j hj => by have := H6.size; omega) (e9.blk (hp.keep H8.ext).blk (by omega)) (e9.blk (H8.get 3 rfl) (by omega)) (e9.blk (H8.get 2 rfl) (by omega)) g9 (Nat.le_refl _)
end
end Pat
end Go.Proofs.YtdchpkbpnfoknaaDoor

/- Paths: the reference's Same, SamePaint, Paints; the head of Box. Conditions: sizes. -/
namespace Go.Proofs.YtdchpkbpnfoknaaDoor
open Sh
/-- path.Box: the call returns. -/
def C14 (l1 : Slc) (w : World) (R : (Int × Int × Int × Int) → Bool → World → Prop) : Prop :=
  Calls Tryd.prog 14 #[Slc.v l1] w fun e w' => ∃ r0 : Int × Int × Int × Int, ∃ r1 : Bool, e = .returned (.tuple #[.agg #[.int .i64 (r0.1), .int .i64 (r0.2.1), .int .i64 (r0.2.2.1), .int .i64 (r0.2.2.2)], .bool r1]) ∧ R r0 r1 w'
theorem C14.mono {l1 : Slc} {w : World} {R R' : (Int × Int × Int × Int) → Bool → World → Prop} (h : C14 l1 w R) (hr : ∀ r0 r1 w', R r0 r1 w' → R' r0 r1 w') : C14 l1 w R' :=
  Calls.mono h fun _ _ ⟨r0, r1, he, hR⟩ => ⟨r0, r1, he, hr _ _ _ hR⟩
namespace Pat
open Sh Mat Fix Opr
set_option linter.unusedVariables false
set_option linter.unusedSimpArgs false
set_option maxRecDepth 8000
set_option maxHeartbeats 8000000
/-- The points of a segment. -/
def ptsS (s : Sg) : List (Int × Int) := if s.1 = 1 ∨ s.1 = 2 then [(s.2.2.2.2.2.1, s.2.2.2.2.2.2)] else if s.1 = 3 then [(s.2.1, s.2.2.1), (s.2.2.2.1, s.2.2.2.2.1), (s.2.2.2.2.2.1, s.2.2.2.2.2.2)] else []
def ptsL (L : List Sg) : List (Int × Int) := L.flatMap ptsS
abbrev Bx : Type := Int × Int × Int × Int
def addB (b : Bx) (p : Int × Int) : Bx := (min b.1 p.1, min b.2.1 p.2, max b.2.2.1 p.1, max b.2.2.2 p.2)
def boxP : List (Int × Int) → Bx × Bool
  | [] => ((0, 0, 0, 0), false)
  | p :: r => ((p :: r).foldl addB (p.1, p.2, p.1, p.2), true)
/-- What Box is to give. -/
def BoxOk : Prop := ∀ (w : World) (s : Slc) (L : List Sg), SV w s L → L.length ≤ 100000 → C14 s w fun r is w1 => (r, is) = boxP (ptsL L) ∧ Ext (fun _ => False) w w1
section
variable {w0 w w' w1 w7 : World} {s s2 sg : Slc} {L M : List Sg} {b : Nat} {p : Pa} {a : ByteArray}
attribute [local irreducible] Ld Sh.St Nw Nn LdS LdT LdST StT
end
end Pat
end Go.Proofs.YtdchpkbpnfoknaaDoor

/- Paths: a rectangle and its four sides, a moved rectangle, plain. Conditions: none. -/
namespace Go.Proofs.YtdchpkbpnfoknaaDoor
namespace Pat
open Sh Mat Fix Opr
set_option linter.unusedVariables false
set_option linter.unusedSimpArgs false
set_option maxRecDepth 8000
set_option maxHeartbeats 4000000
abbrev obR (n : Int) : Ob := (3, n, 0, ⟨#[]⟩, nilS, nilS)
theorem nm_reals : ∀ (l : List Int), (∀ x ∈ l, inW x = true) → nmO (l.map obR) = some l
  | [], _ => rfl
  | x :: l, h => by
    rw [List.map_cons]
    unfold nmO
    have : numV (obR x) = some x := by
      unfold numV
      rw [if_neg (show ¬ (3 : Int) = 2 by decide), if_pos rfl, if_pos (h x (List.mem_cons_self ..))]
    rw [this, nm_reals l fun y hy => h y (List.mem_cons_of_mem _ hy)]
    rfl
theorem chr_m (x y : Int) : chkF [109] ([x, y].map obR) [] = 0 := by kernel_rfl
theorem chr_l (x y : Int) : chkF [108] ([x, y].map obR) [] = 0 := by kernel_rfl
theorem chr_h : chkF [104] [] [] = 0 := by kernel_rfl
theorem chr_re (x y w h : Int) : chkF [114, 101] ([x, y, w, h].map obR) [] = 0 := by kernel_rfl
theorem dor_m (m : Mx) {x y : Int} (hx : inW x = true) (hy : inW y = true) :
    doP pa0 [109] [] ([x, y].map obR) m = match pt m x y with | none => (2, pa0) | some q => (0, ⟨[mvS q], q, false⟩) := by
  unfold doP
  rw [if_neg (by decide), if_neg (by rw [chr_m]; decide), if_neg (fun h => h.1 rfl), nm_reals _ (by simp [hx, hy])]
  dsimp only
  rw [draw_m]
  simp only [List.getD_cons_zero, List.getD_cons_succ]
  cases pt m x y with
  | none => rfl
  | some q =>
    simp only [Option.bind_some]
    rw [if_pos (by simp [pa0])]
    simp [clipN, bgF, mvS, pa0]
theorem dor_l (p : Pa) (m : Mx) {x y : Int} (hx : inW x = true) (hy : inW y = true) (hp : p.L.length ≤ 8191) (hne : p.L ≠ []) :
    doP p [108] [] ([x, y].map obR) m = match pt m x y with | none => (2, p) | some q => (0, ⟨p.L ++ [lnS q], p.bg, p.cl⟩) := by
  unfold doP
  rw [if_neg (by decide), if_neg (by rw [chr_l]; decide), if_neg (fun h => hne h.2.2), nm_reals _ (by simp [hx, hy])]
  dsimp only
  rw [draw_l]
  simp only [List.getD_cons_zero, List.getD_cons_succ]
  cases pt m x y with
  | none => rfl
  | some q =>
    simp only [Option.bind_some]
    rw [if_pos (by simp; omega)]
    simp [clipN, bgF, lnS]
theorem dor_h (p : Pa) (m : Mx) (hp : p.L.length ≤ 8191) (hne : p.L ≠ []) : doP p [104] [] [] m = (0, ⟨p.L ++ [clS], p.bg, p.cl⟩) := by
  unfold doP
  rw [if_neg (by decide), if_neg (by rw [chr_h]; decide), if_neg (fun h => hne h.2.2)]
  simp only [nmO]
  rw [draw_h]
  dsimp only
  rw [if_pos (by simp; omega)]
  simp [clipN, bgF, clS]
theorem sumr {x y : Int} (hx : inW x = true) (hy : inW y = true) (h : inW (x + y) = true) : sum2 x y = some (x + y) := by
  have h1 : sumF [x, y] = (x + y, 0) := by
    unfold sumF
    have e : ps [x, y] [x, y].length = x + y := by simp [ps]
    rw [e, if_pos]
    simp only [List.all_cons, List.all_nil, Bool.and_true, Bool.and_eq_true]
    exact ⟨⟨hx, hy⟩, h⟩
  unfold sum2
  rw [h1]
  rfl
/-- What a rectangle draws. -/
def fourP (m : Mx) (x y w h : Int) : Option (List Sg) := (pt m x y).bind fun a => (pt m (x + w) y).bind fun b => (pt m (x + w) (y + h)).bind fun c => (pt m x (y + h)).bind fun d => some [mvS a, lnS b, lnS c, lnS d, clS]
theorem dor_re (m : Mx) {x y w h : Int} (hx : inW x = true) (hy : inW y = true) (hw : inW w = true) (hh : inW h = true) (hxw : inW (x + w) = true) (hyh : inW (y + h) = true) :
    ((doP pa0 [114, 101] [] ([x, y, w, h].map obR) m).1 = 0 ∧ ∃ T bg, fourP m x y w h = some T ∧ (doP pa0 [114, 101] [] ([x, y, w, h].map obR) m).2 = ⟨T, bg, false⟩) ∨
    ((doP pa0 [114, 101] [] ([x, y, w, h].map obR) m).1 ≠ 0 ∧ fourP m x y w h = none ∧ (doP pa0 [114, 101] [] ([x, y, w, h].map obR) m).2 = pa0) := by
  have e : doP pa0 [114, 101] [] ([x, y, w, h].map obR) m = match fourP m x y w h with | none => (2, pa0) | some T => if T.length ≤ 8192 then (0, ⟨T, T.foldl bgF pa0.bg, false⟩) else (6, pa0) := by
    unfold doP
    rw [if_neg (by decide), if_neg (by rw [chr_re]; decide), if_neg (fun h => h.2.1 rfl), nm_reals _ (by simp [hx, hy, hw, hh])]
    dsimp only
    rw [draw_re]
    simp only [List.getD_cons_zero, List.getD_cons_succ]
    unfold rectF
    rw [sumr hx hw hxw, sumr hy hh hyh]
    simp only [Option.bind_some]
    show (match fourP m x y w h with | none => _ | some T => _) = _
    cases fourP m x y w h with
    | none => rfl
    | some T => simp [pa0, clipN]
  rw [e]
  cases hf : fourP m x y w h with
  | none => exact .inr ⟨by show (2 : Int) ≠ 0; decide, rfl, rfl⟩
  | some T =>
    have hT : T.length ≤ 8192 := by
      unfold fourP at hf
      obtain ⟨a, _, hf⟩ := Option.bind_eq_some_iff.1 hf
      obtain ⟨b, _, hf⟩ := Option.bind_eq_some_iff.1 hf
      obtain ⟨c, _, hf⟩ := Option.bind_eq_some_iff.1 hf
      obtain ⟨d, _, hf⟩ := Option.bind_eq_some_iff.1 hf
      cases hf
      simp
    dsimp only
    rw [if_pos hT]
    exact .inl ⟨rfl, T, _, rfl, rfl⟩
/-- The four sides, one after another. -/
def b1P (m : Mx) (x y : Int) : Int × Pa := doP pa0 [109] [] ([x, y].map obR) m
def lnP (m : Mx) (x y : Int) (p : Pa) : Int × Pa := doP p [108] [] ([x, y].map obR) m
def clP (m : Mx) (p : Pa) : Int × Pa := doP p [104] [] [] m
theorem sides (m : Mx) {x y w h : Int} (hx : inW x = true) (hy : inW y = true) (hxw : inW (x + w) = true) (hyh : inW (y + h) = true) (B1 B2 B3 B4 B5 : Int × Pa) (e1 : B1 = b1P m x y) (e2 : B2 = lnP m (x + w) y B1.2) (e3 : B3 = lnP m (x + w) (y + h) B2.2) (e4 : B4 = lnP m x (y + h) B3.2) (e5 : B5 = clP m B4.2) :
    (∃ T, fourP m x y w h = some T ∧ B1.1 = 0 ∧ B2.1 = 0 ∧ B3.1 = 0 ∧ B4.1 = 0 ∧ B5.1 = 0 ∧ B5.2.L = T) ∨ (fourP m x y w h = none ∧ ¬ (B1.1 = 0 ∧ B2.1 = 0 ∧ B3.1 = 0 ∧ B4.1 = 0 ∧ B5.1 = 0)) := by
  unfold b1P at e1
  rw [dor_m m hx hy] at e1
  unfold fourP
  cases h1 : pt m x y with
  | none =>
    rw [h1] at e1
    exact .inr ⟨rfl, fun h => by rw [e1] at h; exact absurd h.1 (by show (2 : Int) ≠ 0; decide)⟩
  | some a =>
  rw [h1] at e1
  dsimp only at e1
  subst e1
  unfold lnP at e2
  dsimp only at e2
  rw [dor_l ⟨[mvS a], a, false⟩ m hxw hy (by simp) (by simp)] at e2
  simp only [Option.bind_some]
  cases h2 : pt m (x + w) y with
  | none =>
    rw [h2] at e2
    exact .inr ⟨rfl, fun h => by rw [e2] at h; exact absurd h.2.1 (by show (2 : Int) ≠ 0; decide)⟩
  | some b =>
  rw [h2] at e2
  dsimp only [List.cons_append, List.nil_append] at e2
  subst e2
  unfold lnP at e3
  dsimp only at e3
  rw [dor_l ⟨[mvS a, lnS b], a, false⟩ m hxw hyh (by simp) (by simp)] at e3
  simp only [Option.bind_some]
  cases h3 : pt m (x + w) (y + h) with
  | none =>
    rw [h3] at e3
    exact .inr ⟨rfl, fun h => by rw [e3] at h; exact absurd h.2.2.1 (by show (2 : Int) ≠ 0; decide)⟩
  | some c =>
  rw [h3] at e3
  dsimp only [List.cons_append, List.nil_append] at e3
  subst e3
  unfold lnP at e4
  dsimp only at e4
  rw [dor_l ⟨[mvS a, lnS b, lnS c], a, false⟩ m hx hyh (by simp) (by simp)] at e4
  simp only [Option.bind_some]
  cases h4 : pt m x (y + h) with
  | none =>
    rw [h4] at e4
    exact .inr ⟨rfl, fun h => by rw [e4] at h; exact absurd h.2.2.2.1 (by show (2 : Int) ≠ 0; decide)⟩
  | some d =>
  rw [h4] at e4
  dsimp only [List.cons_append, List.nil_append] at e4
  subst e4
  unfold clP at e5
  dsimp only at e5
  rw [dor_h ⟨[mvS a, lnS b, lnS c, lnS d], a, false⟩ m (by simp) (by simp)] at e5
  subst e5
  exact .inl ⟨_, rfl, by simp⟩
/-! ### Moved rectangles -/
theorem dotP_val' {l : List Int} {n : Int} (h : dotP l = some n) : n = near (psum l (l.length / 2)) := by
  unfold dotP at h
  split at h
  · cases h; rfl
  · cases h
theorem dot6' {a b c d e n : Int} (h : dotP [a, b, c, d, e, 10000] = some n) : n = near (a * b + c * d + e * 10000) := by
  have := dotP_val' h
  simpa [psum] using this
theorem dot4' {a b c d n : Int} (h : dotP [a, b, c, d] = some n) : n = near (a * b + c * d) := by
  have := dotP_val' h
  simpa [psum] using this
theorem near_to (n k : Int) : near (n + k * 10000) = near n + k := by unfold near; omega
theorem far_is {m far : Mx} {dx dy : Int} (h : mulP m (moveM dx dy) = some far) : far = (m.1, m.2.1, m.2.2.1, m.2.2.2.1, m.2.2.2.2.1 + dx, m.2.2.2.2.2 + dy) := by
  unfold mulP at h
  split at h
  · obtain ⟨x1, h1, h⟩ := Option.bind_eq_some_iff.1 h
    obtain ⟨x2, h2, h⟩ := Option.bind_eq_some_iff.1 h
    obtain ⟨x3, h3, h⟩ := Option.bind_eq_some_iff.1 h
    obtain ⟨x4, h4, h⟩ := Option.bind_eq_some_iff.1 h
    obtain ⟨x5, h5, h⟩ := Option.bind_eq_some_iff.1 h
    obtain ⟨x6, h6, h⟩ := Option.bind_eq_some_iff.1 h
    cases h
    have z : near 0 = 0 := by decide
    have e1 : x1 = near (m.1 * 10000 + m.2.1 * 0) := dot4' h1
    have e2 : x2 = near (m.1 * 0 + m.2.1 * 10000) := dot4' h2
    have e3 : x3 = near (m.2.2.1 * 10000 + m.2.2.2.1 * 0) := dot4' h3
    have e4 : x4 = near (m.2.2.1 * 0 + m.2.2.2.1 * 10000) := dot4' h4
    have e5 : x5 = near (m.2.2.2.2.1 * 10000 + m.2.2.2.2.2 * 0 + dx * 10000) := dot6' h5
    have e6 : x6 = near (m.2.2.2.2.1 * 0 + m.2.2.2.2.2 * 10000 + dy * 10000) := dot6' h6
    unfold near at e1 e2 e3 e4 e5 e6
    rw [show x1 = m.1 by omega, show x2 = m.2.1 by omega, show x3 = m.2.2.1 by omega, show x4 = m.2.2.2.1 by omega, show x5 = m.2.2.2.2.1 + dx by omega, show x6 = m.2.2.2.2.2 + dy by omega]
  · cases h
theorem pt_far {m : Mx} {dx dy x y : Int} {p q : Int × Int} (h1 : pt m x y = some p) (h2 : pt (m.1, m.2.1, m.2.2.1, m.2.2.2.1, m.2.2.2.2.1 + dx, m.2.2.2.2.2 + dy) x y = some q) : q = (p.1 + dx, p.2 + dy) ∧ inW p.1 = true ∧ inW p.2 = true := by
  unfold pt applyP at h1 h2
  split at h1
  · split at h2
    · obtain ⟨u, g1, h1⟩ := Option.bind_eq_some_iff.1 h1
      obtain ⟨v, g2, h1⟩ := Option.bind_eq_some_iff.1 h1
      obtain ⟨u', g3, h2⟩ := Option.bind_eq_some_iff.1 h2
      obtain ⟨v', g4, h2⟩ := Option.bind_eq_some_iff.1 h2
      cases h1
      cases h2
      refine ⟨?_, dotP_in g1, dotP_in g2⟩
      have e1 := dot6' g1
      have e2 := dot6' g2
      have e3 := dot6' g3
      have e4 := dot6' g4
      dsimp only at e1 e2 e3 e4
      generalize x * m.1 = a1 at e1 e3
      generalize y * m.2.2.1 = a2 at e1 e3
      generalize x * m.2.1 = a3 at e2 e4
      generalize y * m.2.2.2.1 = a4 at e2 e4
      rw [show a1 + a2 + (m.2.2.2.2.1 + dx) * 10000 = (a1 + a2 + m.2.2.2.2.1 * 10000) + dx * 10000 by omega, near_to, ← e1] at e3
      rw [show a3 + a4 + (m.2.2.2.2.2 + dy) * 10000 = (a3 + a4 + m.2.2.2.2.2 * 10000) + dy * 10000 by omega, near_to, ← e2] at e4
      rw [e3, e4]
    · cases h2
  · cases h1
/-- A segment moved. -/
def mvd (dx dy : Int) (s t : Sg) : Prop := s.1 = t.1 ∧ (s.1 ≠ 4 → t.2.2.2.2.2.1 = s.2.2.2.2.2.1 + dx ∧ t.2.2.2.2.2.2 = s.2.2.2.2.2.2 + dy) ∧ inW s.2.2.2.2.2.1 = true ∧ inW s.2.2.2.2.2.2 = true
def bx4 (a b c d : Int × Int) : Bx := addB (addB (addB (addB (a.1, a.2, a.1, a.2) a) b) c) d
theorem box_4 (a b c d : Int × Int) : boxP (ptsL [mvS a, lnS b, lnS c, lnS d, clS]) = (bx4 a b c d, true) := rfl
theorem four_far {m far : Mx} {dx dy x y w h : Int} {T U : List Sg} (hf : mulP m (moveM dx dy) = some far) (h1 : fourP m x y w h = some T) (h2 : fourP far x y w h = some U) : T.length = 5 ∧ U.length = 5 ∧ (∀ (i : Nat) s t, T[i]? = some s → U[i]? = some t → mvd dx dy s t) ∧
    ∃ b b' : Bx, boxP (ptsL T) = (b, true) ∧ boxP (ptsL U) = (b', true) ∧ b'.1 = b.1 + dx ∧ b'.2.2.2 = b.2.2.2 + dy ∧ inW b.1 = true ∧ inW b.2.2.2 = true := by
  rw [far_is hf] at h2
  unfold fourP at h1 h2
  obtain ⟨a, a1, h1⟩ := Option.bind_eq_some_iff.1 h1
  obtain ⟨b, b1, h1⟩ := Option.bind_eq_some_iff.1 h1
  obtain ⟨c, c1, h1⟩ := Option.bind_eq_some_iff.1 h1
  obtain ⟨d, d1, h1⟩ := Option.bind_eq_some_iff.1 h1
  obtain ⟨a', a2, h2⟩ := Option.bind_eq_some_iff.1 h2
  obtain ⟨b', b2, h2⟩ := Option.bind_eq_some_iff.1 h2
  obtain ⟨c', c2, h2⟩ := Option.bind_eq_some_iff.1 h2
  obtain ⟨d', d2, h2⟩ := Option.bind_eq_some_iff.1 h2
  cases h1
  cases h2
  obtain ⟨rfl, a3, a4⟩ := pt_far a1 a2
  obtain ⟨rfl, b3, b4⟩ := pt_far b1 b2
  obtain ⟨rfl, c3, c4⟩ := pt_far c1 c2
  obtain ⟨rfl, d3, d4⟩ := pt_far d1 d2
  refine ⟨rfl, rfl, fun i s t hs ht => ?_, ?_⟩
  · have hi : i < 5 := (List.getElem?_eq_some_iff.1 hs).1
    have z : inW 0 = true := by decide
    match i, hi with
    | 0, _ => cases hs; cases ht; exact ⟨rfl, fun _ => ⟨rfl, rfl⟩, a3, a4⟩
    | 1, _ => cases hs; cases ht; exact ⟨rfl, fun _ => ⟨rfl, rfl⟩, b3, b4⟩
    | 2, _ => cases hs; cases ht; exact ⟨rfl, fun _ => ⟨rfl, rfl⟩, c3, c4⟩
    | 3, _ => cases hs; cases ht; exact ⟨rfl, fun _ => ⟨rfl, rfl⟩, d3, d4⟩
    | 4, _ => cases hs; cases ht; exact ⟨rfl, fun h => absurd rfl h, z, z⟩
  · refine ⟨_, _, box_4 .., box_4 .., ?_, ?_, ?_, ?_⟩
    · simp only [bx4, addB]
      omega
    · simp only [bx4, addB]
      omega
    · rw [inW_spec] at *
      simp only [bx4, addB]
      omega
    · rw [inW_spec] at *
      simp only [bx4, addB]
      omega
theorem paint_f (T : List Sg) (bg : Int × Int) (h : T ≠ []) : paintP ⟨T, bg, false⟩ [102] [] [] = ⟨0, 1, T, true, pa0⟩ := by
  have c : chkF [102] [] [] = 0 := by kernel_rfl
  unfold paintP
  rw [if_neg (by decide), if_neg (by rw [c]; decide), if_neg]
  · simp [howN]
  · simp [howN, h]
theorem do_12 : doP pa0 [109] [] ([1, 2].map obR) (10000, 0, 0, 10000, 0, 0) = (0, ⟨[mvS (1, 2)], (1, 2), false⟩) := by kernel_rfl
end Pat
end Go.Proofs.YtdchpkbpnfoknaaDoor

namespace Go.Proofs.YtdchpkbpnfoknaaDoor
end Go.Proofs.YtdchpkbpnfoknaaDoor

/- Paths: what the layer's sample shows. Conditions: the tables are laid; Box. -/
namespace Go.Proofs.YtdchpkbpnfoknaaDoor
namespace Pat
open Sh Mat Fix Opr
set_option linter.unusedVariables false
set_option linter.unusedSimpArgs false
set_option maxRecDepth 8000
set_option maxHeartbeats 8000000
abbrev eB : ByteArray := ⟨#[]⟩
abbrev iO (n : Int) : Ob := (2, n, 0, eB, nilS, nilS)
theorem IV.of {w : World} {g : Nat} {l : List Int} {t : TypeId} (h : Blk w g (ints l).toArray t) : IV w (rowS g l.length) l := ⟨rfl, VRow.of h (by rw [ints_len, Nat.mul_one])⟩
section
variable {w0 w w' w1 : World} {ns sg : Slc} {l : List Int} {L : List Ob} {b mb : Nat} {p : Pa} {m : Mx} {a d : ByteArray} {g : G}
attribute [local irreducible] Ld Sh.St Nw Nn LdS LdT LdST StT
theorem SV.own_lt {s : Slc} {T : List Sg} (h : SV w s T) (hne : T ≠ []) {j : Nat} (hj : s.own j) : j < w.heap.size := by
  cases T with
  | nil => exact absurd rfl hne
  | cons o r =>
    obtain ⟨a, ha, hc⟩ := h.get (i := 0) rfl
    obtain ⟨a', ha', rfl⟩ := hj
    rw [ha] at ha'
    cases ha'
    have := cell_lt' (hc 0 _ rfl)
    rw [add_block, add_block] at this
    exact this
/-- The sample's path, and what lies beside it: blocks that are known whole, rows of segments. -/
structure LS (w0 w : World) (b : Nat) (p : Pa) (sg : Slc) (N : List (Nat × List Value × TypeId)) (M : List (Slc × List Sg)) : Prop where
  ext : Ext (fun _ => False) w0 w
  pv : PV w b p sg
  own : ∀ j, sg.own j → w0.heap.size ≤ j
  ge : w0.heap.size ≤ b
  pin : ∀ q, q ∈ N → Blk w q.1 q.2.1.toArray q.2.2 ∧ ¬ sg.own q.1 ∧ q.1 ≠ b
  pis : ∀ q, q ∈ M → SV w q.1 q.2 ∧ ∀ j, q.1.own j → ¬ sg.own j ∧ j ≠ b ∧ j < w.heap.size
section
variable {N : List (Nat × List Value × TypeId)} {M : List (Slc × List Sg)}
theorem LS.keep (h : LS w0 w b p sg N M) (he : Ext (fun _ => False) w w') : LS w0 w' b p sg N M := ⟨h.ext.tr he, h.pv.keep he, h.own, h.ge, fun q hq => ⟨he.blk (h.pin q hq).1 id, (h.pin q hq).2⟩, fun q hq => ⟨(h.pis q hq).1.keep he, fun j hj => ⟨((h.pis q hq).2 j hj).1, ((h.pis q hq).2 j hj).2.1, by have := ((h.pis q hq).2 j hj).2.2; have := he.size; omega⟩⟩⟩
theorem LS.get (h : LS w0 w b p sg N M) (i : Nat) {q : Nat × List Value × TypeId} (hi : N[i]? = some q) : Blk w q.1 q.2.1.toArray q.2.2 := (h.pin q (List.mem_of_getElem? hi)).1
theorem LS.gets (h : LS w0 w b p sg N M) (i : Nat) {q : Slc × List Sg} (hi : M[i]? = some q) : SV w q.1 q.2 := (h.pis q (List.mem_of_getElem? hi)).1
theorem LS.push (h : LS w0 w b p sg N M) {g : Nat} {cs : List Value} {t : TypeId} {wa : World} (hb : Blk w g cs.toArray t) (hP : PV wa b p sg) (hg : wa.heap.size ≤ g) : LS w0 w b p sg (N ++ [(g, cs, t)]) M :=
  ⟨h.ext, h.pv, h.own, h.ge, fun q hq => by
    rcases List.mem_append.1 hq with hq | hq
    · exact h.pin q hq
    · rw [List.mem_singleton.1 hq]
      exact ⟨hb, fun hj => by have := hP.seg.own_lt hj; omega, by have := hP.blk.lt; omega⟩, h.pis⟩
theorem LS.pushS (h : LS w0 w b p sg N M) {s : Slc} {T : List Sg} {wa : World} (hs : SO wa w s T) (hP : PV wa b p sg) : LS w0 w b p sg N (M ++ [(s, T)]) :=
  ⟨h.ext, h.pv, h.own, h.ge, h.pin, fun q hq => by
    rcases List.mem_append.1 hq with hq | hq
    · exact h.pis q hq
    · rw [List.mem_singleton.1 hq]
      exact ⟨hs.sv, fun j hj => ⟨fun hj' => by have := hP.seg.own_lt hj'; have := hs.2 j hj; omega, by have := hP.blk.lt; have := hs.2 j hj; omega, hs.1.own_lt hj⟩⟩⟩
theorem LS.turn {sg' : Slc} {p' : Pa} (h : LS w0 w b p sg N M) (h2 : PV w1 b p' sg') (h3 : Ext (fun j => j = b ∨ sg.own j) w w1) (h4 : ∀ j, sg'.own j → sg.own j ∨ w.heap.size ≤ j) : LS w0 w1 b p' sg' N M := by
  have sz := h.ext.size
  have hge := h.ge
  refine ⟨Ext.new h.ext h3 fun j hj => ?_, h2, fun j hj => (h4 j hj).elim (h.own j) fun h => by omega, h.ge, fun q hq => ?_, fun q hq => ?_⟩
  · rcases hj with rfl | hj
    · exact hge
    · exact h.own j hj
  · obtain ⟨k1, k2, k3⟩ := h.pin q hq
    have := k1.lt
    exact ⟨h3.blk k1 fun hj => hj.elim k3 k2, fun hj => (h4 _ hj).elim k2 fun h => by omega, k3⟩
  · obtain ⟨k1, k2⟩ := h.pis q hq
    have := h3.size
    exact ⟨k1.keepF h3 fun j hj e => e.elim (k2 j hj).2.1 (k2 j hj).1, fun j hj => ⟨fun hj' => (h4 j hj').elim (k2 j hj).1 fun h => by have := (k2 j hj).2.2; omega, (k2 j hj).2.1, by have := (k2 j hj).2.2; omega⟩⟩
theorem LS.do_ (hs : AS w0) (h : LS w0 w b p sg N M) {s : Slc} {m' : Mx} (ho : OV w s L) (hl : L.length ≤ 9223372036854775807) {e : Int} {p' : Pa} (hd : doP p (bl a) (bl d) L m' = (e, p')) :
    C5 (some ⟨b, 0, none⟩) (a, s, d) m' w fun r w1 => r = e ∧ ∃ sg', LS w0 w1 b p' sg' N M := by
  refine (c_do (hs.keep h.ext) h.pv ho (by omega)).mono ?_
  rintro r w1 ⟨sg', h1, h2, h3, h4⟩
  rw [hd] at h1 h2
  exact ⟨h1.symm, sg', h.turn h2 h3 h4⟩
theorem LS.paint_ (hs : AS w0) (hpm : PM w0) (h : LS w0 w b p sg N M) {s : Slc} (ho : OV w s L) (hl : L.length ≤ 9223372036854775807) (ha : a.size ≤ maxLen) {q : PaR} (hd : paintP p (bl a) (bl d) L = q) :
    C15 (some ⟨b, 0, none⟩) (a, s, d) g w fun r is e w1 => e = q.e ∧ is = q.is ∧ ∃ sp, r = (if q.is = true then mkPt q.how sp (fillG g) (strkG g) else pt0) ∧ SV w1 sp q.L ∧ (∀ j, sp.own j → sg.own j ∨ w.heap.size ≤ j) ∧ ∃ sg', LS w0 w1 b q.p sg' N M ∧ (q.e = 0 → sg' = nilS) ∧ sp.len ≤ sp.cap := by
  refine (c_paint (hs.keep h.ext) (hpm.keep h.ext) h.pv ho (by omega) ha).mono ?_
  rintro r is e w1 ⟨sg', sp, h1, h2, h3, h4, h5, h6, h7, h8, h9⟩
  rw [hd] at h1 h2 h3 h4 h5 h9
  exact ⟨h3, h2, sp, h1, h4, h8, sg', h.turn h5 h6 h7, h9⟩
end
theorem c_doNil (a d : ByteArray) (s : Slc) (m : Mx) (w : World) : C5 none (a, s, d) m w fun r w1 => r = 1 ∧ Ext (fun _ => False) w w1 := by
  refine T5 _ (a, s, d) m _ _ ?_
  unfold S5
  refine (Hn.start w).nw fun w2 H => ?_
  refine H.nw fun w3 H => ?_
  refine H.nw fun w4 H => ?_
  simp only [List.cons_append, List.nil_append, add_lit, Nat.zero_add] at H ⊢
  refine (c_need _ 1 _).mono ?_ ?_
  · rintro w5 ⟨hh, _⟩
    cases hh
  · rintro v w5 ⟨rfl, _, rfl⟩
    have g2 := H.ge 2 rfl
    exact c_pan w3 (H.get 2 rfl) fun w8 e8 => ⟨rfl, Ext.new H.ext e8 fun j hj => by omega⟩
/-! ### What operators do to the sample's path -/
abbrev oneM : Mx := (10000, 0, 0, 10000, 0, 0)
def p1 : Pa := ⟨[mvS (10000, 10000)], (10000, 10000), false⟩
def p2 : Pa := ⟨[mvS (10000, 10000), lnS (20000, 10000)], (10000, 10000), false⟩
def p3 : Pa := ⟨[mvS (10000, 10000), lnS (20000, 10000), cvS (20000, 10000) (30000, 30000) (40000, 10000)], (10000, 10000), false⟩
def p4 : Pa := ⟨[mvS (0, 0), lnS (40000, 0), lnS (40000, 30000), lnS (0, 30000), clS], (0, 0), false⟩
def p5 : Pa := ⟨[mvS (0, 0), lnS (40000, 0), lnS (40000, 30000), lnS (0, 30000), clS], (0, 0), true⟩
theorem d_l0 : doP pa0 (bl ⟨#[108]⟩) (bl eB) ([1, 1].map iO) oneM = (29, pa0) := by kernel_rfl
theorem d_m : doP pa0 (bl ⟨#[109]⟩) (bl eB) ([1, 1].map iO) oneM = (0, p1) := by kernel_rfl
theorem d_l : doP p1 (bl ⟨#[108]⟩) (bl eB) ([2, 1].map iO) oneM = (0, p2) := by kernel_rfl
theorem d_l1 : doP p2 (bl ⟨#[108]⟩) (bl eB) ([2].map iO) oneM = (28, p2) := by kernel_rfl
theorem d_q : doP p2 (bl ⟨#[113]⟩) (bl eB) ([].map iO) oneM = (8, p2) := by kernel_rfl
theorem d_v : doP p2 (bl ⟨#[118]⟩) (bl eB) ([3, 3, 4, 1].map iO) oneM = (0, p3) := by kernel_rfl
theorem d_re : doP pa0 (bl ⟨#[114, 101]⟩) (bl eB) ([0, 0, 2, 3].map iO) (20000, 0, 0, 10000, 0, 0) = (0, p4) := by kernel_rfl
theorem d_W : doP p4 (bl ⟨#[87]⟩) (bl eB) ([].map iO) oneM = (0, p5) := by kernel_rfl
theorem d_s : paintP p3 (bl ⟨#[115]⟩) (bl eB) ([].map iO) = ⟨0, 4, p3.L ++ [clS], true, pa0⟩ := by kernel_rfl
theorem d_n : paintP pa0 (bl ⟨#[110]⟩) (bl eB) ([].map iO) = ⟨0, 0, [], false, pa0⟩ := by kernel_rfl
theorem d_pm : paintP pa0 (bl ⟨#[109]⟩) (bl eB) ([1, 1].map iO) = ⟨8, 0, [], false, pa0⟩ := by kernel_rfl
theorem d_n5 : paintP p5 (bl ⟨#[110]⟩) (bl eB) ([].map iO) = ⟨0, 8, p5.L, true, pa0⟩ := by kernel_rfl
theorem d_box : boxP (ptsL p3.L) = ((10000, 10000, 40000, 30000), true) := by kernel_rfl
theorem d_box0 : boxP (ptsL []) = ((0, 0, 0, 0), false) := by kernel_rfl
end
end Pat
end Go.Proofs.YtdchpkbpnfoknaaDoor

/- Matrices and objects: Array, matrix.Object, matrix.Read. Conditions: sizes. -/
namespace Go.Proofs.YtdchpkbpnfoknaaDoor
namespace Mat
open Sh Fix
set_option linter.unusedVariables false
set_option linter.unusedSimpArgs false
set_option maxRecDepth 4000
set_option maxHeartbeats 1000000

theorem OV.nil (w : World) : OV w nilS [] := ⟨rfl, rfl, fun j v h => by cases h⟩
def i64M (m : Mx) : Prop := ∀ x ∈ comps m, -9223372036854775808 ≤ x ∧ x ≤ 9223372036854775807
/-- The result of reading a matrix. -/
def readK (L : List Ob) : Option Mx := if (L.all fun o => (numV o).isSome) = true then
  some ((numV (L.getD 0 ob0)).getD 0, (numV (L.getD 1 ob0)).getD 0, (numV (L.getD 2 ob0)).getD 0, (numV (L.getD 3 ob0)).getD 0, (numV (L.getD 4 ob0)).getD 0, (numV (L.getD 5 ob0)).getD 0) else none
def readF (o : Ob) (L : List Ob) : Mx × Int := if o.1 ≠ 6 then ((0, 0, 0, 0, 0, 0), 10) else if L.length ≠ 6 then ((0, 0, 0, 0, 0, 0), 3) else match readK L with
  | some m => (m, 0)
  | none => ((0, 0, 0, 0, 0, 0), 3)
attribute [local irreducible] Ld St Nw Nn Lt LdS
theorem c_cloneO {s : Slc} {L : List Ob} {w : World} (hL : OV w s L) (hs : s.p ≠ none) (hl : ∀ o ∈ L, leaf o) (hn : L.length ≤ 1000000) :
    C60 (6, 0, 0, ⟨#[]⟩, nilS, s) w fun r w1 => ∃ g, r = (6, 0, 0, ⟨#[]⟩, nilS, rowS g L.length) ∧ Blk w1 g (L.flatMap obrow).toArray 64 ∧ w.heap.size ≤ g ∧ Ext (fun _ => False) w w1 := by
  refine T60 (6, 0, 0, ⟨#[]⟩, nilS, s) _ _ ?_
  unfold S60
  refine (Hn.start w).nw fun w2 H => H.nw fun w3 H => ?_
  simp only [List.nil_append, List.cons_append, List.set_cons_zero, List.set_cons_succ, Nat.zero_add] at H
  iterate 6 refine H.ld 0 rfl rfl ?_
  refine (c_changed1 (hL.keep H.ext) hs hl hn).mono ?_
  rintro r w4 ⟨g, rfl, hb, hg, he⟩
  have hne : g ∉ [w.heap.size, w2.heap.size] := by
    have h1 := H.lt 0 rfl
    have h2 := H.lt 1 rfl
    simp
    omega
  have hsz := H.size
  have H := (H.keep he).push hb (by omega) hne
  generalize hM : L.flatMap obrow = M at H
  simp only [List.nil_append, List.cons_append, List.set_cons_zero, List.set_cons_succ, Nat.zero_add] at H
  iterate 6 (refine H.st 1 rfl (by simp) fun _ H => ?_; simp only [List.nil_append, List.cons_append, List.set_cons_zero, List.set_cons_succ, Nat.zero_add] at H)
  iterate 6 refine H.ld 1 rfl rfl ?_
  have hb := H.get 2 rfl
  subst hM
  exact ⟨_, rfl, hb, H.ge 2 rfl, H.ext⟩
theorem c_array {s : Slc} {L : List Ob} {w : World} (hL : OV w s L) (hs : s.p ≠ none) (hl : ∀ o ∈ L, leaf o) (hn : L.length ≤ 1000000) :
    C42 s w fun r w1 => ∃ g, r = (6, 0, 0, ⟨#[]⟩, nilS, rowS g L.length) ∧ Blk w1 g (L.flatMap obrow).toArray 64 ∧ w.heap.size ≤ g ∧ Ext (fun _ => False) w w1 := by
  refine T42 _ _ _ ?_
  unfold S42
  refine (Hn.start w).nw fun w2 H => ?_
  refine (c_cloneO (hL.keep H.ext) hs hl hn).mono ?_
  rintro r w4 ⟨g, rfl, hb, hg, he⟩
  have hne : g ∉ [w.heap.size] := by
    have h1 := H.lt 0 rfl
    simp
    omega
  have hsz := H.size
  have H := (H.keep he).push hb (by omega) hne
  generalize hM : L.flatMap obrow = M at H
  simp only [List.nil_append, List.cons_append, List.set_cons_zero, List.set_cons_succ, Nat.zero_add] at H
  iterate 6 (refine H.st 0 rfl (by simp) fun _ H => ?_; simp only [List.nil_append, List.cons_append, List.set_cons_zero, List.set_cons_succ, Nat.zero_add] at H)
  iterate 6 refine H.ld 0 rfl rfl ?_
  have hb := H.get 1 rfl
  subst hM
  exact ⟨_, rfl, hb, H.ge 1 rfl, H.ext⟩
theorem num_leaf (n : Int) : leaf (numO n) := by
  unfold numO
  split <;> exact ⟨rfl, rfl⟩
theorem c_objectC {m : Mx} (hm : i64M m) (w : World) :
    C18 m w fun r w1 => ∃ g, r = (6, 0, 0, ⟨#[]⟩, nilS, rowS g 6) ∧ Blk w1 g (((comps m).map numO).flatMap obrow).toArray 64 ∧ w.heap.size ≤ g ∧ Ext (fun _ => False) w w1 := by
  refine T18 _ _ _ ?_
  unfold S18
  refine (Hn.start w).nw fun w2 H => H.nw fun w3 H => ?_
  simp only [List.nil_append, List.cons_append, List.set_cons_zero, List.set_cons_succ, Nat.zero_add] at H
  refine (c_parts H).mono ?_
  rintro r w4 ⟨rfl, he⟩
  have H := H.keep he
  refine ⟨fun n st w5 => ∃ i : Nat, st.2 = (i : Int) ∧ i ≤ 6 ∧ n = 6 - i ∧ Hn w w5 [(w.heap.size, mrow m, 23), (w2.heap.size, obrow ob0, 64)] ∧ st.1.len = i ∧ Row w5 st.1 64 6 ((((comps m).map numO).take i).flatMap obrow) ∧ (∀ j, st.1.own j → w.heap.size ≤ j ∧ j ∉ [w.heap.size, w2.heap.size]),
    6, ⟨0, rfl, by omega, rfl, H, rfl, Row.nil _ _ _, fun j ⟨a, ha, _⟩ => by cases ha⟩, ?_⟩
  rintro n ⟨s, st⟩ w5 ⟨i, hst, hi, rfl, H, hsl, hrow, hown⟩
  simp only at hst hsl hrow hown
  subst hst
  unfold S18L1
  dsimp only
  have hnorm : ∀ {w6 : World} {o : Ob}, Ext (fun _ => False) w5 w6 → i < 6 → ((comps m).map numO)[i]? = some o → Nw w6 (.cells #[.int .i64 (o.1), .int .i64 (o.2.1), .int .i64 (o.2.2.1), .string o.2.2.2.1, Slc.v o.2.2.2.2.1, Slc.v o.2.2.2.2.2] 64) fun w7 =>
      Rn Tryd.prog (Builtin.append_ #[28, 28] 28 #[Slc.v s, Slc.v ((⟨some ⟨w6.heap.size, 0, none⟩, 1, 1⟩ : Slc))]) w7 Slc.v fun (x : Slc) w8 =>
      ∃ n', n' < 6 - i ∧ ∃ i' : Nat, IntKind.i64.wrap ((i : Int) + 1) = (i' : Int) ∧ i' ≤ 6 ∧ n' = 6 - i' ∧ Hn w w8 [(w.heap.size, mrow m, 23), (w2.heap.size, obrow ob0, 64)] ∧ x.len = i' ∧ Row w8 x 64 6 ((((comps m).map numO).take i').flatMap obrow) ∧ (∀ j, x.own j → w.heap.size ≤ j ∧ j ∉ [w.heap.size, w2.heap.size]) := by
    intro w6 o he6 hi6 ho
    refine (H.keep he6).nw' fun w7 H7 he7 => ?_
    obtain ⟨x, w8, hrun, hr8, hl8, he8, ho8⟩ := elOb.app1 (ty := 28) ((hrow.keep he6 fun _ _ h => h).keep he7 fun _ _ h => h) (H7.get 2 rfl) rfl (ob_one o) (by omega) (by omega)
    refine ⟨x, w8, hrun, 6 - (i + 1), by omega, i + 1, by rw [i64_id (by omega)]; rfl, by omega, rfl, H7.left.other he8 hown, by omega, ?_, fun j hj => ?_⟩
    · rw [List.take_add_one, ho, List.flatMap_append]
      simpa [obrow] using hr8
    · rcases ho8 j hj with h | h
      · exact hown j h
      · have h1 := H7.lt 0 rfl
        have h2 := H7.lt 1 rfl
        have h3 := H7.size
        refine ⟨by omega, ?_⟩
        simp
        omega
  refine Br.dec (fun e => ⟨by omega, by omega, ?_⟩) fun e => ?_
  · have hi6 : i < 6 := by omega
    have hx : ∃ x, (comps m)[i]? = some x ∧ ∃ a, (#[.pointer (some ⟨w.heap.size, 0, none⟩), .pointer (some ⟨w.heap.size, 1, none⟩), .pointer (some ⟨w.heap.size, 2, none⟩), .pointer (some ⟨w.heap.size, 3, none⟩), .pointer (some ⟨w.heap.size, 4, none⟩), .pointer (some ⟨w.heap.size, 5, none⟩)] : Array Value)[((i : Int)).toNat * 1]? = some (.pointer (some a)) ∧ ∀ K : Int → Prop, K x → Ld w5 a (Value.int .i64) K := by
      have hc : i = 0 ∨ i = 1 ∨ i = 2 ∨ i = 3 ∨ i = 4 ∨ i = 5 := by omega
      rcases hc with rfl | rfl | rfl | rfl | rfl | rfl <;> exact ⟨_, rfl, _, rfl, fun K hK => H.ld 0 rfl rfl hK⟩
    obtain ⟨x, hx, a, ha, hld⟩ := hx
    have hxr := hm x (List.mem_of_getElem? hx)
    have ho : ((comps m).map numO)[i]? = some (numO x) := by rw [List.getElem?_map, hx]; rfl
    refine ⟨some a, ha, Nn.of (hld _ ?_)⟩
    have htd := td x
    refine Br.eq (fun h => Nn.of (hld _ ((c_int _ _).mono ?_))) fun h => Nn.of (hld _ ((c_real _ _).mono ?_))
    · rintro o w6 ⟨rfl, he6⟩
      refine hnorm he6 hi6 ?_
      rw [ho, numO, if_pos h, i64_id (by omega)]
    · rintro o w6 ⟨rfl, he6⟩
      refine hnorm he6 hi6 ?_
      rw [ho, numO, if_neg h]
  · have hi6 : i = 6 := by omega
    subst hi6
    have hall : ((comps m).map numO).take 6 = (comps m).map numO := rfl
    rw [hall] at hrow
    have hs : s.p ≠ none := by
      obtain ⟨g, hg, _⟩ := hrow.cell (j := 0) (v := .int .i64 (numO m.1).1) rfl
      rw [hg]
      simp
    refine (c_array (L := (comps m).map numO) ⟨hsl, hrow.view⟩ hs (fun o ho => by obtain ⟨x, _, rfl⟩ := List.mem_map.1 ho; exact num_leaf x) (by show 6 ≤ 1000000; omega)).mono ?_
    rintro r w6 ⟨g, rfl, hb, hg, he⟩
    have hne : g ∉ [w.heap.size, w2.heap.size] := by
      have h1 := H.lt 0 rfl
      have h2 := H.lt 1 rfl
      simp
      omega
    have hsz := H.size
    have H := (H.keep he).push hb (by omega) hne
    generalize hM : ((comps m).map numO).flatMap obrow = M at H
    simp only [List.cons_append, List.nil_append, obrow, ob0] at H
    iterate 6 (refine H.st 1 rfl (by simp) fun _ H => ?_; simp only [List.nil_append, List.cons_append, List.set_cons_zero, List.set_cons_succ, Nat.zero_add] at H)
    iterate 6 refine H.ld 1 rfl rfl ?_
    have hb := H.get 2 rfl
    subst hM
    exact ⟨_, rfl, hb, H.ge 2 rfl, H.ext⟩
def vals (f : Nat → Int) (i : Nat) : List Value := (List.range 6).map fun j => .int .i64 (if j < i then f j else 0)
theorem vals_set {f : Nat → Int} {i : Nat} (hi : i < 6) : (vals f i).set i (.int .i64 (f i)) = vals f (i + 1) := by
  have hc : i = 0 ∨ i = 1 ∨ i = 2 ∨ i = 3 ∨ i = 4 ∨ i = 5 := by omega
  rcases hc with rfl | rfl | rfl | rfl | rfl | rfl <;> rfl
/-- The numbers of the kids. -/
def kidN (L : List Ob) (i : Nat) : Int := (numV (L.getD i ob0)).getD 0
theorem readK_yes {L : List Ob} (hL : L.length = 6) (h : ∀ j, j < 6 → (numV (L.getD j ob0)).isSome = true) : readK L = some (kidN L 0, kidN L 1, kidN L 2, kidN L 3, kidN L 4, kidN L 5) := by
  unfold readK
  rw [if_pos]
  · rfl
  · rw [List.all_eq_true]
    intro o ho
    obtain ⟨i, hi, rfl⟩ := List.mem_iff_getElem.1 ho
    have := h i (by omega)
    rwa [List.getD_eq_getElem?_getD, List.getElem?_eq_getElem hi] at this
theorem readK_no {L : List Ob} {o : Ob} (h : o ∈ L) (hn : numV o = none) : readK L = none := by
  unfold readK
  rw [if_neg]
  intro h2
  have := List.all_eq_true.1 h2 o h
  rw [hn] at this
  cases this
theorem readF_bad {o : Ob} {L : List Ob} (h6 : o.1 = 6) (hl : L.length = 6) (h : readK L = none) : readF o L = ((0, 0, 0, 0, 0, 0), 3) := by
  unfold readF
  rw [if_neg (by omega), if_neg (by omega), h]
end Mat
end Go.Proofs.YtdchpkbpnfoknaaDoor
