/- The reference of package predict answers the same. Conditions: sizes. -/
import Derived.Test.YtahdpfjikmechaaPreE
import Derived.Test.YtahdpfjikmechaaFnPreR
namespace Go.Proofs.Ytahdpfjikmechaa
namespace Pre
open Sh
set_option linter.unusedVariables false
set_option linter.unusedSimpArgs false

theorem r_check (p : Int × Int × Int) (w : World) : C51 p w fun r w1 => r = (if okP p = true then 0 else 1) ∧ Ext (fun _ => False) w w1 := by
  refine T51 _ _ _ ?_
  unfold S51
  refine (Hx.start w (fun _ => False)).nw fun w2 H => ?_
  have no : ¬ ((p.1 = 1 ∨ p.1 = 2 ∨ (10 ≤ p.1 ∧ p.1 ≤ 15)) ∧ 1 ≤ p.2.1 ∧ 1 ≤ p.2.2 ∧ p.2.1 * p.2.2 ≤ 8192) → (1 : Int) = (if okP p = true then 0 else 1) ∧ Ext (fun _ => False) w w2 := fun h => ⟨by rw [okP_no h]; rfl, H.ext⟩
  refine ⟨fun _ w3 => w3 = w2 ∧ (p.1 = 1 ∨ p.1 = 2 ∨ (10 ≤ p.1 ∧ p.1 ≤ 15)), ?_, H.ld 0 rfl rfl (Br.ne (fun e => H.ld 0 rfl rfl (Br.ne (fun e2 => H.ld 0 rfl rfl (Br.dec (fun e3 => no (by omega)) fun e3 => H.ld 0 rfl rfl (Br.dec (fun e4 => no (by omega)) fun e4 => ⟨rfl, by omega⟩))) fun e2 => ⟨rfl, by omega⟩)) fun e => ⟨rfl, by omega⟩)⟩
  rintro _ w3 ⟨rfl, hk⟩
  unfold S51J1
  refine H.ld 0 rfl rfl (Br.dec (fun e => no (by omega)) fun e => H.ld 0 rfl rfl (Br.dec (fun e2 => no (by omega)) fun e2 => H.ld 0 rfl rfl (Br.dec (fun e3 => no fun h => ?_) fun e3 => H.ld 0 rfl rfl (Br.dec (fun e4 => no fun h => ?_) fun e4 => H.ld 0 rfl rfl (H.ld 0 rfl rfl ?_)))))
  · have : p.2.1 * 1 ≤ p.2.1 * p.2.2 := Int.mul_le_mul_of_nonneg_left (by omega) (by omega)
    omega
  · have : 1 * p.2.2 ≤ p.2.1 * p.2.2 := Int.mul_le_mul_of_nonneg_right (by omega) (by omega)
    omega
  · have h1 : p.2.1 * p.2.2 ≤ 8192 * 8192 := Int.mul_le_mul (by omega) (by omega) (by omega) (by omega)
    have h2 : 0 ≤ p.2.1 * p.2.2 := Int.mul_nonneg (by omega) (by omega)
    rw [i64_id (by omega)]
    refine Br.dec (fun e5 => no (by omega)) fun e5 => ⟨?_, H.ext⟩
    have : okP p = true := decide_eq_true ⟨hk, by omega, by omega, by omega⟩
    rw [this]
    rfl
theorem r_row (p : Int × Int × Int) (w : World) : C53 p w fun r w1 => r = rowP p ∧ Ext (fun _ => False) w w1 := by
  refine T53 _ _ _ ?_
  unfold S53
  refine (Hx.start w (fun _ => False)).nw fun w2 H => H.ld 0 rfl rfl (H.ld 0 rfl rfl (H.ld 0 rfl rfl ((r_check p _).mono ?_)))
  rintro r w3 ⟨rfl, he⟩
  have H := H.keep he
  unfold rowP
  by_cases h : okP p = true
  · have h2 := okP_spec h
    have : 1 * 1 ≤ p.2.1 * p.2.2 := Int.mul_le_mul h2.2.1 h2.2.2.1 (by omega) (by omega)
    rw [if_pos h]
    refine H.ld 0 rfl rfl (H.ld 0 rfl rfl ⟨?_, H.ext⟩)
    rw [if_pos h, i64_id (by omega)]
  · rw [if_neg h]
    exact ⟨by rw [if_neg h], H.ext⟩
theorem r_far {n : Int} (hn : -100000 ≤ n ∧ n ≤ 100000) (w : World) : C97 n w fun r w1 => r = (n.natAbs : Int) ∧ w1 = w := by
  refine T97 _ _ _ ?_
  unfold S97
  rw [i64_id (by omega)]
  refine ⟨?_, rfl⟩
  split <;> omega
theorem r_paeth {a b c : Nat} (ha : a < 256) (hb : b < 256) (hc : c < 256) (w : World) : C57 (a : Int) (b : Int) (c : Int) w fun r w1 => r = ((paeth a b c : Nat) : Int) ∧ w1 = w := by
  refine T57 _ _ _ _ _ ?_
  unfold S57
  rw [i64_id (n := (a : Int)) (by omega), i64_id (n := (b : Int)) (by omega), i64_id (n := (c : Int)) (by omega), i64_id (n := (a : Int) + b) (by omega), i64_id (by omega)]
  refine Lt.of ?_
  rw [i64_id (n := (a : Int) + b - c - a) (by omega), i64_id (n := (a : Int) + b - c - b) (by omega), i64_id (n := (a : Int) + b - c - c) (by omega)]
  refine (r_far (by omega) w).mono ?_
  rintro _ _ ⟨rfl, rfl⟩
  refine (r_far (by omega) _).mono ?_
  rintro _ _ ⟨rfl, rfl⟩
  refine (r_far (by omega) _).mono ?_
  rintro _ w1 ⟨rfl, rfl⟩
  unfold paeth
  refine Br.dec (fun e => Br.dec (fun e2 => ?_) fun e2 => Br.dec (fun e3 => ?_) fun e3 => ?_) fun e => Br.dec (fun e3 => ?_) fun e3 => ?_
  · rw [if_pos (by omega)]; exact ⟨rfl, rfl⟩
  all_goals rw [if_neg (by omega)]
  · rw [if_pos (by omega)]; exact ⟨rfl, rfl⟩
  · rw [if_neg (by omega)]; exact ⟨rfl, rfl⟩
  · rw [if_pos (by omega)]; exact ⟨rfl, rfl⟩
  · rw [if_neg (by omega)]; exact ⟨rfl, rfl⟩
theorem r_at {w : World} {s : Slc} {l : List UInt8} (h : RRow w s l) (i : Int) : C121 s i w fun r w1 => r = ((pAt l i : Nat) : Int) ∧ w1 = w := by
  refine T121 _ _ _ _ ?_
  unfold S121
  have hl := h.len
  unfold pAt
  refine Br.dec (fun e => ?_) fun e => Br.dec (fun e2 => ?_) fun e2 => ?_
  · rw [if_pos e]
    exact ⟨rfl, rfl⟩
  · rw [if_neg e, List.getD_eq_getElem?_getD, List.getElem?_eq_none (by omega)]
    exact ⟨rfl, rfl⟩
  · rw [if_neg e]
    obtain ⟨k, rfl⟩ := Int.eq_ofNat_of_zero_le (show 0 ≤ i by omega)
    rw [Int.toNat_natCast]
    have hk : k < l.length := by omega
    obtain ⟨g, hp, hc⟩ := h.get (List.getElem?_eq_getElem hk)
    rw [hp]
    refine ⟨by omega, by omega, Nn.of ⟨((l[k].toNat : Nat) : Int), by rw [add_lit]; simpa using hc, ?_, rfl⟩⟩
    simp [List.getD_eq_getElem?_getD, hk]
theorem r_off {w : World} {s1 s2 : Slc} {prev row : List UInt8} (h1 : RRow w s1 prev) (h2 : RRow w s2 row) (tag : Int) {i colors : Nat} (hi : i ≤ 1099511627776) (hc : colors ≤ 9223372036854775807) :
    C94 tag s1 s2 (i : Int) (colors : Int) w fun r w1 => r = ((off tag prev row i colors : Nat) : Int) ∧ w1 = w := by
  refine T94 _ _ _ _ _ _ _ ?_
  unfold S94
  rw [i64_id (n := (i : Int) - colors) (by omega)]
  refine (r_at h2 _).mono ?_
  rintro _ _ ⟨rfl, rfl⟩
  refine (r_at h1 _).mono ?_
  rintro _ _ ⟨rfl, rfl⟩
  refine (r_at h1 _).mono ?_
  rintro _ w1 ⟨rfl, rfl⟩
  have b1 := pAt_lt row ((i : Int) - colors)
  have b2 := pAt_lt prev i
  have b3 := pAt_lt prev ((i : Int) - colors)
  unfold off
  refine Br.eq (fun e => ?_) fun e => Br.eq (fun e2 => ?_) fun e2 => Br.eq (fun e3 => ?_) fun e3 => Br.eq (fun e4 => ?_) fun e4 => ?_
  · rw [if_pos e]
    exact ⟨rfl, rfl⟩
  all_goals rw [if_neg e]
  · rw [if_pos e2]
    exact ⟨rfl, rfl⟩
  all_goals rw [if_neg e2]
  · rw [if_pos e3, i64_id (n := ((pAt row ((i : Int) - colors) : Nat) : Int)) (by omega), i64_id (n := ((pAt prev i : Nat) : Int)) (by omega), i64_id (n := ((pAt row ((i : Int) - colors) : Nat) : Int) + ((pAt prev i : Nat) : Int)) (by omega), tdiv_id (by omega), i64_id (by omega)]
    exact Lt.of ⟨by rw [u8_id (by omega)]; omega, rfl⟩
  all_goals rw [if_neg e3]
  · rw [if_pos e4]
    refine (r_paeth b1 b2 b3 _).mono ?_
    rintro _ _ ⟨rfl, rfl⟩
    exact ⟨rfl, rfl⟩
  · rw [if_neg e4]
    exact ⟨rfl, rfl⟩
theorem r_less {w : World} {s1 s2 : Slc} {prev row : List UInt8} (h1 : RRow w s1 prev) (h2 : RRow w s2 row) (tag : Int) {colors : Nat} (hsz : row.length ≤ 109951162777) (hc : colors ≤ 9223372036854775807) :
    C92 tag s1 s2 (colors : Int) w fun r w1 => BRow w1 r (less tag prev row colors) ∧ Ext (fun _ => False) w w1 ∧ ∀ j, r.own j → w.heap.size ≤ j := by
  refine T92 _ _ _ _ _ _ ?_
  unfold S92
  refine ⟨fun n st w4 => ∃ i : Nat, st.2 = (i : Int) ∧ i ≤ row.length ∧ n = row.length - i ∧ Ext (fun _ => False) w w4 ∧ BRow w4 st.1 ((less tag prev row colors).take i) ∧ ∀ j, st.1.own j → w.heap.size ≤ j,
    row.length, ⟨0, rfl, by omega, rfl, Ext.refl _ _, BRow.nil _, by rintro j ⟨a, ha, _⟩; cases ha⟩, ?_⟩
  rintro n ⟨out, _⟩ w4 ⟨i, rfl, hi, rfl, he, hrow, ho⟩
  unfold S92L1
  dsimp only at hrow ho ⊢
  have hl2 := h2.len
  rw [hl2]
  refine Br.dec (fun e => ?_) fun e => ?_
  · have hlt : i < row.length := by omega
    have g1 := h1.keep he.drew fun _ _ h => h
    have g2 := h2.keep he.drew fun _ _ h => h
    obtain ⟨g, hp, hcell⟩ := g2.get (List.getElem?_eq_getElem hlt)
    rw [hp]
    refine ⟨fun w3 => w3 = w4.drew, rfl, by omega, by omega, Nn.of ⟨((row[i].toNat : Nat) : Int), fun w3 e => by rw [e, add_lit]; simpa using hcell, (r_off g1 g2 tag (by omega) hc).mono ?_⟩⟩
    rintro x w5 ⟨rfl, rfl⟩
    refine ⟨rfl, ?_⟩
    have hrow5 := hrow.keep ((Ext.refl (fun _ => False) w4).drew.alloc (.cells #[.int .u8 (((row[i] - UInt8.ofNat (off tag prev row i colors)).toNat : Nat) : Int)] 5)) fun _ _ h => h
    rw [sub_u8 _ (off_lt _ _ _ _ _)]
    have htk : ((less tag prev row colors).take i).length = i := by rw [List.length_take, less_len]; omega
    obtain ⟨x, w6, hrun, hx, he6, hown⟩ := app_one (ty := 97) hrow5 (Blk.new _ _ _) (by omega)
    refine ⟨x, w6, hrun, row.length - (i + 1), by omega, i + 1, by rw [i64_id (by omega)]; rfl, by omega, rfl, ?_, ?_, ?_⟩
    · exact (he.drew.alloc _).trans he6 (fun _ h => h) fun j hj h => by have := ho j h; omega
    · rw [less_take hlt]
      have : row.getD i 0 = row[i] := by simp [List.getD_eq_getElem?_getD, hlt]
      rw [this]
      exact hx
    · intro j hj
      rcases hown j hj with h | h
      · exact ho j h
      · have := (he.drew.alloc (.cells #[.int .u8 (((row[i] - UInt8.ofNat (off tag prev row i colors)).toNat : Nat) : Int)] 5)).size
        omega
  · have : i = row.length := by omega
    subst this
    rw [List.take_of_length_le (by rw [less_len]; omega)] at hrow
    exact ⟨hrow, he, ho⟩
theorem r_best {w : World} {s1 s2 : Slc} {prev row : List UInt8} (h1 : RRow w s1 prev) (h2 : RRow w s2 row) {colors : Nat} (hsz : row.length ≤ 109951162777) (hc : colors ≤ 9223372036854775807) :
    C91 s1 s2 (colors : Int) w fun r w1 => r = ((best prev row colors : Nat) : Int) ∧ Ext (fun _ => False) w w1 := by
  refine T91 _ _ _ _ _ ?_
  unfold S91
  refine ⟨fun n st w4 => ∃ k : Nat, st = (((bestK prev row colors k).1 : Int), (((bestK prev row colors k).2 : Nat) : Int), (k : Int)) ∧ k ≤ 5 ∧ n = 5 - k ∧ Ext (fun _ => False) w w4,
    5, ⟨0, rfl, by omega, rfl, Ext.refl _ _⟩, ?_⟩
  rintro n st w4 ⟨k, rfl, hk, rfl, he⟩
  unfold S91L2
  dsimp only
  refine Br.dec (fun e => ?_) fun e => ?_
  · refine (r_less (h1.keep he fun _ _ h => h) (h2.keep he fun _ _ h => h) k hsz hc).mono ?_
    rintro r w5 ⟨hr, he5, _⟩
    have hl := hr.len
    rw [less_len] at hl
    have hle := far_le (less k prev row colors)
    rw [less_len] at hle
    refine ⟨fun n st w6 => ∃ i : Nat, st = (((far ((less k prev row colors).take i) : Nat) : Int), (i : Int)) ∧ i ≤ row.length ∧ n = row.length - i ∧ Ext (fun _ => False) w5 w6, row.length, ⟨0, by simp [far], by omega, rfl, Ext.refl _ _⟩, ?_⟩
    rintro n st w6 ⟨i, rfl, hi, rfl, he6⟩
    unfold S91L1
    rw [hl]
    dsimp only
    refine Br.dec (fun e2 => ?_) fun e2 => ?_
    · have hlt : i < (less k prev row colors).length := by rw [less_len]; omega
      obtain ⟨g, hp, hcell⟩ := (hr.keep he6.drew fun _ _ h => h).get (List.getElem?_eq_getElem hlt)
      rw [hp]
      have hb := (less k prev row colors)[i].toNat_lt
      have hf := far_le ((less k prev row colors).take i)
      rw [List.length_take, Nat.min_eq_left (by omega)] at hf
      refine ⟨by omega, by omega, Nn.of ⟨(((less k prev row colors)[i].toNat : Nat) : Int), by rw [add_lit]; simpa using hcell, by omega, by omega, Nn.of ⟨(((less k prev row colors)[i].toNat : Nat) : Int), by rw [add_lit]; simpa using hcell, ?_⟩⟩⟩
      dsimp only
      rw [i64_id (n := (((less k prev row colors)[i].toNat : Nat) : Int)) (by omega), i64_id (n := 256 - (((less k prev row colors)[i].toNat : Nat) : Int)) (by omega)]
      refine Lt.of ⟨row.length - (i + 1), by omega, i + 1, ?_, by omega, rfl, he6.drew⟩
      have hg : (less k prev row colors).getD i 0 = (less k prev row colors)[i] := by simp [List.getD_eq_getElem?_getD, hlt]
      rw [far_take _ hlt, hg]
      refine Prod.ext ?_ ?_
      · dsimp only
        split
        · rw [i64_id (by omega)]; omega
        · rw [i64_id (by omega)]; omega
      · dsimp only
        rw [i64_id (by omega)]; rfl
    · have : i = row.length := by omega
      subst this
      rw [List.take_of_length_le (by rw [less_len]; omega), i64_id (by omega)]
      refine Br.eq (fun e3 => ?_) fun e3 => Br.dec (fun e4 => ?_) fun e4 => ?_
      · refine ⟨5 - (k + 1), by omega, k + 1, ?_, by omega, rfl, (he.tr he5).tr he6⟩
        simp only [bestK]
        rw [if_pos (.inl (by omega))]
        rfl
      · refine ⟨5 - (k + 1), by omega, k + 1, ?_, by omega, rfl, (he.tr he5).tr he6⟩
        simp only [bestK]
        rw [if_pos (.inr (by omega))]
        rfl
      · refine ⟨5 - (k + 1), by omega, k + 1, ?_, by omega, rfl, (he.tr he5).tr he6⟩
        simp only [bestK]
        rw [if_neg (by omega)]
        rfl
  · have : k = 5 := by omega
    subst this
    exact ⟨rfl, he⟩
theorem max1 (c : Int) : (if 1 > c then 1 else c) = (((max c 1).toNat : Nat) : Int) := by
  split <;> omega
theorem c_Best (prev row : ByteArray) {colors : Int} (hc : colors ≤ 9223372036854775807) (h2 : row.size ≤ 109951162777) (w : World) :
    C54 prev row colors w fun r w1 => r = ((best prev.data.toList row.data.toList (max colors 1).toNat : Nat) : Int) ∧ Ext (fun _ => False) w w1 := by
  refine T54 _ _ _ _ _ ?_
  unfold S54
  obtain ⟨x, w2, hrun, hx, he, _⟩ := bytes_str w prev
  refine ⟨x, w2, hrun, ?_⟩
  obtain ⟨y, w3, hrun, hy, he3, _⟩ := bytes_str w2 row
  refine ⟨y, w3, hrun, ?_⟩
  rw [max1]
  refine (c_best (hx.keep he3 fun _ _ h => h) hy (by rw [← size_list]; omega) (by omega)).mono ?_
  rintro r w4 ⟨rfl, he4⟩
  exact ⟨rfl, (he.tr he3).tr he4⟩
theorem r_Best (prev row : ByteArray) {colors : Int} (hc : colors ≤ 9223372036854775807) (h2 : row.size ≤ 109951162777) (w : World) :
    C55 prev row colors w fun r w1 => r = ((best prev.data.toList row.data.toList (max colors 1).toNat : Nat) : Int) ∧ Ext (fun _ => False) w w1 := by
  refine T55 _ _ _ _ _ ?_
  unfold S55
  obtain ⟨x, w2, hrun, hx, he, _⟩ := bytes_str w prev
  refine ⟨x, w2, hrun, ?_⟩
  obtain ⟨y, w3, hrun, hy, he3, _⟩ := bytes_str w2 row
  refine ⟨y, w3, hrun, ?_⟩
  rw [max1]
  refine (r_best (hx.keep he3 fun _ _ h => h) hy (by rw [← size_list]; omega) (by omega)).mono ?_
  rintro r w4 ⟨rfl, he4⟩
  exact ⟨rfl, (he.tr he3).tr he4⟩
theorem row_ok {p : Int × Int × Int} (h : okP p = true) : rowP p = ((rowN p : Nat) : Int) := by
  have := (rowN_spec p).1
  have h2 := okP_spec h
  have h3 : 1 * 1 ≤ p.2.1 * p.2.2 := Int.mul_le_mul h2.2.1 h2.2.2.1 (by omega) (by omega)
  unfold rowP at this ⊢
  rw [if_pos h] at this ⊢
  omega
theorem refuse_lit {p : Int × Int × Int} (h : okP p = true) {n m : Int} : refuseP p n m = if 1048576 < n then 5 else if p.1 ≠ 1 ∧ Int.tmod n m ≠ 0 then 16 else 0 := by
  unfold refuseP
  rw [if_neg (by rw [h]; simp)]
theorem encP_eq {p : Int × Int × Int} (hok : okP p = true) (s : List UInt8) : encP p s = if 1048576 < (s.length : Int) then (([], 5) : List UInt8 × Int) else if p.1 = 1 then (s, 0) else if Int.tmod s.length ((rowN p : Nat) : Int) ≠ 0 then ([], 16)
    else if 10 ≤ p.1 ∧ 1048576 < s.length + s.length / rowN p then ([], 5) else (encN p.1 (rowN p) p.2.1.toNat (s.length / rowN p) [] s, 0) := by
  unfold encP
  rw [refuse_lit hok]
  by_cases a : 1048576 < (s.length : Int)
  · rw [if_pos a, if_pos a, if_pos (by simp)]
  · rw [if_neg a, if_neg a]
    by_cases b : p.1 = 1
    · rw [if_neg (c := p.1 ≠ 1 ∧ _) (fun h => h.1 b), if_neg (by simp), if_pos b, if_pos b]
    · rw [if_neg b, if_neg b]
      by_cases c : Int.tmod (s.length : Int) ((rowN p : Nat) : Int) ≠ 0
      · rw [if_pos (show p.1 ≠ 1 ∧ _ from ⟨b, c⟩), if_pos (by simp), if_pos c]
      · rw [if_neg (c := p.1 ≠ 1 ∧ _) (fun h => c h.2), if_neg (by simp), if_neg c]
theorem decP_eq {p : Int × Int × Int} (hok : okP p = true) (s : List UInt8) : decP p s = if 1048576 < (s.length : Int) then (([], 5) : List UInt8 × Int) else if p.1 = 1 then (s, 0) else if Int.tmod s.length ((rowN p + headN p : Nat) : Int) ≠ 0 then ([], 16)
    else match decN (headN p) (rowN p) p.2.1.toNat (s.length / (rowN p + headN p)) [] s with
      | none => ([], 3)
      | some l => (l, 0) := by
  unfold decP
  rw [refuse_lit hok]
  by_cases a : 1048576 < (s.length : Int)
  · rw [if_pos a, if_pos a, if_pos (by simp)]
  · rw [if_neg a, if_neg a]
    by_cases b : p.1 = 1
    · rw [if_neg (c := p.1 ≠ 1 ∧ _) (fun h => h.1 b), if_neg (by simp), if_pos b, if_pos b]
    · rw [if_neg b, if_neg b]
      by_cases c : Int.tmod (s.length : Int) ((rowN p + headN p : Nat) : Int) ≠ 0
      · rw [if_pos (show p.1 ≠ 1 ∧ _ from ⟨b, c⟩), if_pos (by simp), if_pos c]
      · rw [if_neg (c := p.1 ≠ 1 ∧ _) (fun h => c h.2), if_neg (by simp), if_neg c]
        rfl
theorem r_encode (p : Int × Int × Int) (s : ByteArray) (w : World) : C47 p s w fun r e w1 => (r.data.toList, e) = encP p s.data.toList ∧ Ext (fun _ => False) w w1 := by
  refine T47 _ _ _ _ ?_
  unfold S47
  obtain ⟨hn, hn1, hn2⟩ := rowN_spec p
  refine (Hx.start w (fun _ => False)).nw' fun w2 H he2 => H.ld 0 rfl rfl (H.ld 0 rfl rfl (H.ld 0 rfl rfl ((r_check p _).mono ?_)))
  rintro r w3 ⟨rfl, he⟩
  have H := H.keep he
  have hsl := size_list s
  by_cases hok : okP p = true
  case neg =>
    have : okP p = false := by simpa using hok
    rw [if_neg hok]
    have h1 : refuseP p (s.data.toList.length : Int) ((rowN p : Nat) : Int) = 1 := by unfold refuseP; rw [if_pos this]
    unfold encP
    rw [h1]
    exact ⟨rfl, H.ext⟩
  rw [if_pos hok, encP_eq hok, hsl]
  have hspec := okP_spec hok
  refine Br.ne (fun h => absurd rfl h) fun _ => Br.dec (fun e => ?_) fun e => H.ld 0 rfl rfl (Br.eq (fun e1 => ?_) fun e1 => H.ld 0 rfl rfl (H.ld 0 rfl rfl (H.ld 0 rfl rfl ((r_row p _).mono ?_))))
  · rw [if_pos (by omega)]
    exact ⟨rfl, H.ext⟩
  · rw [if_neg (by omega), if_pos e1]
    exact ⟨rfl, H.ext⟩
  rintro r w4 ⟨rfl, he⟩
  have H := H.keep he
  rw [if_neg (c := 1048576 < _) (by omega), if_neg e1, row_ok hok]
  refine ⟨by omega, Br.ne (fun e2 => ?_) fun e2 => ?_⟩
  · rw [if_pos e2]
    exact ⟨rfl, H.ext⟩
  rw [if_neg (c := Int.tmod _ _ ≠ 0) (fun h => h e2)]
  have hdiv : Int.tdiv (s.data.toList.length : Int) ((rowN p : Nat) : Int) = ((s.data.toList.length / rowN p : Nat) : Int) := by rw [tdiv_id (by omega)]; rfl
  have hdle : s.data.toList.length / rowN p ≤ s.data.toList.length := Nat.div_le_self _ _
  have hk : s.data.toList.length = s.data.toList.length / rowN p * rowN p := by
    rw [tmod_id (by omega)] at e2
    have h2 : s.data.toList.length % rowN p = 0 := by omega
    exact (Nat.div_mul_cancel (Nat.dvd_of_mod_eq_zero h2)).symm
  generalize hq : s.data.toList.length / rowN p = q at hdiv hdle hk ⊢
  rw [hdiv, i64_id (n := ((q : Nat) : Int)) (by omega), i64_id (by omega)]
  refine ⟨fun _ w5 => w5 = w4 ∧ ¬ (10 ≤ p.1 ∧ 1048576 < s.data.toList.length + q), ?_, ?_⟩
  case refine_2 =>
    refine H.ld 0 rfl rfl (Br.dec (fun e3 => ⟨by omega, Lt.of (Br.dec (fun e4 => ?_) fun e4 => ?_)⟩) fun e3 => ?_)
    · rw [if_pos ⟨by omega, by omega⟩]; exact ⟨rfl, H.ext⟩
    · exact ⟨rfl, by omega⟩
    · exact ⟨rfl, by omega⟩
  rintro _ w5 ⟨rfl, e3⟩
  rw [if_neg e3]
  unfold S47J1
  have hc : ((p.2.1.toNat : Nat) : Int) = p.2.1 := by omega
  have hcb : p.2.1.toNat ≤ 9223372036854775807 := by
    have : p.2.1 * 1 ≤ p.2.1 * p.2.2 := Int.mul_le_mul_of_nonneg_left hspec.2.2.1 (by omega)
    omega
  have hlt0 := (H.get 0 rfl).lt
  refine ⟨fun k st w6 => ∃ (i : Nat) (prev acc : List UInt8), i + k = q ∧ st.2.2 = ((i * rowN p : Nat) : Int) ∧ acc ++ encN p.1 (rowN p) p.2.1.toNat k prev (s.data.toList.drop (i * rowN p)) = encN p.1 (rowN p) p.2.1.toNat q [] s.data.toList ∧
    acc.length ≤ 2 * (i * rowN p) ∧ Hx w (fun _ => False) w6 [(w.heap.size, #[.int .i64 p.1, .int .i64 p.2.1, .int .i64 p.2.2], 50)] ∧ RRow w6 st.1 prev ∧ BRow w6 st.2.1 acc ∧ (∀ j, st.2.1.own j → w.heap.size < j ∧ ¬ st.1.own j),
    q, ⟨0, [], [], by omega, by simp, by simp, by simp, H, RRow.nil _, BRow.nil _, by rintro j ⟨a, ha, _⟩; cases ha⟩, ?_⟩
  rintro k ⟨s1, out, _⟩ w6 ⟨i, prev, acc, hik, rfl, htot, hal, H, hr1, hrow, ho⟩
  unfold S47L1
  dsimp only at hr1 hrow ho ⊢
  rw [hsl]
  have hmul : (i + k) * rowN p = i * rowN p + k * rowN p := Nat.add_mul _ _ _
  rw [hik] at hmul
  refine Br.dec (fun e4 => ?_) fun e4 => ?_
  case refine_2 =>
    have hk0 : k = 0 := by
      rcases Nat.eq_zero_or_pos k with h | h
      · exact h
      · have := Nat.le_mul_of_pos_left (rowN p) h
        omega
    subst hk0
    refine ⟨_, w6, str_row hrow, ?_, H.ext⟩
    rw [← htot]
    simp [encN]
  have hk0 : k ≠ 0 := fun h => by subst h; rw [Nat.zero_mul] at hmul; omega
  obtain ⟨k, rfl⟩ : ∃ k', k = k' + 1 := ⟨k - 1, by omega⟩
  have hmul2 : (k + 1) * rowN p = k * rowN p + rowN p := by rw [Nat.add_mul, Nat.one_mul]
  have hmul3 : (i + 1) * rowN p = i * rowN p + rowN p := by rw [Nat.add_mul, Nat.one_mul]
  have hw : IntKind.i64.wrap (((i * rowN p : Nat) : Int) + ((rowN p : Nat) : Int)) = (((i + 1) * rowN p : Nat) : Int) := by rw [i64_id (by omega), hmul3]; omega
  rw [hw]
  have hex : (s.extract (((i * rowN p : Nat) : Int)).toNat ((((i + 1) * rowN p : Nat) : Int)).toNat).data.toList = (s.data.toList.drop (i * rowN p)).take (rowN p) := by
    rw [extract_list, Int.toNat_natCast, Int.toNat_natCast]
    congr 1
    omega
  have htk : ((s.data.toList.drop (i * rowN p)).take (rowN p)).length = rowN p := by rw [List.length_take, List.length_drop]; omega
  obtain ⟨x, w7, hrun, hx, he7, hnew⟩ := bytes_str w6 (s.extract (((i * rowN p : Nat) : Int)).toNat ((((i + 1) * rowN p : Nat) : Int)).toNat)
  rw [hex] at hx
  refine ⟨by omega, by omega, by omega, by omega, x, w7, hrun, ?_⟩
  have H := H.keep he7
  have hr1 := hr1.keep he7 fun _ _ h => h
  have hox : ∀ j, out.own j → ¬ x.own j := fun j hj h => by have h1 := hrow.own_lt hj; have h2 := hnew j h; omega
  have hrow := hrow.keep he7 fun _ _ h => h
  -- the end of a round
  have fin : ∀ (y : Slc) (w8 : World), BRow w8 y (acc ++ encRow p.1 prev ((s.data.toList.drop (i * rowN p)).take (rowN p)) p.2.1.toNat) → Hx w (fun _ => False) w8 [(w.heap.size, #[.int .i64 p.1, .int .i64 p.2.1, .int .i64 p.2.2], 50)] →
      RRow w8 x ((s.data.toList.drop (i * rowN p)).take (rowN p)) → (∀ j, y.own j → out.own j ∨ w7.heap.size ≤ j) →
      ∃ n', n' < k + 1 ∧ ∃ (i' : Nat) (prev acc : List UInt8), i' + n' = q ∧ (((i + 1) * rowN p : Nat) : Int) = ((i' * rowN p : Nat) : Int) ∧ acc ++ encN p.1 (rowN p) p.2.1.toNat n' prev (s.data.toList.drop (i' * rowN p)) = encN p.1 (rowN p) p.2.1.toNat q [] s.data.toList ∧
        acc.length ≤ 2 * (i' * rowN p) ∧ Hx w (fun _ => False) w8 [(w.heap.size, #[.int .i64 p.1, .int .i64 p.2.1, .int .i64 p.2.2], 50)] ∧ RRow w8 x prev ∧ BRow w8 y acc ∧ (∀ j, y.own j → w.heap.size < j ∧ ¬ x.own j) := fun y w8 hy H8 hr hown => by
    have hlr := encRow_len p.1 prev ((s.data.toList.drop (i * rowN p)).take (rowN p)) p.2.1.toNat
    refine ⟨k, by omega, i + 1, _, _, by omega, rfl, ?_, ?_, H8, hr, hy, fun j hj => ?_⟩
    · rw [← htot, encN, List.append_assoc, List.drop_drop, hmul3]
    · rw [List.length_append]; omega
    · rcases hown j hj with h | h
      · exact ⟨(ho j h).1, hox j h⟩
      · have h1 := (H.get 0 rfl).lt
        exact ⟨by omega, fun h3 => by have := hx.own_lt h3; omega⟩
  have tagged : p.1 ≠ 2 → ∀ (t : Int) (w8 : World), Ext (fun _ => False) w7 w8 → tagE p.1 prev ((s.data.toList.drop (i * rowN p)).take (rowN p)) p.2.1.toNat = t → 0 ≤ t → t ≤ 4 →
      Nw w8 (.cells #[.int .u8 (IntKind.u8.wrap t)] 5) fun vw46 =>
          Rn Try.prog (Builtin.append_ #[97, 97] 97 #[Slc.v out, Slc.v ((⟨some ⟨w8.heap.size, 0, none⟩, 1, 1⟩ : Slc))]) vw46 Slc.v fun (x47 : Slc) vw48 =>
          Ld vw48 ((⟨w.heap.size, 0, none⟩ : Addr).add 1) (Value.int .i64) fun (x49 : Int) =>
          C92 t s1 x x49 vw48 fun r50 vw51 =>
            Rn Try.prog (Builtin.append_ #[97, 97] 97 #[Slc.v x47, Slc.v r50]) vw51 Slc.v fun (y : Slc) w8 =>
            ∃ n', n' < k + 1 ∧ ∃ (i' : Nat) (prev acc : List UInt8), i' + n' = q ∧ (((i + 1) * rowN p : Nat) : Int) = ((i' * rowN p : Nat) : Int) ∧ acc ++ encN p.1 (rowN p) p.2.1.toNat n' prev (s.data.toList.drop (i' * rowN p)) = encN p.1 (rowN p) p.2.1.toNat q [] s.data.toList ∧
        acc.length ≤ 2 * (i' * rowN p) ∧ Hx w (fun _ => False) w8 [(w.heap.size, #[.int .i64 p.1, .int .i64 p.2.1, .int .i64 p.2.2], 50)] ∧ RRow w8 x prev ∧ BRow w8 y acc ∧ (∀ j, y.own j → w.heap.size < j ∧ ¬ x.own j) := by
    intro e5 t w8 he8 ht ht0 ht4
    have H8 := H.keep he8
    have hu : IntKind.u8.wrap t = (((UInt8.ofNat t.toNat).toNat : Nat) : Int) := by rw [u8_id (by omega), UInt8.toNat_ofNat_of_lt' (by show t.toNat < 256; omega)]; omega
    rw [hu]
    refine H8.nw' fun w9 H9 he9 => ?_
    have e79 := he8.tr he9
    have hrow9 := hrow.keep e79 fun _ _ h => h
    obtain ⟨y, w10, hrun, hy, he10, hown⟩ := app_one (ty := 97) hrow9 (H9.get 1 rfl) (by omega)
    have hlt8 : ∀ j, out.own j → j < w8.heap.size := fun j hj => by have := hrow.own_lt hj; have := he8.size; omega
    have H10 := (H9.left (L := [_]) (M := [_])).other he10 (fun j hj hm => by
      have h1 := ho j hj
      simp at hm
      omega) fun j hj => .inr (by have := (ho j hj).1; omega)
    refine ⟨y, w10, hrun, H10.ld 0 rfl rfl ?_⟩
    have hx10 := (hx.keep e79 fun _ _ h => h).keep he10 fun j hj h => hox j h hj
    have hless := r_less ((hr1.keep e79 fun _ _ h => h).keep he10 fun j hj h => (ho j h).2 hj) hx10 t (colors := p.2.1.toNat) (by omega) hcb
    rw [hc] at hless
    refine hless.mono ?_
    rintro r w11 ⟨hr, he11, _⟩
    obtain ⟨z, w12, hrun2, hz, he12, hown2⟩ := app_row (ty := 97) (hy.keep he11 fun _ _ h => h) hr (by rw [less_len, List.length_append, List.length_singleton]; omega)
    have hyo : ∀ j, y.own j → w.heap.size < j ∧ ¬ x.own j := fun j hj => by
      rcases hown j hj with h | h
      · exact ⟨(ho j h).1, hox j h⟩
      · have h1 := (H.get 0 rfl).lt
        have h3 := e79.size
        exact ⟨by omega, fun h5 => by have := hx.own_lt h5; omega⟩
    refine ⟨z, w12, hrun2, fin z w12 ?_ ((H10.keep he11).other he12 (fun j hj hm => ?_) fun j hj => .inr (by have := (hyo j hj).1; omega)) ((hx10.keep he11 fun _ _ h => h).keep he12 fun j hj h => (hyo j h).2 hj) fun j hj => ?_⟩
    · unfold encRow
      rw [if_neg e5, ht]
      rw [List.append_assoc] at hz
      exact hz
    · have := hyo j hj
      simp at hm
      omega
    · have g1 := e79.size
      have g3 := he10.size
      have g4 := he11.size
      rcases hown2 j hj with h | h
      · rcases hown j h with h | h
        · exact .inl h
        · exact .inr (by omega)
      · exact .inr (by omega)
  refine H.ld 0 rfl rfl (Br.dec (fun e5 => H.ld 0 rfl rfl ?_) fun e5 => H.ld 0 rfl rfl ?_)
  · rw [i64_id (n := p.1 - 10) (by omega)]
    refine Br.eq (fun e6 => H.ld 0 rfl rfl ?_) fun e6 => ?_
    · have hbest := r_best hr1 hx (colors := p.2.1.toNat) (by omega) hcb
      rw [hc] at hbest
      refine hbest.mono ?_
      rintro r w8 ⟨rfl, he8⟩
      have ht4 := best_le prev ((s.data.toList.drop (i * rowN p)).take (rowN p)) p.2.1.toNat
      exact tagged (by omega) _ w8 he8 (by unfold tagE; rw [if_pos (by omega)]) (by omega) (by omega)
    · exact tagged (by omega) _ w7 (Ext.refl _ _) (by unfold tagE; rw [if_neg (by omega)]) (by omega) (by omega)
  · have hless := r_less hr1 hx 1 (colors := p.2.1.toNat) (by omega) hcb
    rw [hc] at hless
    refine hless.mono ?_
    rintro r w8 ⟨hr, he8, _⟩
    obtain ⟨z, w9, hrun2, hz, he9, hown2⟩ := app_row (ty := 97) (hrow.keep he8 fun _ _ h => h) hr (by rw [less_len]; omega)
    refine ⟨z, w9, hrun2, fin z w9 ?_ ((H.keep he8).other he9 (fun j hj hm => ?_) fun j hj => .inr (by have := (ho j hj).1; omega)) ((hx.keep he8 fun _ _ h => h).keep he9 fun j hj h => hox j h hj) fun j hj => (hown2 j hj).imp id fun h => Nat.le_trans he8.size h⟩
    · unfold encRow
      rw [if_pos (by omega)]
      exact hz
    · have := ho j hj
      simp at hm
      omega
theorem r_decode (p : Int × Int × Int) (s : ByteArray) (w : World) : C49 p s w fun r e w1 => (r.data.toList, e) = decP p s.data.toList ∧ Ext (fun _ => False) w w1 := by
  refine T49 _ _ _ _ ?_
  unfold S49
  obtain ⟨hn, hn1, hn2⟩ := rowN_spec p
  have hh : headN p = 0 ∨ headN p = 1 := by unfold headN; split <;> simp
  refine (Hx.start w (fun _ => False)).nw' fun w2 H he2 => H.ld 0 rfl rfl (H.ld 0 rfl rfl (H.ld 0 rfl rfl ((r_check p _).mono ?_)))
  rintro r w3 ⟨rfl, he⟩
  have H := H.keep he
  have hsl := size_list s
  by_cases hok : okP p = true
  case neg =>
    have : okP p = false := by simpa using hok
    rw [if_neg hok]
    have h1 : refuseP p (s.data.toList.length : Int) ((rowN p + headN p : Nat) : Int) = 1 := by unfold refuseP; rw [if_pos this]
    unfold decP
    rw [h1]
    exact ⟨rfl, H.ext⟩
  rw [if_pos hok, decP_eq hok, hsl]
  have hspec := okP_spec hok
  refine Br.ne (fun h => absurd rfl h) fun _ => Br.dec (fun e => ?_) fun e => H.ld 0 rfl rfl (Br.eq (fun e1 => ?_) fun e1 => H.ld 0 rfl rfl (H.ld 0 rfl rfl (H.ld 0 rfl rfl ((r_row p _).mono ?_))))
  · rw [if_pos (by omega)]
    exact ⟨rfl, H.ext⟩
  · rw [if_neg (by omega), if_pos e1]
    exact ⟨rfl, H.ext⟩
  rintro r w4 ⟨rfl, he⟩
  have H := H.keep he
  rw [if_neg (c := 1048576 < _) (by omega), if_neg e1, row_ok hok]
  refine ⟨fun h w5 => h = ((headN p : Nat) : Int) ∧ w5 = w4, ?_, H.ld 0 rfl rfl (Br.dec (fun e3 => ⟨?_, rfl⟩) fun e3 => ⟨?_, rfl⟩)⟩
  case refine_2 => unfold headN; rw [if_pos (by omega)]; rfl
  case refine_3 => unfold headN; rw [if_neg (by omega)]; rfl
  rintro _ w5 ⟨rfl, rfl⟩
  unfold S49J2
  have hm : IntKind.i64.wrap (((rowN p : Nat) : Int) + ((headN p : Nat) : Int)) = ((rowN p + headN p : Nat) : Int) := by rw [i64_id (by omega)]; omega
  rw [hm, hsl]
  refine ⟨by omega, Br.ne (fun e2 => ?_) fun e2 => ?_⟩
  · rw [if_pos e2]
    exact ⟨rfl, H.ext⟩
  rw [if_neg (c := Int.tmod _ _ ≠ 0) (fun h => h e2)]
  have hc : ((p.2.1.toNat : Nat) : Int) = p.2.1 := by omega
  have hcb : p.2.1.toNat ≤ 9223372036854775807 := by
    have : p.2.1 * 1 ≤ p.2.1 * p.2.2 := Int.mul_le_mul_of_nonneg_left hspec.2.2.1 (by omega)
    omega
  have hk : s.data.toList.length = s.data.toList.length / (rowN p + headN p) * (rowN p + headN p) := by
    rw [tmod_id (by omega)] at e2
    have h2 : s.data.toList.length % (rowN p + headN p) = 0 := by omega
    exact (Nat.div_mul_cancel (Nat.dvd_of_mod_eq_zero h2)).symm
  generalize hq : s.data.toList.length / (rowN p + headN p) = q at hk ⊢
  have hlt0 := (H.get 0 rfl).lt
  refine ⟨fun k st w6 => ∃ (i : Nat) (prev acc : List UInt8), i + k = q ∧ st.2.2 = ((i * (rowN p + headN p) : Nat) : Int) ∧ (decN (headN p) (rowN p) p.2.1.toNat k prev (s.data.toList.drop (i * (rowN p + headN p)))).map (fun l => acc ++ l) = decN (headN p) (rowN p) p.2.1.toNat q [] s.data.toList ∧
    acc.length ≤ i * (rowN p + headN p) ∧ Hx w (fun _ => False) w6 [(w.heap.size, #[.int .i64 p.1, .int .i64 p.2.1, .int .i64 p.2.2], 50)] ∧ RRow w6 st.1 prev ∧ BRow w6 st.2.1 acc ∧ (∀ j, st.2.1.own j → w.heap.size < j ∧ ¬ st.1.own j),
    q, ⟨0, [], [], by omega, by simp, by simp, by simp, H, RRow.nil _, BRow.nil _, by rintro j ⟨a, ha, _⟩; cases ha⟩, ?_⟩
  rintro k ⟨s1, out, _⟩ w6 ⟨i, prev, acc, hik, rfl, htot, hal, H, hr1, hrow, ho⟩
  unfold S49L2
  dsimp only at hr1 hrow ho ⊢
  rw [hsl]
  have hmul : (i + k) * (rowN p + headN p) = i * (rowN p + headN p) + k * (rowN p + headN p) := Nat.add_mul _ _ _
  rw [hik] at hmul
  refine Br.dec (fun e4 => ?_) fun e4 => ?_
  case refine_2 =>
    have hk0 : k = 0 := by
      rcases Nat.eq_zero_or_pos k with h | h
      · exact h
      · have := Nat.le_mul_of_pos_left (rowN p + headN p) h
        omega
    subst hk0
    refine ⟨_, w6, str_row hrow, ?_, H.ext⟩
    rw [← htot]
    simp [decN]
  have hk0 : k ≠ 0 := fun h => by subst h; rw [Nat.zero_mul] at hmul; omega
  obtain ⟨k, rfl⟩ : ∃ k', k = k' + 1 := ⟨k - 1, by omega⟩
  have hmul2 : (k + 1) * (rowN p + headN p) = k * (rowN p + headN p) + (rowN p + headN p) := by rw [Nat.add_mul, Nat.one_mul]
  have hmul3 : (i + 1) * (rowN p + headN p) = i * (rowN p + headN p) + (rowN p + headN p) := by rw [Nat.add_mul, Nat.one_mul]
  generalize hl : s.data.toList.drop (i * (rowN p + headN p)) = l at htot
  have hll : l.length = s.data.toList.length - i * (rowN p + headN p) := by rw [← hl, List.length_drop]
  have hgl : ∀ j, l.getD j 0 = s.data.toList.getD (i * (rowN p + headN p) + j) 0 := fun j => by rw [← hl, List.getD_eq_getElem?_getD, List.getElem?_drop, List.getD_eq_getElem?_getD]
  refine ⟨fun t w7 => t = ((tagD (headN p) l : Nat) : Int) ∧ w7 = w6, ?_, ?_⟩
  case refine_2 =>
    refine Br.eq (fun e5 => ⟨by omega, by omega, ?_, rfl⟩) fun e5 => ⟨?_, rfl⟩
    · unfold tagD
      rw [if_pos (by omega), hgl, bAt_list]
      have := (s.data.toList.getD (i * (rowN p + headN p)) 0).toNat_lt
      rw [i64_id (by omega), Nat.add_zero]
    · unfold tagD
      rw [if_neg (by omega)]
      rfl
  rintro _ wA ⟨rfl, rfl⟩
  unfold S49J1
  dsimp only
  simp only [decN] at htot
  refine Br.dec (fun e5 => ?_) fun e5 => ?_
  · rw [if_pos (by omega)] at htot
    rw [← htot]
    exact ⟨rfl, H.ext⟩
  rw [if_neg (by omega)] at htot
  generalize htag : tagD (headN p) l = tag at htot e5 ⊢
  have hraw : ((l.drop (headN p)).take (rowN p)).length = rowN p := by rw [List.length_take, List.length_drop]; omega
  have hgr : ∀ j, j < rowN p → ((l.drop (headN p)).take (rowN p)).getD j 0 = s.data.toList.getD (i * (rowN p + headN p) + headN p + j) 0 := fun j hj => by
    rw [List.getD_eq_getElem?_getD, List.getElem?_take, if_pos hj, List.getElem?_drop, ← List.getD_eq_getElem?_getD, hgl, Nat.add_assoc]
  generalize hr : (l.drop (headN p)).take (rowN p) = raw at htot hraw hgr
  have hw1 : IntKind.i64.wrap (((i * (rowN p + headN p) : Nat) : Int) + ((headN p : Nat) : Int)) = ((i * (rowN p + headN p) + headN p : Nat) : Int) := by rw [i64_id (by omega)]; omega
  have hlt6 := (H.get 0 rfl).lt
  refine ⟨fun n st w7 => ∃ j : Nat, st.2 = (j : Int) ∧ j ≤ rowN p ∧ n = rowN p - j ∧ Hx w (fun _ => False) w7 [(w.heap.size, #[.int .i64 p.1, .int .i64 p.2.1, .int .i64 p.2.2], 50)] ∧ RRow w7 s1 prev ∧ BRow w7 out acc ∧ BRow w7 st.1 (dec ((tag : Nat) : Int) prev raw p.2.1.toNat j) ∧ (∀ b, st.1.own b → w.heap.size < b ∧ ¬ out.own b ∧ ¬ s1.own b) ∧ wA.heap.size ≤ w7.heap.size,
    rowN p, ⟨0, rfl, by omega, rfl, H, hr1, hrow, BRow.nil _, (by rintro j ⟨a, ha, _⟩; cases ha), Nat.le_refl _⟩, ?_⟩
  rintro n ⟨x, _⟩ w7 ⟨j, rfl, hj, rfl, H7, hr7, hrow7, hx, hxo, hsz7⟩
  unfold S49L1
  dsimp only at hx hxo ⊢
  rw [hw1]
  have hdl := dec_len ((tag : Nat) : Int) prev raw p.2.1.toNat j
  refine Br.dec (fun e6 => ?_) fun e6 => ?_
  · have hw2 : IntKind.i64.wrap (((i * (rowN p + headN p) + headN p : Nat) : Int) + (j : Int)) = ((i * (rowN p + headN p) + headN p + j : Nat) : Int) := by rw [i64_id (by omega)]; omega
    rw [hw2]
    have HD := H7.drew
    have hS : ∀ w3, w3 = w7.drew → Blk w3 w.heap.size #[.int .i64 p.1, .int .i64 p.2.1, .int .i64 p.2.2] 50 := fun w3 e => e ▸ HD.get 0 rfl
    refine ⟨fun w3 => w3 = w7.drew, rfl, by omega, by omega, LdS.of hS rfl ?_⟩
    have hoff := r_off (hr7.keep (Ext.refl (fun _ => False) w7).drew fun _ _ h => h) (hx.toR.keep (Ext.refl (fun _ => False) w7).drew fun _ _ h => h) ((tag : Nat) : Int) (i := j) (colors := p.2.1.toNat) (by omega) hcb
    rw [hc] at hoff
    refine hoff.mono ?_
    rintro _ w8 ⟨rfl, rfl⟩
    rw [bAt_list, add_u8 _ (off_lt _ _ _ _ _), ← hgr j (by omega)]
    refine HD.nw' fun w8 H8 he8 => ?_
    have hx8 := (hx.keep (Ext.refl (fun _ => False) w7).drew fun _ _ h => h).keep he8 fun _ _ h => h
    obtain ⟨y, w9, hrun, hy, he9, hown⟩ := app_one (ty := 97) hx8 (H8.get 1 rfl) (by omega)
    have hxlt : ∀ b, x.own b → b < w7.heap.size := fun b hb => hx.own_lt hb
    have hs8 := he8.size
    simp at hs8
    refine ⟨y, w9, hrun, rowN p - (j + 1), by omega, j + 1, by rw [i64_id (by omega)]; rfl, by omega, rfl, (H8.left (L := [_]) (M := [_])).other he9 (fun b hb hm => ?_) fun b hb => .inr (by have := (hxo b hb).1; omega), ?_, ?_, hy, fun b hb => ?_, ?_⟩
    · have := hxo b hb
      simp at hm
      omega
    · exact ((hr7.keep (Ext.refl (fun _ => False) w7).drew fun _ _ h => h).keep he8 fun _ _ h => h).keep he9 fun b hb h => (hxo b h).2.2 hb
    · exact ((hrow7.keep (Ext.refl (fun _ => False) w7).drew fun _ _ h => h).keep he8 fun _ _ h => h).keep he9 fun b hb h => (hxo b h).2.1 hb
    · rcases hown b hb with h | h
      · exact hxo b h
      · have h7 := (H7.get 0 rfl).lt
        exact ⟨by omega, fun h2 => by have := hrow7.own_lt h2; omega, fun h2 => by have := hr7.own_lt h2; omega⟩
    · have := he9.size
      omega
  · have : j = rowN p := by omega
    subst this
    obtain ⟨y, w8, hrun, hy, he8, hown⟩ := app_row (ty := 97) hrow7 hx (by omega)
    have hw3 : IntKind.i64.wrap (((i * (rowN p + headN p) : Nat) : Int) + ((rowN p + headN p : Nat) : Int)) = (((i + 1) * (rowN p + headN p) : Nat) : Int) := by rw [i64_id (by omega), hmul3]; omega
    rw [hm, hw3]
    refine ⟨y, w8, hrun, k, by omega, i + 1, dec ((tag : Nat) : Int) prev raw p.2.1.toNat (rowN p), _, by omega, rfl, ?_, ?_, H7.other he8 (fun b hb hm => ?_) fun b hb => .inr (by have := (ho b hb).1; omega), hx.toR.keep he8 fun b hb h => (hxo b hb).2.1 h, hy, fun b hb => ?_⟩
    · rw [← htot, Option.map_map, ← hl, List.drop_drop, hmul3]
      refine congrArg (fun f => Option.map f _) (funext fun l => ?_)
      exact List.append_assoc _ _ _
    · rw [List.length_append]
      omega
    · have := ho b hb
      simp at hm
      omega
    · rcases hown b hb with h | h
      · exact ⟨(ho b h).1, fun h2 => (hxo b h2).2.1 h⟩
      · have h7 := (H7.get 0 rfl).lt
        exact ⟨by omega, fun h2 => by have := hx.own_lt h2; omega⟩
end Pre
end Go.Proofs.Ytahdpfjikmechaa
