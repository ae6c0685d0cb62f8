/- The fixed checks of the laws on package predict; PredictTells, PredictBest, PredictBack. Conditions: none but that numbers fit their kinds. -/
import Derived.Test.YtahdpfjikmechaaPreF
import Derived.Test.YtahdpfjikmechaaFnPreL
namespace Go.Proofs.Ytahdpfjikmechaa
namespace Pre
open Sh
set_option linter.unusedVariables false
set_option linter.unusedSimpArgs false

theorem res_lit {r : ByteArray} {e n : Int} {l : List UInt8} {x : List UInt8 × Int} (h : (r.data.toList, e) = x) (hv : x = (l, n)) : r = ⟨l.toArray⟩ ∧ e = n := by
  rw [hv] at h
  cases h
  exact ⟨ba_ext (by simp), rfl⟩
theorem res_eq {r r' : ByteArray} {e e' : Int} {x : List UInt8 × Int} (h : (r.data.toList, e) = x) (h' : (r'.data.toList, e') = x) : r = r' ∧ e = e' := by
  have h2 := Prod.mk.inj (h.trans h'.symm)
  exact ⟨ba_ext h2.1, h2.2⟩
theorem lives (w : World) : C45 w fun r w1 => r = true ∧ Ext (fun _ => False) w w1 := by
  refine T45 _ _ ?_
  unfold S45
  refine (Hx.start w (fun _ => False)).nw fun w2 H => ?_
  have hs := H.size
  refine H.nw fun w3 H => H.st 0 rfl (by simp) (.inr (Nat.le_refl _)) fun _ H => H.st 0 rfl (by simp) (.inr (Nat.le_refl _)) fun _ H => H.st 0 rfl (by simp) (.inr (Nat.le_refl _)) fun _ H =>
    H.st 1 rfl (by simp) (.inr hs) fun _ H => H.st 1 rfl (by simp) (.inr hs) fun _ H => H.st 1 rfl (by simp) (.inr hs) fun _ H => ?_
  refine H.ld 0 rfl rfl (H.ld 0 rfl rfl (H.ld 0 rfl rfl ((c_encode (2, 1, 3) _ _).mono ?_)))
  rintro r e w4 ⟨h, he⟩
  obtain ⟨rfl, rfl⟩ := res_lit h (show encP (2, 1, 3) [5, 7, 4] = ([5, 2, 253], 0) by decide +kernel)
  have H := H.keep he
  refine H.ld 1 rfl rfl (H.ld 1 rfl rfl (H.ld 1 rfl rfl ((c_encode (12, 1, 2) _ _).mono ?_)))
  rintro r e w5 ⟨h, he⟩
  obtain ⟨rfl, rfl⟩ := res_lit h (show encP (12, 1, 2) [1, 2, 3, 5] = ([2, 1, 2, 2, 2, 3], 0) by decide +kernel)
  have H := H.keep he
  refine H.ld 0 rfl rfl (H.ld 0 rfl rfl (H.ld 0 rfl rfl ((c_decode (2, 1, 3) _ _).mono ?_)))
  rintro r e w6 ⟨h, he⟩
  obtain ⟨rfl, rfl⟩ := res_lit h (show decP (2, 1, 3) [5, 2, 253] = ([5, 7, 4], 0) by decide +kernel)
  have H := H.keep he
  refine H.ld 1 rfl rfl (H.ld 1 rfl rfl (H.ld 1 rfl rfl ((c_decode (12, 1, 2) _ _).mono ?_)))
  rintro r e w7 ⟨h, he⟩
  obtain ⟨rfl, rfl⟩ := res_lit h (show decP (12, 1, 2) [5, 0, 0] = ([], 3) by decide +kernel)
  have H := H.keep he
  refine H.ld 1 rfl rfl (H.ld 1 rfl rfl (H.ld 1 rfl rfl ((c_encode (12, 1, 2) _ _).mono ?_)))
  rintro r e w8 ⟨h, he⟩
  obtain ⟨rfl, rfl⟩ := res_lit h (show encP (12, 1, 2) [97] = ([], 16) by decide +kernel)
  have H := H.keep he
  refine Br.eq (fun _ => Br.eq (fun _ => Br.eq (fun _ => Br.eq (fun _ => Br.eq (fun _ => Br.eq (fun _ => Br.eq (fun _ => Br.eq (fun _ => ?_) fun h => absurd rfl h) fun h => absurd rfl h) fun h => absurd rfl h) fun h => absurd rfl h) fun h => absurd rfl h) fun h => absurd rfl h) fun h => absurd rfl h) fun h => absurd rfl h
  refine (c_paeth (a := 10) (b := 20) (c := 15) (by omega) (by omega) (by omega) w8).mono ?_
  rintro r _ ⟨rfl, rfl⟩
  refine Br.eq (fun _ => ?_) fun h => absurd (by decide) h
  refine (c_paeth (a := 10) (b := 10) (c := 0) (by omega) (by omega) (by omega) _).mono ?_
  rintro r w9 ⟨rfl, rfl⟩
  refine Br.eq (fun _ => ?_) fun h => absurd (by decide) h
  refine (c_Best _ _ (by omega) (by decide) _).mono ?_
  rintro r w10 ⟨rfl, he⟩
  have H := H.keep he
  refine Br.eq (fun _ => ?_) fun h => absurd (by decide +kernel) h
  refine H.ld 0 rfl rfl (H.ld 0 rfl rfl (H.ld 0 rfl rfl ((c_row (2, 1, 3) _).mono ?_)))
  rintro r w11 ⟨rfl, he⟩
  have H := H.keep he
  refine Br.eq (fun _ => ?_) fun h => absurd (by decide) h
  refine (c_check (0, 0, 0) _).mono ?_
  rintro r w12 ⟨rfl, he⟩
  exact ⟨by decide, (H.keep he).ext⟩
/-- **PredictTells**. -/
theorem tells (w : World) (p : Int × Int × Int) (s : ByteArray) : C8 p s w fun r w1 => r = true ∧ Ext (fun _ => False) w w1 := by
  refine T8 _ _ _ _ ?_
  unfold S8
  refine (Hx.start w (fun _ => False)).nw fun w2 H => ?_
  have liv : ∀ {u : World}, Ext (fun _ => False) w u → C45 u fun r w1 => r = true ∧ Ext (fun _ => False) w w1 := fun he => (lives _).mono fun r w3 ⟨h1, h2⟩ => ⟨h1, he.tr h2⟩
  refine Br.dec (fun _ => liv H.ext) fun _ => H.ld 0 rfl rfl (H.ld 0 rfl rfl (H.ld 0 rfl rfl ((c_encode p _ _).mono ?_)))
  rintro r1 e1 w3 ⟨h1, he⟩
  have H := H.keep he
  refine H.ld 0 rfl rfl (H.ld 0 rfl rfl (H.ld 0 rfl rfl ((r_encode p _ _).mono ?_)))
  rintro r2 e2 w4 ⟨h2, he⟩
  have H := H.keep he
  obtain ⟨rfl, rfl⟩ := res_eq h1 h2
  refine H.ld 0 rfl rfl (H.ld 0 rfl rfl (H.ld 0 rfl rfl ((c_decode p _ _).mono ?_)))
  rintro r3 e3 w5 ⟨h3, he⟩
  have H := H.keep he
  refine H.ld 0 rfl rfl (H.ld 0 rfl rfl (H.ld 0 rfl rfl ((r_decode p _ _).mono ?_)))
  rintro r4 e4 w6 ⟨h4, he⟩
  have H := (H.keep he).drew
  obtain ⟨rfl, rfl⟩ := res_eq h3 h4
  have hS : ∀ w7 w8, Ext (fun _ => False) w7 w8 → Blk w7 w.heap.size #[.int .i64 p.1, .int .i64 p.2.1, .int .i64 p.2.2] 50 → Blk w8 w.heap.size #[.int .i64 p.1, .int .i64 p.2.1, .int .i64 p.2.2] 50 := fun _ _ he hb => he.blk hb id
  have hB := H.get 0 rfl
  refine ⟨fun w7 => Ext (fun _ => False) w6.drew w7, Ext.refl _ _, Br.eq (fun _ => Br.eq (fun _ => Br.eq (fun _ => Br.eq (fun _ => ?_) fun h => absurd rfl h) fun h => absurd rfl h) fun h => absurd rfl h) fun h => absurd rfl h⟩
  have hS1 := fun w7 (he : Ext (fun _ => False) w6.drew w7) => hS _ _ he hB
  refine LdS.of hS1 rfl (LdS.of hS1 rfl (LdS.of hS1 rfl (LdS.of hS1 rfl (LdS.of hS1 rfl (LdS.of hS1 rfl ((c_check p _).mono ?_))))))
  rintro r w7 ⟨rfl, he7⟩
  refine ⟨he7, (r_check p _).mono ?_⟩
  rintro r w8 ⟨rfl, he8⟩
  have H := (H.keep he7).keep he8
  have hB := H.get 0 rfl
  have hS2 := fun w9 (he : Ext (fun _ => False) w8 w9) => hS _ _ he hB
  refine ⟨fun w9 => Ext (fun _ => False) w8 w9, Ext.refl _ _, Br.eq (fun _ => ?_) fun h => absurd rfl h⟩
  refine LdS.of hS2 rfl (LdS.of hS2 rfl (LdS.of hS2 rfl (LdS.of hS2 rfl (LdS.of hS2 rfl (LdS.of hS2 rfl ((c_row p _).mono ?_))))))
  rintro r w9 ⟨rfl, he9⟩
  refine ⟨he9, (r_row p _).mono ?_⟩
  rintro r w10 ⟨rfl, he10⟩
  exact Br.eq (fun _ => liv ((H.keep he9).keep he10).ext) fun h => absurd rfl h
/-- **PredictBest**. -/
theorem bestLaw (w : World) (prev row : ByteArray) {colors : Int} (hc : colors ≤ 9223372036854775807) (l : Int × Int × Int) (h1 : 0 ≤ l.1 ∧ l.1 ≤ 255) (h2 : 0 ≤ l.2.1 ∧ l.2.1 ≤ 255) (h3 : 0 ≤ l.2.2 ∧ l.2.2 ≤ 255) :
    C9 prev row colors l w fun r w1 => r = true ∧ Ext (fun _ => False) w w1 := by
  refine T9 _ _ _ _ _ _ ?_
  unfold S9
  refine (Hx.start w (fun _ => False)).nw fun w2 H => ?_
  have liv : ∀ {u : World}, Ext (fun _ => False) w u → C45 u fun r w1 => r = true ∧ Ext (fun _ => False) w w1 := fun he => (lives _).mono fun r w3 ⟨h1, h2⟩ => ⟨h1, he.tr h2⟩
  refine Br.dec (fun _ => liv H.ext) fun _ => Br.dec (fun _ => liv H.ext) fun hr => (c_Best _ _ hc (by omega) _).mono ?_
  rintro r w3 ⟨rfl, he⟩
  have H := H.drew.keep he
  refine (r_Best _ _ hc (by omega) _).mono ?_
  rintro r w4 ⟨rfl, he⟩
  have H := H.keep he
  obtain ⟨a, b, c⟩ := l
  dsimp only at h1 h2 h3 H
  obtain ⟨a, rfl⟩ := Int.eq_ofNat_of_zero_le h1.1
  obtain ⟨b, rfl⟩ := Int.eq_ofNat_of_zero_le h2.1
  obtain ⟨c, rfl⟩ := Int.eq_ofNat_of_zero_le h3.1
  have hB := H.get 0 rfl
  refine ⟨fun w5 => w5 = w4, rfl, Br.eq (fun _ => ?_) fun h => absurd rfl h⟩
  have hS : ∀ w5, w5 = w4 → Blk w5 w.heap.size #[.int .u8 (a : Int), .int .u8 (b : Int), .int .u8 (c : Int)] 55 := fun _ e => e ▸ hB
  refine LdS.of hS rfl (LdS.of hS rfl (LdS.of hS rfl (LdS.of hS rfl (LdS.of hS rfl (LdS.of hS rfl ((c_paeth (by omega) (by omega) (by omega) _).mono ?_))))))
  rintro r _ ⟨rfl, rfl⟩
  refine ⟨rfl, (r_paeth (by omega) (by omega) (by omega) _).mono ?_⟩
  rintro r _ ⟨rfl, rfl⟩
  exact Br.eq (fun _ => liv H.ext) fun h => absurd rfl h
theorem encRow_len' {pred : Int} {prev row : List UInt8} {colors h : Nat} (hp : pred = 2 ∧ h = 0 ∨ 10 ≤ pred ∧ h = 1) : (encRow pred prev row colors).length = row.length + h := by
  unfold encRow
  rcases hp with ⟨h1, h2⟩ | ⟨h1, h2⟩
  · rw [if_pos h1, less_len]; omega
  · rw [if_neg (by omega), List.length_cons, less_len]; omega
theorem encN_len {pred : Int} {n colors h : Nat} (hp : pred = 2 ∧ h = 0 ∨ 10 ≤ pred ∧ h = 1) : ∀ (k : Nat) (prev s : List UInt8), s.length = k * n → (encN pred n colors k prev s).length = k * (n + h)
  | 0, _, _, _ => by simp [encN]
  | k + 1, prev, s, hs => by
    have h1 : (k + 1) * n = k * n + n := by rw [Nat.add_mul, Nat.one_mul]
    rw [encN, List.length_append, encRow_len' hp, encN_len hp k _ _ (by rw [List.length_drop]; omega), List.length_take, Nat.min_eq_left (by omega), Nat.add_mul k 1, Nat.one_mul]
    omega
theorem tagE_bd {pred : Int} {prev row : List UInt8} {colors : Nat} (h1 : 10 ≤ pred) (h2 : pred ≤ 15) : 0 ≤ tagE pred prev row colors ∧ tagE pred prev row colors ≤ 4 := by
  unfold tagE
  split
  · have := best_le prev row colors; omega
  · omega
theorem decN_encN {pred : Int} {n colors h : Nat} (hc : 1 ≤ colors) (hp : pred = 2 ∧ h = 0 ∨ 10 ≤ pred ∧ h = 1) (h15 : pred ≤ 15) : ∀ (k : Nat) (prev s : List UInt8), s.length = k * n → decN h n colors k prev (encN pred n colors k prev s) = some s
  | 0, prev, s, hs => by
    have : s = [] := List.eq_nil_of_length_eq_zero (by omega)
    rw [this]; rfl
  | k + 1, prev, s, hs => by
    have h1 : (k + 1) * n = k * n + n := by rw [Nat.add_mul, Nat.one_mul]
    have hl : (s.take n).length = n := by rw [List.length_take]; omega
    have ih := decN_encN (n := n) hc hp h15 k (s.take n) (s.drop n) (by rw [List.length_drop]; omega)
    have key : ∃ t : Nat, t ≤ 4 ∧ tagD h (encN pred n colors (k + 1) prev s) = t ∧ ((encN pred n colors (k + 1) prev s).drop h).take n = less (t : Int) prev (s.take n) colors ∧ (encN pred n colors (k + 1) prev s).drop (n + h) = encN pred n colors k (s.take n) (s.drop n) := by
      rw [encN]
      rcases hp with ⟨h1, rfl⟩ | ⟨h1, rfl⟩
      · refine ⟨1, by omega, rfl, ?_, ?_⟩
        · unfold encRow
          rw [if_pos h1, List.drop_zero, List.take_left' (by rw [less_len]; exact hl)]
          rfl
        · unfold encRow
          rw [if_pos h1, Nat.add_zero, List.drop_left' (by rw [less_len]; exact hl)]
      · obtain ⟨b1, b2⟩ := tagE_bd (prev := prev) (row := s.take n) (colors := colors) h1 h15
        refine ⟨(tagE pred prev (s.take n) colors).toNat, by omega, ?_, ?_, ?_⟩
        · unfold encRow
          rw [if_neg (show ¬ pred = 2 by omega)]
          unfold tagD
          rw [if_pos rfl]
          simp only [List.cons_append, List.getD_cons_zero]
          exact UInt8.toNat_ofNat_of_lt' (by show _ < 256; omega)
        · unfold encRow
          rw [if_neg (by omega), List.cons_append, List.drop_succ_cons, List.drop_zero, List.take_left' (by rw [less_len]; exact hl), Int.toNat_of_nonneg b1]
        · unfold encRow
          rw [if_neg (by omega), List.cons_append, List.drop_succ_cons, List.drop_left' (by rw [less_len]; exact hl)]
    obtain ⟨t, ht, e1, e2, e3⟩ := key
    rw [decN, e1, e2, e3, if_neg (by omega)]
    have hd := dec_less (tag := (t : Int)) (prev := prev) (row := s.take n) hc n (by omega)
    rw [hd, List.take_of_length_le (by omega), ih]
    simp
/-- Decode undoes Encode. -/
theorem back_plain {p : Int × Int × Int} (hok : okP p = true) {s : List UInt8} (hl : s.length ≤ 1000) (hm : s.length % rowN p = 0) : ∃ x, encP p s = (x, 0) ∧ decP p x = (s, 0) := by
  obtain ⟨_, hn1, hn2⟩ := rowN_spec p
  have hspec := okP_spec hok
  rw [encP_eq hok, if_neg (by omega)]
  by_cases h1 : p.1 = 1
  · refine ⟨s, by rw [if_pos h1], ?_⟩
    rw [decP_eq hok, if_neg (by omega), if_pos h1]
  · have hdle : s.length / rowN p ≤ s.length := Nat.div_le_self _ _
    have hk : s.length = s.length / rowN p * rowN p := (Nat.div_mul_cancel (Nat.dvd_of_mod_eq_zero hm)).symm
    rw [if_neg h1, if_neg (by rw [tmod_id (by omega)]; omega), if_neg (by omega)]
    refine ⟨_, rfl, ?_⟩
    generalize s.length / rowN p = k at hk hdle ⊢
    have hp : p.1 = 2 ∧ headN p = 0 ∨ 10 ≤ p.1 ∧ headN p = 1 := by
      unfold headN
      split <;> omega
    have hlen := encN_len (colors := p.2.1.toNat) hp k [] s hk
    have hmul : k * (rowN p + headN p) = k * rowN p + k * headN p := Nat.mul_add _ _ _
    have hkh : k * headN p ≤ k := by
      rcases hp with ⟨_, h⟩ | ⟨_, h⟩ <;> rw [h] <;> omega
    rw [decP_eq hok, if_neg (by omega), if_neg h1, hlen, if_neg, Nat.mul_div_cancel _ (by omega), decN_encN (by omega) hp (by omega) k [] s hk]
    rw [tmod_id (by omega)]
    have : k * (rowN p + headN p) % (rowN p + headN p) = 0 := Nat.mul_mod_left _ _
    omega
/-- **PredictBack**. -/
theorem back (w : World) (p : Int × Int × Int) (s : ByteArray) : C10 p s w fun r w1 => r = true ∧ Ext (fun _ => False) w w1 := by
  refine T10 _ _ _ _ ?_
  unfold S10
  have liv : ∀ {u : World}, Ext (fun _ => False) w u → C45 u fun r w1 => r = true ∧ Ext (fun _ => False) w w1 := fun he => (lives _).mono fun r w3 ⟨h1, h2⟩ => ⟨h1, he.tr h2⟩
  refine (Hx.start w (fun _ => False)).nw fun w2 H => H.ld 0 rfl rfl (H.ld 0 rfl rfl (H.ld 0 rfl rfl ((c_row p _).mono ?_)))
  rintro r w3 ⟨rfl, he⟩
  have H := H.keep he
  have hno : okP p = false → rowP p = 0 := fun h => by unfold rowP; rw [h]; rfl
  refine Br.dec (fun _ => ?_) fun hs => ?_
  · refine H.ld 0 rfl rfl (H.ld 0 rfl rfl (H.ld 0 rfl rfl ((r_check p _).mono ?_)))
    rintro r w4 ⟨rfl, he⟩
    have H := H.keep he
    refine Br.eq (fun _ => liv H.ext) fun h => Br.eq (fun _ => liv H.ext) fun h2 => ?_
    exact absurd (hno (by cases hh : okP p with
      | true => rw [hh] at h; exact absurd rfl h
      | false => rfl)) h2
  · refine H.ld 0 rfl rfl (H.ld 0 rfl rfl (H.ld 0 rfl rfl ((r_check p _).mono ?_)))
    rintro r w4 ⟨rfl, he⟩
    have H := H.keep he
    refine Br.ne (fun h => ?_) fun hok => ?_
    · have hok : okP p = false := by
        cases hh : okP p with
        | true => rw [hh] at h; exact absurd rfl h
        | false => rfl
      refine H.ld 0 rfl rfl (H.ld 0 rfl rfl (H.ld 0 rfl rfl ((r_check p _).mono ?_)))
      rintro r w5 ⟨rfl, he⟩
      have H := H.keep he
      exact Br.eq (fun _ => liv H.ext) fun h => Br.eq (fun _ => liv H.ext) fun h2 => absurd (hno hok) h2
    · have hok : okP p = true := by
        cases hh : okP p with
        | true => rfl
        | false => rw [hh] at hok; cases hok
      obtain ⟨_, hn1, hn2⟩ := rowN_spec p
      rw [row_ok hok]
      refine Br.dec (fun h => by omega) fun _ => ⟨by omega, ?_⟩
      have hsl := size_list s
      have hmod := Nat.mod_le s.data.toList.length (rowN p)
      have ht : Int.tmod (s.size : Int) ((rowN p : Nat) : Int) = ((s.data.toList.length % rowN p : Nat) : Int) := by rw [tmod_id (by omega), hsl]; rfl
      have hi : IntKind.i64.wrap ((s.size : Int) - ((s.data.toList.length % rowN p : Nat) : Int)) = ((s.data.toList.length - s.data.toList.length % rowN p : Nat) : Int) := by rw [i64_id (by omega)]; omega
      rw [ht, hi]
      refine ⟨by omega, by omega, Lt.of ?_⟩
      have hex : (s.extract 0 (((s.data.toList.length - s.data.toList.length % rowN p : Nat) : Int)).toNat).data.toList = s.data.toList.take (s.data.toList.length - s.data.toList.length % rowN p) := by
        rw [extract_list, Int.toNat_natCast, List.drop_zero, Nat.sub_zero]
      generalize s.extract 0 (((s.data.toList.length - s.data.toList.length % rowN p : Nat) : Int)).toNat = t at hex ⊢
      have htl : t.data.toList.length = s.data.toList.length - s.data.toList.length % rowN p := by rw [hex, List.length_take]; omega
      obtain ⟨x, hx1, hx2⟩ := back_plain hok (s := t.data.toList) (by omega) (by rw [htl]; exact Nat.sub_mod_eq_zero_of_mod_eq (by rw [Nat.mod_mod]))
      refine H.ld 0 rfl rfl (H.ld 0 rfl rfl (H.ld 0 rfl rfl ((c_encode p _ _).mono ?_)))
      rintro r e w5 ⟨h, he⟩
      obtain ⟨rfl, rfl⟩ := res_lit h hx1
      have H := H.keep he
      refine H.ld 0 rfl rfl (H.ld 0 rfl rfl (H.ld 0 rfl rfl ((c_decode p _ _).mono ?_)))
      rintro r e w6 ⟨h, he⟩
      obtain ⟨rfl, rfl⟩ := res_lit h (by simpa using hx2)
      have H := H.keep he
      refine Br.eq (fun _ => Br.eq (fun _ => Br.eq (fun _ => liv H.ext) fun h => absurd ?_ h) fun h => absurd rfl h) fun h => absurd rfl h
      simp
end Pre
end Go.Proofs.Ytahdpfjikmechaa
