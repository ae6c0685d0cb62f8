/- Inflate: the program's table writes; the law's sized and backed. Conditions: sizes. -/
import Derived.Test.YtapgacggllbhiaaDoorInX
import Derived.Test.YtapgacggllbhiaaDoorBitW
import Derived.Test.YtapgacggllbhiaaDoorInP
import Derived.Test.YtapgacggllbhiaaDoorFnLawC
namespace Go.Proofs.YtapgacggllbhiaaDoor
namespace Inf
open Sh Bit
set_option linter.unusedVariables false
set_option linter.unusedSimpArgs false
set_option maxRecDepth 4000
set_option maxHeartbeats 2000000
theorem put_bit {way : Int} {st : WS} (h : way = 0 ∨ way = 1) {b : Nat} (hb : b ≤ 1) : putR way st (b : Int) 1 1 = (0, oneS 1 st b, 1) := by
  rw [putR_ok (by
    have : (2 : Int) ^ (1 : Int).toNat = 2 := by decide
    rw [this]
    omega)]
  rw [if_pos (by decide)]
  show (0, oneS 1 st (vbit 1 (b : Int).toNat 1 0), 1) = _
  have : vbit 1 (b : Int).toNat 1 0 = b := by
    unfold vbit
    rw [if_pos rfl, Int.toNat_natCast, Nat.pow_zero, Nat.div_one]
    omega
  rw [this]
theorem put_low {way : Int} {st : WS} (h : way = 0 ∨ way = 1) {v n : Nat} (hv : v < 2 ^ n) (hn : n ≤ 24) : putR way st (v : Int) (n : Int) 1 = (0, lw st v n, if 0 < (n : Int) then 1 else way) := by
  have e : ((2 ^ n : Nat) : Int) = 2 ^ n := by simp
  rw [putR_ok (by rw [Int.toNat_natCast]; omega), Int.toNat_natCast, Int.toNat_natCast]
  rfl
theorem codes_get {lens : List Int} {g : Nat} (h : g < lens.length) : (codes lens).getD g 0 = codeL lens g := by
  unfold codes
  rw [List.getD_eq_getElem?_getD, List.getElem?_map, List.getElem?_range h]
  rfl
theorem Wn.of {w w1 : World} {b : Nat} {s : Slc} (h : Ext (fun _ => False) w w1) : Wn w w1 b s s := ⟨h.mono fun _ _ e => e.elim, fun _ h => .inl h⟩
attribute [local irreducible] Ld St Nw Nn Lt LdS
section
variable {w : World} {lo hi tb wb : Nat} {way : Int} {ws : Slc} {st : WS} {lens : List Int}
theorem c_write (ht : TB w lo hi tb lens) (hc : chk lens = 0) (hw : WrB w wb ws way st) (hin : WInv way st) (hway : way = 0 ∨ way = 1) (hsz : st.1.length ≤ 200000000000) (hsep : ∀ j, fp wb ws j → j < lo ∨ hi ≤ j)
    {g n : Nat} (hg : g < lens.length) (hn : lens.getD g 0 = (n : Int)) (h0 : 0 < n) :
    C21 (some (⟨tb, 0, none⟩ : Addr)) (at1 wb) (g : Int) w fun e w1 => e = 0 ∧ ∃ ws', WrB w1 wb ws' 1 (cw lens st g) ∧ Wn w w1 wb ws ws' := by
  refine T21 _ _ _ _ _ ?_
  unfold S21
  obtain ⟨s1, s2, s3, h1, h2, h3, h4, h5, h6, h7, h8, h9⟩ := ht
  obtain ⟨n1, n15, _, c, hcc, hci, _, hlt⟩ := code_of hc hg hn h0
  have hlen := (chk_lok hc).len
  have hok : WOK 1 st := hin.to (by omega)
  refine Br.f rfl (Br.f rfl (Br.f (by simp) (Nn.of (Ld.of h1 (o := 0) (x := s1) rfl ?_))))
  rw [h2.1]
  refine Br.f (by simp; omega) (Nn.of (Ld.of h1 (o := 0) (x := s1) rfl ⟨by omega, by rw [h2.1]; omega, ?_⟩))
  obtain ⟨a, ha, hcell⟩ := h2.get hg
  rw [ha, Int.toNat_natCast]
  refine Nn.of (Ld.mk hcell ?_)
  rw [hn]
  refine Br.f (by simp; omega) ?_
  rw [i64_id (by omega)]
  have e : cw lens st g = Inf.hw st c n n := by unfold cw; rw [hcc, hn, Int.toNat_natCast]
  rw [e]
  refine ⟨fun k s12 w3 => ∃ i : Nat, i ≤ n ∧ k = n - i ∧ s12 = (n : Int) - 1 - (i : Int) ∧ ∃ ws', WrB w3 wb ws' (if i = 0 then way else 1) (Inf.hw st c n i) ∧ Wn w w3 wb ws ws', n, ⟨0, by omega, by omega, by omega, ws, hw, Wn.refl _ _ _⟩, ?_⟩
  rintro k s12 w3 ⟨i, hi, rfl, rfl, ws', hb, hwn⟩
  unfold S21L1
  have hl := hw_len st c n i
  refine Br.dec (fun q => ?_) fun q => ?_
  · have hin' : i < n := by omega
    have hB := hwn.ext.blk h1 fun hf => by have := hsep _ hf; omega
    have hV := h3.keepF hwn.ext fun j hj hf => by have := hsep _ hf; have := h8 j hj; omega
    obtain ⟨a2, ha2, hc2⟩ := hV.get (i := g) (by unfold codes; simpa using hg)
    rw [codes_get hg, ← hci] at hc2
    refine Nn.of ?_
    simp only [add_lit, Nat.zero_add]
    refine Ld.of hB (o := 1) (x := s2) rfl ⟨by omega, by rw [hV.1]; unfold codes; simp; omega, ?_⟩
    rw [ha2, Int.toNat_natCast]
    refine Nn.of (Ld.mk hc2 ⟨by omega, ?_⟩)
    have e3 : ((n : Int) - 1 - (i : Int)).toNat = n - 1 - i := by omega
    have hp15 : 2 ^ n ≤ 2 ^ 15 := Nat.pow_le_pow_right (by decide) n15
    rw [e3, Nat.min_eq_left (by omega), vbit_low c (n - 1 - i) (by omega)]
    have hw2 : (if i = 0 then way else 1) = 0 ∨ (if i = 0 then way else 1) = 1 := by split <;> omega
    have hinv : WInv (if i = 0 then way else 1) (Inf.hw st c n i) := by
      by_cases hi0 : i = 0
      · subst hi0; exact hin
      · rw [if_neg hi0]; exact ⟨hw_ok hok c n i, fun hh => by cases hh⟩
    refine (c_wlow hb hinv (by omega) _ 1).mono ?_
    rw [put_bit hw2 (bit_le _)]
    rintro r w4 ⟨rfl, ws2, hb2, hn2⟩
    refine Br.f rfl ⟨n - (i + 1), by omega, i + 1, by omega, rfl, by rw [i64_id (by omega)]; omega, ws2, ?_, hwn.trans hn2⟩
    rw [if_neg (by omega)]
    exact hb2
  · have : i = n := by omega
    subst this
    rw [if_neg (by omega)] at hb
    exact ⟨rfl, ws', hb, hwn⟩

theorem sizeFK {k : Nat} (hk : k ≤ 28) (x : Int) : sizeF ((257 + k : Nat) : Int) x = if x < 0 ∨ 2 ^ moreL k ≤ x then (0, 1) else ((firstL k : Int) + x, 0) := by
  unfold sizeF
  rw [if_neg (by omega), show (((257 + k : Nat) : Int) - 257).toNat = k by omega]
theorem c_sized (ht : TB w lo hi tb fixL) (hw : WrB w wb ws 1 st) (hok : WOK 1 st) (hsz : st.1.length ≤ 100000000000) (hsep : ∀ j, fp wb ws j → j < lo ∨ hi ≤ j) {v k0 : Nat} (hk0 : k0 ≤ 28) (hv1 : firstL k0 ≤ v) (hv2 : v < firstL k0 + 2 ^ moreL k0) :
    C22 (at1 wb) (some (⟨tb, 0, none⟩ : Addr)) (v : Int) w fun r w1 => r = true ∧ ∃ ws' k x, k ≤ 28 ∧ x < 2 ^ moreL k ∧ firstL k + x = v ∧ WrB w1 wb ws' 1 (lw (cw fixL st (257 + k)) x (moreL k)) ∧ Wn w w1 wb ws ws' := by
  refine T22 _ _ _ _ _ ?_
  unfold S22
  have hmx : ∀ k, k ≤ 28 → moreL k ≤ 5 := fun k hk => by unfold moreL; split <;> omega
  have hm0 := hmx k0 hk0
  obtain ⟨z1, z2, z3, _, _⟩ := base_bd (k := k0) (by omega)
  have hp0 : 2 ^ moreL k0 ≤ 2 ^ 5 := Nat.pow_le_pow_right (by decide) hm0
  refine ⟨fun m s4 w1 => ∃ k : Nat, s4 = ((257 + k : Nat) : Int) ∧ k ≤ k0 ∧ m = 28 + 1 - k ∧ Ext (fun _ => False) w w1, 28 + 1, ⟨0, rfl, by omega, rfl, Ext.refl _ _⟩, ?_⟩
  rintro m s4 w1 ⟨k, rfl, hk, rfl, e1⟩
  unfold S22L2
  refine Br.t (by simp; omega) ?_
  refine ⟨fun m s7 w2 => ∃ b : Nat, s7 = (b : Int) ∧ b ≤ 5 + 1 ∧ m = 5 + 1 - b ∧ (k = k0 → b ≤ moreL k0) ∧ Ext (fun _ => False) w w2, 5 + 1, ⟨0, rfl, by omega, rfl, fun _ => by omega, e1⟩, ?_⟩
  rintro m s7 w2 ⟨b, rfl, hb, rfl, hkb, e2⟩
  unfold S22L1
  refine Br.dec (fun q => ?_) fun q => ?_
  · have hb5 : b ≤ 5 := by omega
    have hpn : 2 ^ b ≤ 2 ^ 5 := Nat.pow_le_pow_right (by decide) hb5
    have hpe : ((2 ^ b : Nat) : Int) = 2 ^ b := by simp
    have hpp : 0 < 2 ^ b := Nat.pow_pos (by decide)
    have hme : ((2 ^ moreL k : Nat) : Int) = 2 ^ moreL k := by simp
    have hpm : 0 < 2 ^ moreL k := Nat.pow_pos (by decide)
    obtain ⟨y1, y2, y3, _, _⟩ := base_bd (k := k) (by omega)
    have hu : IntKind.u64.wrap (b : Int) = (b : Int) := u64_id (by omega)
    have hq : IntKind.i64.wrap (1 * 2 ^ (min ((b : Int)).toNat 64)) = ((2 ^ b : Nat) : Int) := by
      rw [Int.toNat_natCast, Nat.min_eq_left (by omega), Int.one_mul, ← hpe, i64_id (by omega)]
    rw [hu, hq, i64_id (n := ((2 ^ b : Nat) : Int) - 1) (by omega), i64_id (n := (b : Int) + 1) (by omega)]
    refine (c_Size _ 0 w2).mono ?_
    rintro r10 r11 w3 ⟨g1, x3⟩
    rw [sizeFK (by omega), if_neg (by omega)] at g1
    obtain ⟨rfl, rfl⟩ := Prod.mk.inj g1
    refine ⟨by omega, (c_Size _ _ w3).mono ?_⟩
    rintro r13 r14 w4 ⟨g2, x4⟩
    refine ⟨by omega, (c_Size _ _ w4).mono ?_⟩
    rintro r16 r17 w5 ⟨g3, x5⟩
    have e5 := e2.tr (x3.tr (x4.tr x5))
    rw [sizeFK (by omega)] at g2 g3
    rw [Int.add_zero]
    refine Br.t rfl ?_
    have next : ¬ (b = moreL k ∧ firstL k ≤ v ∧ v < firstL k + 2 ^ b) → ∃ n', n' < 5 + 1 - b ∧ ∃ b' : Nat, (b : Int) + 1 = (b' : Int) ∧ b' ≤ 5 + 1 ∧ n' = 5 + 1 - b' ∧ (k = k0 → b' ≤ moreL k0) ∧ Ext (fun _ => False) w w5 := fun hh =>
      ⟨5 + 1 - (b + 1), by omega, b + 1, by omega, by omega, rfl, fun hkk => by
        have := hkb hkk
        subst hkk
        by_cases hbm : b = moreL k
        · rw [← hbm] at hv2; exact absurd ⟨hbm, hv1, hv2⟩ hh
        · omega, e5⟩
    rcases Nat.lt_trichotomy b (moreL k) with hlt | heq | hgt
    · have h2 : 2 ^ (b + 1) ≤ 2 ^ moreL k := Nat.pow_le_pow_right (by decide) hlt
      rw [Nat.pow_succ] at h2
      rw [if_neg (by omega)] at g2 g3
      obtain ⟨rfl, rfl⟩ := Prod.mk.inj g2
      obtain ⟨rfl, rfl⟩ := Prod.mk.inj g3
      exact Br.t rfl (Br.f rfl (next (by omega)))
    · subst heq
      rw [if_neg (by omega)] at g2
      rw [if_pos (by omega)] at g3
      obtain ⟨rfl, rfl⟩ := Prod.mk.inj g2
      obtain ⟨rfl, rfl⟩ := Prod.mk.inj g3
      refine Br.t rfl (Br.t rfl (Br.dec (fun q1 => ⟨by omega, Lt.of (Br.dec (fun q2 => ?_) fun q2 => next ?_)⟩) fun q1 => next (by omega)))
      · rw [i64_id (by omega)] at q2
        obtain ⟨n, hn⟩ := Int.eq_ofNat_of_zero_le (show 0 ≤ fixL.getD (257 + k) 0 by have := fixL_get (257 + k) (by omega); omega)
        have hsep5 := hsep
        refine (c_write (ht.keep e5 fun _ _ _ h => h) chk_fixL (hw.keep e5 fun _ _ h => h) ⟨hok, fun hh => by cases hh⟩ (.inr rfl) (by omega) hsep (g := 257 + k) (by rw [fixL_len]; omega) hn (by have := fixL_get (257 + k) (by omega); omega)).mono ?_
        rintro r w6 ⟨rfl, ws6, hb6, hn6⟩
        refine Br.t rfl ?_
        have hl6 := cw_len (st := st) (lens := fixL) (chk_lok chk_fixL) (257 + k)
        have ex : IntKind.i64.wrap ((v : Int) - (firstL k : Int)) = ((v - firstL k : Nat) : Int) := by rw [i64_id (by omega)]; omega
        rw [ex]
        refine (c_wlow hb6 ⟨cw_ok hok _, fun hh => by cases hh⟩ (by omega) _ _).mono ?_
        rw [put_low (.inr rfl) (show v - firstL k < 2 ^ moreL k by omega) (by omega)]
        rintro r w7 ⟨rfl, ws7, hb7, hn7⟩
        refine ⟨rfl, ws7, k, v - firstL k, by omega, by omega, by omega, ?_, (Wn.of e5).trans (hn6.trans hn7)⟩
        have e1 : (if 0 < ((moreL k : Nat) : Int) then (1 : Int) else 1) = 1 := by split <;> rfl
        rw [e1] at hb7
        exact hb7
      · rw [i64_id (by omega)] at q2
        omega
    · have h2 : 2 ^ (moreL k + 1) ≤ 2 ^ b := Nat.pow_le_pow_right (by decide) hgt
      rw [Nat.pow_succ] at h2
      rw [if_pos (by omega)] at g2
      obtain ⟨rfl, rfl⟩ := Prod.mk.inj g2
      exact Br.f rfl (next (by omega))
  · have hne : k ≠ k0 := fun hh => by have := hkb hh; omega
    rw [i64_id (n := ((257 + k : Nat) : Int) + 1) (by omega)]
    exact ⟨28 + 1 - (k + 1), by omega, k + 1, by omega, by omega, rfl, e2⟩

theorem farFK {k : Nat} (hk : k ≤ 29) (x : Int) : farF (k : Int) x = if x < 0 ∨ 2 ^ moreD k ≤ x then (0, 1) else ((baseD k : Int) + x, 0) := by
  unfold farF
  rw [if_neg (by omega), Int.toNat_natCast]
theorem c_backed (ht : TB w lo hi tb fixD) (hw : WrB w wb ws 1 st) (hok : WOK 1 st) (hsz : st.1.length ≤ 100000000000) (hsep : ∀ j, fp wb ws j → j < lo ∨ hi ≤ j) {v k0 : Nat} (hk0 : k0 ≤ 29) (hv1 : baseD k0 ≤ v) (hv2 : v < baseD k0 + 2 ^ moreD k0) :
    C23 (at1 wb) (some (⟨tb, 0, none⟩ : Addr)) (v : Int) w fun r w1 => r = true ∧ ∃ ws' k x, k ≤ 29 ∧ x < 2 ^ moreD k ∧ baseD k + x = v ∧ WrB w1 wb ws' 1 (lw (cw fixD st (k)) x (moreD k)) ∧ Wn w w1 wb ws ws' := by
  refine T23 _ _ _ _ _ ?_
  unfold S23
  have hmx : ∀ k, k ≤ 29 → moreD k ≤ 13 := fun k hk => by unfold moreD; omega
  have hm0 := hmx k0 hk0
  obtain ⟨z1, z2, z3, _, _⟩ := base_bd (k := k0) (by omega)
  have hp0 : 2 ^ moreD k0 ≤ 2 ^ 13 := Nat.pow_le_pow_right (by decide) hm0
  refine ⟨fun m s4 w1 => ∃ k : Nat, s4 = (k : Int) ∧ k ≤ k0 ∧ m = 29 + 1 - k ∧ Ext (fun _ => False) w w1, 29 + 1, ⟨0, rfl, by omega, rfl, Ext.refl _ _⟩, ?_⟩
  rintro m s4 w1 ⟨k, rfl, hk, rfl, e1⟩
  unfold S23L2
  refine Br.t (by simp; omega) ?_
  refine ⟨fun m s7 w2 => ∃ b : Nat, s7 = (b : Int) ∧ b ≤ 13 + 1 ∧ m = 13 + 1 - b ∧ (k = k0 → b ≤ moreD k0) ∧ Ext (fun _ => False) w w2, 13 + 1, ⟨0, rfl, by omega, rfl, fun _ => by omega, e1⟩, ?_⟩
  rintro m s7 w2 ⟨b, rfl, hb, rfl, hkb, e2⟩
  unfold S23L1
  refine Br.dec (fun q => ?_) fun q => ?_
  · have hb5 : b ≤ 13 := by omega
    have hpn : 2 ^ b ≤ 2 ^ 13 := Nat.pow_le_pow_right (by decide) hb5
    have hpe : ((2 ^ b : Nat) : Int) = 2 ^ b := by simp
    have hpp : 0 < 2 ^ b := Nat.pow_pos (by decide)
    have hme : ((2 ^ moreD k : Nat) : Int) = 2 ^ moreD k := by simp
    have hpm : 0 < 2 ^ moreD k := Nat.pow_pos (by decide)
    obtain ⟨y1, y2, y3, _, _⟩ := base_bd (k := k) (by omega)
    have hu : IntKind.u64.wrap (b : Int) = (b : Int) := u64_id (by omega)
    have hq : IntKind.i64.wrap (1 * 2 ^ (min ((b : Int)).toNat 64)) = ((2 ^ b : Nat) : Int) := by
      rw [Int.toNat_natCast, Nat.min_eq_left (by omega), Int.one_mul, ← hpe, i64_id (by omega)]
    rw [hu, hq, i64_id (n := ((2 ^ b : Nat) : Int) - 1) (by omega), i64_id (n := (b : Int) + 1) (by omega)]
    refine (c_Far _ 0 w2).mono ?_
    rintro r10 r11 w3 ⟨g1, x3⟩
    rw [farFK (by omega), if_neg (by omega)] at g1
    obtain ⟨rfl, rfl⟩ := Prod.mk.inj g1
    refine ⟨by omega, (c_Far _ _ w3).mono ?_⟩
    rintro r13 r14 w4 ⟨g2, x4⟩
    refine ⟨by omega, (c_Far _ _ w4).mono ?_⟩
    rintro r16 r17 w5 ⟨g3, x5⟩
    have e5 := e2.tr (x3.tr (x4.tr x5))
    rw [farFK (by omega)] at g2 g3
    rw [Int.add_zero]
    refine Br.t rfl ?_
    have next : ¬ (b = moreD k ∧ baseD k ≤ v ∧ v < baseD k + 2 ^ b) → ∃ n', n' < 13 + 1 - b ∧ ∃ b' : Nat, (b : Int) + 1 = (b' : Int) ∧ b' ≤ 13 + 1 ∧ n' = 13 + 1 - b' ∧ (k = k0 → b' ≤ moreD k0) ∧ Ext (fun _ => False) w w5 := fun hh =>
      ⟨13 + 1 - (b + 1), by omega, b + 1, by omega, by omega, rfl, fun hkk => by
        have := hkb hkk
        subst hkk
        by_cases hbm : b = moreD k
        · rw [← hbm] at hv2; exact absurd ⟨hbm, hv1, hv2⟩ hh
        · omega, e5⟩
    rcases Nat.lt_trichotomy b (moreD k) with hlt | heq | hgt
    · have h2 : 2 ^ (b + 1) ≤ 2 ^ moreD k := Nat.pow_le_pow_right (by decide) hlt
      rw [Nat.pow_succ] at h2
      rw [if_neg (by omega)] at g2 g3
      obtain ⟨rfl, rfl⟩ := Prod.mk.inj g2
      obtain ⟨rfl, rfl⟩ := Prod.mk.inj g3
      exact Br.t rfl (Br.f rfl (next (by omega)))
    · subst heq
      rw [if_neg (by omega)] at g2
      rw [if_pos (by omega)] at g3
      obtain ⟨rfl, rfl⟩ := Prod.mk.inj g2
      obtain ⟨rfl, rfl⟩ := Prod.mk.inj g3
      refine Br.t rfl (Br.t rfl (Br.dec (fun q1 => ⟨by omega, Lt.of (Br.dec (fun q2 => ?_) fun q2 => next ?_)⟩) fun q1 => next (by omega)))
      · rw [i64_id (by omega)] at q2
        obtain ⟨n, hn⟩ := Int.eq_ofNat_of_zero_le (show 0 ≤ fixD.getD (k) 0 by rw [fixD_get k (by omega)]; decide)
        have hsep5 := hsep
        refine (c_write (ht.keep e5 fun _ _ _ h => h) chk_fixD (hw.keep e5 fun _ _ h => h) ⟨hok, fun hh => by cases hh⟩ (.inr rfl) (by omega) hsep (g := k) (by rw [fixD_len]; omega) hn (by rw [fixD_get k (by omega)] at hn; omega)).mono ?_
        rintro r w6 ⟨rfl, ws6, hb6, hn6⟩
        refine Br.t rfl ?_
        have hl6 := cw_len (st := st) (lens := fixD) (chk_lok chk_fixD) (k)
        have ex : IntKind.i64.wrap ((v : Int) - (baseD k : Int)) = ((v - baseD k : Nat) : Int) := by rw [i64_id (by omega)]; omega
        rw [ex]
        refine (c_wlow hb6 ⟨cw_ok hok _, fun hh => by cases hh⟩ (by omega) _ _).mono ?_
        rw [put_low (.inr rfl) (show v - baseD k < 2 ^ moreD k by omega) (by omega)]
        rintro r w7 ⟨rfl, ws7, hb7, hn7⟩
        refine ⟨rfl, ws7, k, v - baseD k, by omega, by omega, by omega, ?_, (Wn.of e5).trans (hn6.trans hn7)⟩
        have e1 : (if 0 < ((moreD k : Nat) : Int) then (1 : Int) else 1) = 1 := by split <;> rfl
        rw [e1] at hb7
        exact hb7
      · rw [i64_id (by omega)] at q2
        omega
    · have h2 : 2 ^ (moreD k + 1) ≤ 2 ^ b := Nat.pow_le_pow_right (by decide) hgt
      rw [Nat.pow_succ] at h2
      rw [if_pos (by omega)] at g2
      obtain ⟨rfl, rfl⟩ := Prod.mk.inj g2
      exact Br.f rfl (next (by omega))
  · have hne : k ≠ k0 := fun hh => by have := hkb hh; omega
    rw [i64_id (n := (k : Int) + 1) (by omega)]
    exact ⟨29 + 1 - (k + 1), by omega, k + 1, by omega, by omega, rfl, e2⟩
end
end Inf
end Go.Proofs.YtapgacggllbhiaaDoor
