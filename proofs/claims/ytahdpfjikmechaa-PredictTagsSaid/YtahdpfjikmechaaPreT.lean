/- PredictTags. Condition: the two numbers are bytes. -/
import Derived.Test.YtahdpfjikmechaaPreL
import Derived.Test.YtahdpfjikmechaaFnPreT
namespace Go.Proofs.Ytahdpfjikmechaa
namespace Pre
open Sh
set_option linter.unusedVariables false
set_option linter.unusedSimpArgs false

theorem bestK_min (prev row : List UInt8) (colors : Nat) : ∀ K : Nat, 1 ≤ K → (bestK prev row colors K).2 = far (less (((bestK prev row colors K).1 : Nat) : Int) prev row colors) ∧ ∀ k : Nat, k < K → (bestK prev row colors K).2 ≤ far (less (k : Int) prev row colors)
  | 0, h => by omega
  | 1, _ => by
    rw [bestK]
    rw [if_pos (.inl rfl)]
    exact ⟨rfl, fun k hk => by have : k = 0 := by omega
                               subst this; exact Nat.le_refl _⟩
  | K + 2, _ => by
    obtain ⟨h1, h2⟩ := bestK_min prev row colors (K + 1) (by omega)
    rw [bestK]
    by_cases h : far (less ((K + 1 : Nat) : Int) prev row colors) < (bestK prev row colors (K + 1)).2
    · rw [if_pos (.inr h)]
      refine ⟨rfl, fun k hk => ?_⟩
      by_cases hk2 : k = K + 1
      · subst hk2; exact Nat.le_refl _
      · have := h2 k (by omega)
        dsimp only
        omega
    · rw [if_neg (by omega)]
      refine ⟨h1, fun k hk => ?_⟩
      by_cases hk2 : k = K + 1
      · subst hk2; omega
      · exact h2 k (by omega)
theorem best_min (prev row : List UInt8) (colors : Nat) {k : Nat} (hk : k < 5) : far (less ((best prev row colors : Nat) : Int) prev row colors) ≤ far (less (k : Int) prev row colors) := by
  obtain ⟨h1, h2⟩ := bestK_min prev row colors 5 (by omega)
  unfold best
  rw [← h1]
  exact h2 k hk
theorem encN_row {n colors : Nat} : ∀ (m : Nat) (prev s : List UInt8) (i : Nat), i < m → s.length = m * n → ∃ pv rw' : List UInt8, rw'.length = n ∧ ∀ pred : Int, 10 ≤ pred → ((encN pred n colors m prev s).drop (i * (n + 1))).take (n + 1) = encRow pred pv rw' colors
  | 0, _, _, _, h, _ => by omega
  | m + 1, prev, s, 0, _, hs => by
    have h1 : (m + 1) * n = m * n + n := by rw [Nat.add_mul, Nat.one_mul]
    have hl : (s.take n).length = n := by rw [List.length_take]; omega
    refine ⟨prev, s.take n, hl, fun pred hp => ?_⟩
    rw [Nat.zero_mul, List.drop_zero, encN, List.take_left']
    rw [encRow_len' (h := 1) (.inr ⟨hp, rfl⟩), hl]
  | m + 1, prev, s, i + 1, hi, hs => by
    have h1 : (m + 1) * n = m * n + n := by rw [Nat.add_mul, Nat.one_mul]
    have hl : (s.take n).length = n := by rw [List.length_take]; omega
    obtain ⟨pv, rw', h2, h3⟩ := encN_row (n := n) (colors := colors) m (s.take n) (s.drop n) i (by omega) (by rw [List.length_drop]; omega)
    refine ⟨pv, rw', h2, fun pred hp => ?_⟩
    rw [← h3 pred hp, encN, show (i + 1) * (n + 1) = (n + 1) + i * (n + 1) by rw [Nat.add_mul, Nat.one_mul, Nat.add_comm], ← List.drop_drop, List.drop_left']
    rw [encRow_len' (h := 1) (.inr ⟨hp, rfl⟩), hl]
theorem cut_row {L : List UInt8} {a n : Nat} {x : UInt8} {l : List UInt8} (h : (L.drop a).take (n + 1) = x :: l) : L.getD a 0 = x ∧ (L.drop (a + 1)).take n = l := by
  have h1 : ((L.drop a).take (n + 1)).getD 0 0 = x := by rw [h]; rfl
  have h2 : ((L.drop a).take (n + 1)).drop 1 = l := by rw [h]; rfl
  rw [List.getD_eq_getElem?_getD, List.getElem?_take, if_pos (by omega), List.getElem?_drop, Nat.add_zero, ← List.getD_eq_getElem?_getD] at h1
  rw [List.drop_take, List.drop_drop, Nat.add_sub_cancel] at h2
  exact ⟨h1, h2⟩
theorem l_far (s : ByteArray) (hs : s.size ≤ 1048576) (w : World) : C58 s w fun r w1 => r = ((far s.data.toList : Nat) : Int) ∧ Ext (fun _ => False) w w1 := by
  refine T58 _ _ _ ?_
  unfold S58
  have hsl := size_list s
  refine ⟨fun n st w4 => ∃ i : Nat, st = (((far (s.data.toList.take i) : Nat) : Int), (i : Int)) ∧ i ≤ s.data.toList.length ∧ n = s.data.toList.length - i ∧ Ext (fun _ => False) w w4, s.data.toList.length, ⟨0, by simp [far], by omega, rfl, Ext.refl _ _⟩, ?_⟩
  rintro n st w4 ⟨i, rfl, hi, rfl, he⟩
  unfold S58L1
  dsimp only
  refine Br.dec (fun e => ?_) fun e => ?_
  · have hlt : i < s.data.toList.length := by omega
    have hb := (s.data.toList.getD i 0).toNat_lt
    have hf := far_le (s.data.toList.take i)
    rw [List.length_take, Nat.min_eq_left hi] at hf
    refine ⟨by omega, by omega, by omega, by omega, ?_⟩
    rw [bAt_list, i64_id (n := (((s.data.toList.getD i 0).toNat : Nat) : Int)) (by omega), i64_id (n := 256 - (((s.data.toList.getD i 0).toNat : Nat) : Int)) (by omega)]
    refine Lt.of ⟨s.data.toList.length - (i + 1), by omega, i + 1, ?_, by omega, rfl, he.drew⟩
    rw [far_take _ hlt]
    refine Prod.ext ?_ ?_
    · dsimp only
      split
      · rw [i64_id (by omega)]; omega
      · rw [i64_id (by omega)]; omega
    · dsimp only
      rw [i64_id (by omega)]; rfl
  · have : i = s.data.toList.length := by omega
    subst this
    exact ⟨by rw [List.take_length], he⟩
/-- What Encode answers for the six predictors. -/
def X (k n c m : Nat) (s : List UInt8) : List UInt8 := encN (10 + (k : Int)) n c m [] s
theorem enc_tags {k c col m : Nat} {s : List UInt8} (hk : k < 6) (hc : 1 ≤ c ∧ c ≤ 4) (hcol : 1 ≤ col ∧ col ≤ 40) (hs : s.length = m * (c * col)) (h6 : s.length ≤ 600) : encP (10 + (k : Int), (c : Int), (col : Int)) s = (X k (c * col) c m s, 0) := by
  have h1 : 1 * 1 ≤ c * col := Nat.mul_le_mul hc.1 hcol.1
  have h2 : c * col ≤ 4 * 40 := Nat.mul_le_mul hc.2 hcol.2
  have h3 : (c : Int) * (col : Int) = ((c * col : Nat) : Int) := by simp
  have hok : okP (10 + (k : Int), (c : Int), (col : Int)) = true := decide_eq_true (by dsimp only; rw [h3]; omega)
  have hn : rowN (10 + (k : Int), (c : Int), (col : Int)) = c * col := by
    unfold rowN
    rw [if_pos hok]
    dsimp only
    rw [h3, Int.toNat_natCast]
  have hdiv : s.length / (c * col) = m := by rw [hs]; exact Nat.mul_div_cancel _ (by omega)
  have hmod : s.length % (c * col) = 0 := by rw [hs]; exact Nat.mul_mod_left _ _
  have hm : m ≤ s.length := by rw [hs]; exact Nat.le_mul_of_pos_right _ (by omega)
  rw [encP_eq hok, if_neg (by omega), if_neg (by dsimp only; omega), hn, if_neg (by rw [tmod_id (by omega)]; omega), if_neg (by rw [hdiv]; omega), hdiv]
  rfl
theorem X_len {k n c m : Nat} {s : List UInt8} (hs : s.length = m * n) : (X k n c m s).length = m * (n + 1) := encN_len (h := 1) (.inr ⟨by omega, rfl⟩) m [] s hs
/-- **PredictTags**. -/
theorem tags (w : World) {colors columns : Int} (h1 : 0 ≤ colors ∧ colors ≤ 255) (h2 : 0 ≤ columns ∧ columns ≤ 255) (s : ByteArray) : C11 colors columns s w fun r w1 => r = true ∧ Ext (fun _ => False) w w1 := by
  refine T11 _ _ _ _ _ ?_
  unfold S11
  have liv : ∀ {u : World}, Ext (fun _ => False) w u → C45 u fun r w1 => r = true ∧ Ext (fun _ => False) w w1 := fun he => (lives _).mono fun r w3 ⟨h1, h2⟩ => ⟨h1, he.tr h2⟩
  obtain ⟨c, hc, hcb⟩ : ∃ c : Nat, IntKind.i64.wrap (1 + IntKind.i64.wrap (Int.tmod colors 4)) = (c : Int) ∧ 1 ≤ c ∧ c ≤ 4 := by
    refine ⟨1 + (colors % 4).toNat, ?_, by omega, by omega⟩
    rw [tmod_id h1.1, i64_id (n := colors % 4) (by omega), i64_id (by omega)]
    omega
  obtain ⟨col, hcol, hcolb⟩ : ∃ c : Nat, IntKind.i64.wrap (1 + IntKind.i64.wrap (Int.tmod columns 40)) = (c : Int) ∧ 1 ≤ c ∧ c ≤ 40 := by
    refine ⟨1 + (columns % 40).toNat, ?_, by omega, by omega⟩
    rw [tmod_id h2.1, i64_id (n := columns % 40) (by omega), i64_id (by omega)]
    omega
  rw [hc, hcol]
  refine (Hx.start w (fun _ => False)).nw fun w2 H => H.st 0 rfl (by simp) (.inr (Nat.le_refl _)) fun _ H => H.st 0 rfl (by simp) (.inr (Nat.le_refl _)) fun _ H => H.st 0 rfl (by simp) (.inr (Nat.le_refl _)) fun w5 H => H.ld 0 rfl rfl (H.ld 0 rfl rfl ?_)
  refine Br.dec (fun _ => liv H.ext) fun h6 => ?_
  have hn1 : 1 * 1 ≤ c * col := Nat.mul_le_mul hcb.1 hcolb.1
  have hn2 : c * col ≤ 4 * 40 := Nat.mul_le_mul hcb.2 hcolb.2
  have hcc : IntKind.i64.wrap ((c : Int) * (col : Int)) = ((c * col : Nat) : Int) := by
    have : (c : Int) * (col : Int) = ((c * col : Nat) : Int) := by simp
    rw [this, i64_id (by omega)]
  rw [hcc]
  have hsl := size_list s
  have hmod := Nat.mod_le s.data.toList.length (c * col)
  have ht : Int.tmod (s.size : Int) ((c * col : Nat) : Int) = ((s.data.toList.length % (c * col) : Nat) : Int) := by rw [tmod_id (by omega), hsl]; rfl
  have hi : IntKind.i64.wrap ((s.size : Int) - ((s.data.toList.length % (c * col) : Nat) : Int)) = ((s.data.toList.length - s.data.toList.length % (c * col) : Nat) : Int) := by rw [i64_id (by omega)]; omega
  rw [ht, hi]
  refine ⟨by omega, Lt.of ⟨by omega, by omega, ?_⟩⟩
  have hlt5 : w.heap.size < w5.heap.size := (H.get 0 rfl).lt
  refine H.nw' fun w6 H he6 => ?_
  obtain ⟨m, hm⟩ : ∃ m, s.data.toList.length - s.data.toList.length % (c * col) = m * (c * col) := ⟨s.data.toList.length / (c * col), by
    have := Nat.div_add_mod s.data.toList.length (c * col)
    rw [Nat.mul_comm] at this
    omega⟩
  have hex : (s.extract 0 (((s.data.toList.length - s.data.toList.length % (c * col) : Nat) : Int)).toNat).data.toList = s.data.toList.take (s.data.toList.length - s.data.toList.length % (c * col)) := by
    rw [extract_list, Int.toNat_natCast, List.drop_zero, Nat.sub_zero]
  refine ⟨fun j st w7 => ∃ (k : Nat) (A : Array Value) (pr : Int), st = (k : Int) ∧ k ≤ 6 ∧ j = 6 - k ∧ A.size = 6 ∧ (∀ i, i < k → A[i]? = some (.string ⟨(X i (c * col) c m (s.data.toList.take (s.data.toList.length - s.data.toList.length % (c * col)))).toArray⟩)) ∧
    Hx w (fun _ => False) w7 [(w.heap.size, #[.int .i64 pr, .int .i64 (c : Int), .int .i64 (col : Int)], 50), (w5.heap.size, A, 59)], 6, ⟨0, _, 0, rfl, by omega, rfl, rfl, fun i hi => by omega, H⟩, ?_⟩
  have htl : (s.data.toList.take (s.data.toList.length - s.data.toList.length % (c * col))).length = m * (c * col) := by rw [List.length_take]; omega
  have h600 : (s.data.toList.take (s.data.toList.length - s.data.toList.length % (c * col))).length ≤ 600 := by rw [List.length_take]; omega
  rintro j st w7 ⟨k, A, pr, rfl, hk, rfl, hA6, hA, H⟩
  unfold S11L3
  rw [hcc]
  generalize s.extract 0 (((s.data.toList.length - s.data.toList.length % (c * col) : Nat) : Int)).toNat = t at hex ⊢
  rw [← hex] at htl h600 hA ⊢
  have htz := size_list t
  have hmle : m ≤ m * (c * col) := Nat.le_mul_of_pos_right _ (by omega)
  have hmm : m * (c * col + 1) = m * (c * col) + m := by rw [Nat.mul_add, Nat.mul_one]
  refine Br.dec (fun e => ?_) fun e => ?_
  · rw [i64_id (n := 10 + (k : Int)) (by omega)]
    refine H.st 0 rfl (by simp) (.inr (Nat.le_refl _)) fun w8 H => ?_
    refine H.ld 0 rfl rfl (H.ld 0 rfl rfl (H.ld 0 rfl rfl ((c_encode (10 + (k : Int), (c : Int), (col : Int)) _ _).mono ?_)))
    rintro r e w9 ⟨h, he⟩
    have H := H.keep he
    obtain ⟨rfl, rfl⟩ := res_lit h (enc_tags (by omega) hcb hcolb htl h600)
    have hxl := X_len (k := k) (c := c) htl
    have hd : Int.tdiv (t.size : Int) ((c * col : Nat) : Int) = (m : Int) := by
      rw [tdiv_id (by omega), htz, htl]
      exact_mod_cast Nat.mul_div_cancel m (by omega)
    refine Br.ne (fun h => absurd rfl h) fun _ => ⟨by omega, ?_⟩
    rw [hd, i64_id (n := (m : Int)) (by omega)]
    refine Lt.of (Lt.of (Br.ne (fun h => absurd ?_ h) fun _ => ⟨by omega, by omega, ?_⟩))
    · rw [i64_id (by omega), size_list]
      show ((X k (c * col) c m t.data.toList).length : Int) = _
      omega
    · rw [add_lit]
      refine H.st 1 rfl (by rw [hA6]; omega) (.inr (by omega)) fun w10 H => ⟨6 - (k + 1), by omega, k + 1, _, _, by rw [i64_id (by omega)]; rfl, by omega, rfl, by rw [Array.size_setIfInBounds]; exact hA6, fun i hi => ?_, H⟩
      rw [Array.getElem?_setIfInBounds]
      split
      · rename_i h
        have : i = k := by omega
        subst this
        rw [if_pos (by omega)]
      · exact hA i (by omega)
  · have hk6 : k = 6 := by omega
    subst hk6
    refine ⟨fun j st w8 => ∃ i : Nat, st = ((i * (c * col + 1) : Nat) : Int) ∧ i + j = m ∧ Hx w (fun _ => False) w8 [(w.heap.size, #[.int .i64 pr, .int .i64 (c : Int), .int .i64 (col : Int)], 50), (w5.heap.size, A, 59)], m, ⟨0, by simp, by omega, H⟩, ?_⟩
    rintro j st w8 ⟨i, rfl, hij, H⟩
    unfold S11L2
    simp only [add_lit, hcc]
    have hsz : ∀ k, ((⟨(X k (c * col) c m t.data.toList).toArray⟩ : ByteArray)).size = m * (c * col + 1) := fun k => by rw [size_list]; exact X_len htl
    refine H.ld 1 rfl (hA 0 (by omega)) ?_
    rw [hsz]
    have him : i * (c * col + 1) = i * (c * col) + i := by rw [Nat.mul_add, Nat.mul_one]
    refine Br.dec (fun e => ?_) fun e => liv H.ext
    have hilt : i < m := by
      have : i * (c * col + 1) < m * (c * col + 1) := by omega
      exact Nat.lt_of_mul_lt_mul_right this
    have hi1 : (i + 1) * (c * col + 1) ≤ m * (c * col + 1) := Nat.mul_le_mul_right _ hilt
    rw [Nat.add_mul, Nat.one_mul] at hi1
    obtain ⟨pv, rw', hrl, hrow⟩ := encN_row (n := c * col) (colors := c) m [] t.data.toList i hilt htl
    have hb4 := best_le pv rw' c
    have x5 := cut_row (hrow (10 + ((5 : Nat) : Int)) (by omega) |>.trans (by unfold encRow; rw [if_neg (by omega)]))
    have ht5 : tagE (10 + ((5 : Nat) : Int)) pv rw' c = ((best pv rw' c : Nat) : Int) := by unfold tagE; rw [if_pos (by omega)]
    rw [ht5, Int.toNat_natCast] at x5
    have hu5 : ((UInt8.ofNat (best pv rw' c)).toNat : Int) = ((best pv rw' c : Nat) : Int) := by rw [UInt8.toNat_ofNat_of_lt' (by show _ < 256; omega)]
    have hb5 : IntKind.i64.wrap (bAt ⟨(X 5 (c * col) c m t.data.toList).toArray⟩ ((i * (c * col + 1) : Nat) : Int)) = ((best pv rw' c : Nat) : Int) := by
      rw [bAt_list]
      show IntKind.i64.wrap ((((X 5 (c * col) c m t.data.toList).getD _ 0).toNat : Nat) : Int) = _
      unfold X
      rw [x5.1, hu5, i64_id (by omega)]
    refine H.ld 1 rfl (hA 5 (by omega)) ?_
    rw [hsz, hb5]
    refine ⟨by omega, by omega, Br.dec (fun h => by omega) fun _ => ?_⟩
    refine ⟨fun q st w9 => ∃ k : Nat, st = (k : Int) ∧ k ≤ 5 ∧ q = 5 - k ∧ Hx w (fun _ => False) w9 [(w.heap.size, #[.int .i64 pr, .int .i64 (c : Int), .int .i64 (col : Int)], 50), (w5.heap.size, A, 59)], 5, ⟨0, rfl, by omega, rfl, H⟩, ?_⟩
    rintro q st w9 ⟨k, rfl, hk5, rfl, H⟩
    unfold S11L1
    simp only [add_lit, hcc]
    refine Br.dec (fun e2 => ?_) fun e2 => ?_
    · have hk : k < 5 := by omega
      have xk := cut_row (hrow (10 + (k : Int)) (by omega) |>.trans (by unfold encRow; rw [if_neg (by omega)]))
      have htk : tagE (10 + (k : Int)) pv rw' c = (k : Int) := by unfold tagE; rw [if_neg (by omega)]; omega
      rw [htk, Int.toNat_natCast] at xk
      have huk : ((UInt8.ofNat k).toNat : Int) = (k : Int) := by rw [UInt8.toNat_ofNat_of_lt' (by show _ < 256; omega)]
      have hbk : IntKind.i64.wrap (bAt ⟨(X k (c * col) c m t.data.toList).toArray⟩ ((i * (c * col + 1) : Nat) : Int)) = (k : Int) := by
        rw [bAt_list]
        show IntKind.i64.wrap ((((X k (c * col) c m t.data.toList).getD _ 0).toNat : Nat) : Int) = _
        unfold X
        rw [xk.1, huk, i64_id (by omega)]
      have HD := H.drew
      have hS : ∀ w10, Ext (fun _ => False) w9.drew w10 → Blk w10 w5.heap.size A 59 := fun w10 he => (HD.keep he).get 1 rfl
      have hw1 : IntKind.i64.wrap (((i * (c * col + 1) : Nat) : Int) + 1) = ((i * (c * col + 1) + 1 : Nat) : Int) := by rw [i64_id (by omega)]; omega
      have hw2 : IntKind.i64.wrap (((i * (c * col + 1) : Nat) : Int) + ((c * col : Nat) : Int)) = ((i * (c * col + 1) + c * col : Nat) : Int) := by rw [i64_id (by omega)]; omega
      have hw3 : IntKind.i64.wrap (((i * (c * col + 1) + c * col : Nat) : Int) + 1) = ((i * (c * col + 1) + 1 + c * col : Nat) : Int) := by rw [i64_id (by omega)]; omega
      rw [hw1, hw2, hw3]
      have hAk : A[0 + ((k : Nat) : Int).toNat * 1]? = some (.string ⟨(X k (c * col) c m t.data.toList).toArray⟩) := by rw [Int.toNat_natCast, Nat.mul_one, Nat.zero_add]; exact hA k (by omega)
      have hxk : ∀ k, ((⟨(X k (c * col) c m t.data.toList).toArray⟩ : ByteArray).extract (((i * (c * col + 1) + 1 : Nat) : Int)).toNat (((i * (c * col + 1) + 1 + c * col : Nat) : Int)).toNat).data.toList = ((X k (c * col) c m t.data.toList).drop (i * (c * col + 1) + 1)).take (c * col) := fun k => by
        rw [extract_list, Int.toNat_natCast, Int.toNat_natCast, Nat.add_sub_cancel_left]
      have hx0 : ∀ k, ((⟨(X k (c * col) c m t.data.toList).toArray⟩ : ByteArray).extract (((i * (c * col + 1) : Nat) : Int)).toNat (((i * (c * col + 1) + 1 + c * col : Nat) : Int)).toNat).data.toList = ((X k (c * col) c m t.data.toList).drop (i * (c * col + 1))).take (c * col + 1) := fun k => by
        rw [extract_list, Int.toNat_natCast, Int.toNat_natCast, show i * (c * col + 1) + 1 + c * col - i * (c * col + 1) = c * col + 1 by omega]
      refine ⟨fun w10 => Ext (fun _ => False) w9.drew w10, Ext.refl _ _, by omega, by omega, LdS.of hS hAk ?_⟩
      rw [hsz, hbk]
      refine ⟨by omega, by omega, Br.ne (fun h => absurd rfl h) fun _ => ⟨by omega, by omega, LdS.of hS hAk ?_⟩⟩
      rw [hsz]
      refine ⟨by omega, by omega, by omega, by rw [Int.toNat_natCast]; omega, LdS.of hS (hA 5 (by omega)) ?_⟩
      rw [hsz]
      refine ⟨by omega, by omega, by omega, by rw [Int.toNat_natCast]; omega, ?_⟩
      have hfs : ∀ k, ((⟨(X k (c * col) c m t.data.toList).toArray⟩ : ByteArray).extract (((i * (c * col + 1) + 1 : Nat) : Int)).toNat (((i * (c * col + 1) + 1 + c * col : Nat) : Int)).toNat).size ≤ 1048576 := fun k => by
        rw [size_list, hxk, List.length_take]; omega
      refine (l_far _ (hfs k) _).mono ?_
      rintro r w10 ⟨rfl, he10⟩
      refine ⟨he10, (l_far _ (hfs 5) _).mono ?_⟩
      rintro r w11 ⟨rfl, he11⟩
      rw [hxk, hxk]
      have H11 := (HD.keep he10).keep he11
      have hS2 : ∀ w10, w10 = w11 → Blk w10 w5.heap.size A 59 := fun w10 he => he ▸ H11.get 1 rfl
      have fk : far (((X k (c * col) c m t.data.toList).drop (i * (c * col + 1) + 1)).take (c * col)) = far (less (k : Int) pv rw' c) := by unfold X; rw [xk.2]
      have f5 : far (((X 5 (c * col) c m t.data.toList).drop (i * (c * col + 1) + 1)).take (c * col)) = far (less ((best pv rw' c : Nat) : Int) pv rw' c) := by unfold X; rw [x5.2]
      have hmin := best_min pv rw' c hk
      refine ⟨fun w12 => w12 = w11, rfl, Br.dec (fun h => by omega) fun _ => ?_⟩
      have nxt : IntKind.i64.wrap ((k : Int) + 1) = ((k + 1 : Nat) : Int) := by rw [i64_id (by omega)]; rfl
      refine Br.eq (fun e3 => ⟨by omega, by omega, LdS.of hS2 hAk ?_⟩) fun e3 => ⟨5 - (k + 1), by omega, k + 1, nxt, by omega, rfl, H11⟩
      rw [hsz]
      refine ⟨by omega, by omega, by omega, by rw [Int.toNat_natCast]; omega, LdS.of hS2 (hA 5 (by omega)) ?_⟩
      rw [hsz]
      refine ⟨by omega, by omega, by omega, by rw [Int.toNat_natCast]; omega, Br_of (fun h => ?_) fun _ => ⟨5 - (k + 1), by omega, k + 1, nxt, by omega, rfl, H11⟩⟩
      have hsame : (⟨(X k (c * col) c m t.data.toList).toArray⟩ : ByteArray).extract (((i * (c * col + 1) : Nat) : Int)).toNat (((i * (c * col + 1) + 1 + c * col : Nat) : Int)).toNat = (⟨(X 5 (c * col) c m t.data.toList).toArray⟩ : ByteArray).extract (((i * (c * col + 1) : Nat) : Int)).toNat (((i * (c * col + 1) + 1 + c * col : Nat) : Int)).toNat := by
        refine ba_ext ?_
        rw [hx0, hx0]
        unfold X
        rw [hrow _ (by omega), hrow _ (by omega)]
        unfold encRow
        rw [if_neg (by omega), if_neg (by omega), ht5, htk, e3, hb5]
      rw [hsame] at h
      simp at h
    · have hw4 : IntKind.i64.wrap (((i * (c * col + 1) : Nat) : Int) + IntKind.i64.wrap (((c * col : Nat) : Int) + 1)) = (((i + 1) * (c * col + 1) : Nat) : Int) := by
        rw [i64_id (n := ((c * col : Nat) : Int) + 1) (by omega), Nat.add_mul, Nat.one_mul, i64_id (by omega)]
        omega
      exact ⟨j - 1, by omega, i + 1, hw4, by omega, H⟩
end Pre
end Go.Proofs.Ytahdpfjikmechaa
