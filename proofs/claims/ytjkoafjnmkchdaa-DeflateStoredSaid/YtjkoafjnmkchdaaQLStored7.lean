/- Deflate: run-length marks of code lengths, cut zeros, the head of a block with its own codes; what is written is read back. Plain laws; conditions: a code's lengths. -/
import Derived.Test.YtjkoafjnmkchdaaQLStored5
import Derived.Test.YtjkoafjnmkchdaaQLStored2
import Derived.Test.YtjkoafjnmkchdaaQLStored3
import Derived.Test.YtjkoafjnmkchdaaQLStored4
import Derived.Test.YtjkoafjnmkchdaaQLStored6
namespace Go.Proofs.Ytjkoafjnmkchdaa
namespace Inf
open Sh Bit
set_option linter.unusedVariables false
set_option linter.unusedSimpArgs false
set_option maxRecDepth 4000
set_option maxHeartbeats 1000000
/-! ### Zeros at the end -/
def cutN (l : List Int) (keep : Nat) : Nat → Nat
  | 0 => 0
  | n + 1 => if keep < n + 1 ∧ l.getD n 0 = 0 then cutN l keep n else n + 1
theorem cutN_spec (l : List Int) (keep : Nat) : ∀ n, cutN l keep n ≤ n ∧ (keep ≤ n → keep ≤ cutN l keep n) ∧ ∀ j, cutN l keep n ≤ j → j < n → l.getD j 0 = 0
  | 0 => ⟨Nat.le_refl _, fun h => h, fun j h1 h2 => by omega⟩
  | n + 1 => by
    obtain ⟨a, b, c⟩ := cutN_spec l keep n
    unfold cutN
    by_cases h : keep < n + 1 ∧ l.getD n 0 = 0
    · rw [if_pos h]
      refine ⟨by omega, fun _ => b (by omega), fun j h1 h2 => ?_⟩
      by_cases hj : j = n
      · subst hj; exact h.2
      · exact c j h1 (by omega)
    · rw [if_neg h]
      exact ⟨Nat.le_refl _, fun h => h, fun j h1 h2 => by omega⟩
/-- From m on all is zero. -/
def Trail (l : List Int) (m : Nat) : Prop := ∀ j, m ≤ j → l.getD j 0 = 0
section
variable {l : List Int} {m : Nat}
theorem Trail.cut (l : List Int) (keep : Nat) : Trail l (cutN l keep l.length) := fun j hj => by
  by_cases h : j < l.length
  · exact (cutN_spec l keep l.length).2.2 j hj h
  · rw [List.getD_eq_getElem?_getD, List.getElem?_eq_none (by omega)]; rfl
theorem take_get {j : Nat} (h : j < m) : (l.take m).getD j 0 = l.getD j 0 := by
  rw [List.getD_eq_getElem?_getD, List.getElem?_take, if_pos h, List.getD_eq_getElem?_getD]
theorem Trail.take (h : Trail l m) (j : Nat) : (l.take m).getD j 0 = l.getD j 0 := by
  by_cases hj : j < m
  · exact take_get hj
  · rw [h j (by omega), List.getD_eq_getElem?_getD, List.getElem?_take, if_neg hj]
    rfl
theorem kr_take (h : Trail l m) : ∀ i, kr (l.take m) i = kr l i
  | 0 => rfl
  | i + 1 => by
    unfold kr
    rw [h.take, kr_take h i]
theorem longT_take (h : Trail l m) : ∀ i, longT (l.take m) i = longT l i
  | 0 => rfl
  | i + 1 => by
    unfold longT
    rw [h.take, longT_take h i]
theorem usedT_take (h : Trail l m) : ∀ i, usedT (l.take m) i = usedT l i
  | 0 => rfl
  | i + 1 => by
    unfold usedT
    rw [h.take, usedT_take h i]
theorem kr_more (h : Trail l m) : ∀ d, kr l (m + d) = kr l m
  | 0 => rfl
  | d + 1 => by
    show kr l (m + d + 1) = _
    unfold kr
    rw [h (m + d) (by omega), if_neg (by omega), kr_more h d]
    cases m <;> rfl
theorem longT_nn (l : List Int) : ∀ i, 0 ≤ longT l i
  | 0 => Int.le_refl _
  | i + 1 => by
    have := longT_nn l i
    unfold longT
    split
    · omega
    · exact this
theorem longT_more (h : Trail l m) : ∀ d, longT l (m + d) = longT l m
  | 0 => rfl
  | d + 1 => by
    have := longT_nn l (m + d)
    show longT l (m + d + 1) = _
    unfold longT
    rw [h (m + d) (by omega), if_neg (by omega), longT_more h d]
    cases m <;> rfl
theorem usedT_more (h : Trail l m) : ∀ d, usedT l (m + d) = usedT l m
  | 0 => rfl
  | d + 1 => by
    show usedT l (m + d + 1) = _
    unfold usedT
    rw [h (m + d) (by omega), if_neg (by omega), usedT_more h d]
    cases m <;> rfl
theorem idx_take (h : Trail l m) (n : Nat) : ∀ i, idxT (l.take m) n i = idxT l n i
  | 0 => rfl
  | i + 1 => by rw [idxT_succ, idxT_succ, h.take, idx_take h n i]
theorem idx_more (h : Trail l m) {n : Nat} (hn : 0 < n) : ∀ d, idxT l n (m + d) = idxT l n m
  | 0 => rfl
  | d + 1 => by rw [← Nat.add_assoc, idxT_succ, h (m + d) (by omega), if_neg (by omega), idx_more h hn d]
variable (h : Trail l m) (hm : m ≤ l.length)
include h hm
theorem idxs_take {n : Nat} (hn : 0 < n) : idxs (l.take m) n = idxs l n := by
  unfold idxs
  rw [idx_take h, List.length_take, Nat.min_eq_left hm, ← idx_more h hn (l.length - m), show m + (l.length - m) = l.length by omega]
theorem longest_take : longest (l.take m) = longest l := by
  unfold longest
  rw [longT_take h, List.length_take, Nat.min_eq_left hm, ← longT_more h (l.length - m), show m + (l.length - m) = l.length by omega]
theorem sgo_take (s : ByteArray) : ∀ (k n : Nat) (c f : Int) (p : Nat), 0 < n → sgo (l.take m) s k n c f p = sgo l s k n c f p
  | 0, n, c, f, p, _ => rfl
  | k + 1, n, c, f, p, hn => by
    have hc : cnt (l.take m) n = cnt l n := by
      show (idxs (l.take m) n).length = (idxs l n).length
      rw [idxs_take h hm hn]
    unfold sgo
    rw [hc, idxs_take h hm hn, sgo_take s k (n + 1) _ _ _ (by omega)]
theorem sym_take (s : ByteArray) (p : Nat) : sym (l.take m) s p = sym l s p := by
  unfold sym
  rw [longest_take h hm, sgo_take h hm s _ _ _ _ _ (by decide)]
theorem chk_take (hc : chk l = 0) : chk (l.take m) = 0 := by
  have hk := chk_lok hc
  have hr := chk_rest hk
  rw [hc] at hr
  have hk2 : Lok (l.take m) := ⟨by rw [List.length_take]; have := hk.len; omega, fun i => by rw [h.take]; exact hk.nn i⟩
  rw [chk_rest hk2, kr_take h, usedT_take h, longT_take h, List.length_take, Nat.min_eq_left hm]
  have e : m + (l.length - m) = l.length := by omega
  have e1 := kr_more h (l.length - m)
  have e2 := usedT_more h (l.length - m)
  have e3 := longT_more h (l.length - m)
  rw [e] at e1 e2 e3
  rw [← e1, ← e2, ← e3]
  split at hr
  · rename_i hh; rw [if_pos hh]
  · cases hr
end
theorem copied_congr {s : ByteArray} {far far' : List Int} (hf : ∀ p, sym far' s p = sym far s p) (most sg : Nat) (out : List UInt8) (p : Nat) : copied s far' most sg out p = copied s far most sg out p := by
  unfold copied
  split
  · rfl
  · cases num s p (moreL (sg - 257)) with
    | error e => rfl
    | ok z => dsimp only; rw [hf]
theorem signs_congr {s : ByteArray} {near near' far far' : List Int} (hn : ∀ p, sym near' s p = sym near s p) (hf : ∀ p, sym far' s p = sym far s p) (most : Nat) : ∀ (k : Nat) (out : List UInt8) (p : Nat), signsF s near' far' most k out p = signsF s near far most k out p
  | 0, _, _ => rfl
  | k + 1, out, p => by
    unfold signsF
    rw [hn]
    cases sym near s p with
    | error e => rfl
    | ok z =>
      obtain ⟨sg, p1⟩ := z
      dsimp only
      rw [copied_congr hf, signs_congr hn hf most k (out ++ [UInt8.ofNat sg]) p1]
      split
      · rfl
      · split
        · cases copied s far most sg out p1 with
          | error e => rfl
          | ok z => exact signs_congr hn hf most k _ _
        · rfl
/-! ### Marks: runs of lengths -/
/-- A mark: its sign, its extra bits, how many. -/
abbrev Mk : Type := Nat × Nat × Nat
/-- How many times the length at place i is repeated, itself included. -/
def runK (l : List Int) (i : Nat) (n : Nat) : Nat → Nat
  | 0 => n
  | k + 1 => if l.getD (i + n) 0 = l.getD i 0 then runK l i (n + 1) k else n
theorem runK_spec (l : List Int) (i : Nat) : ∀ (k n : Nat), n ≤ runK l i n k ∧ runK l i n k ≤ n + k ∧ ∀ j, n ≤ j → j < runK l i n k → l.getD (i + j) 0 = l.getD i 0
  | 0, n => ⟨Nat.le_refl _, Nat.le_refl _, fun j h1 h2 => by have : j < n := h2; omega⟩
  | k + 1, n => by
    unfold runK
    by_cases h : l.getD (i + n) 0 = l.getD i 0
    · rw [if_pos h]
      obtain ⟨a, b, c⟩ := runK_spec l i k (n + 1)
      refine ⟨by omega, by omega, fun j h1 h2 => ?_⟩
      by_cases hj : j = n
      · subst hj; exact h
      · exact c j (by omega) h2
    · rw [if_neg h]
      exact ⟨Nat.le_refl _, by omega, fun j h1 h2 => by omega⟩
/-- The marks at a place, and how many lengths they stand for. -/
def markAt (l : List Int) (i : Nat) : List Mk × Nat :=
  let n := runK l i 1 (l.length - (i + 1))
  if l.getD i 0 = 0 ∧ 11 ≤ n then ([(18, min n 138 - 11, 7)], min n 138)
  else if l.getD i 0 = 0 ∧ 3 ≤ n then ([(17, n - 3, 3)], n)
  else if 4 ≤ n then ([((l.getD i 0).toNat, 0, 0), (16, min n 7 - 4, 2)], min n 7)
  else ([((l.getD i 0).toNat, 0, 0)], 1)
def marksF (l : List Int) : Nat → Nat → List Mk
  | 0, _ => []
  | k + 1, i => if l.length ≤ i then [] else (markAt l i).1 ++ marksF l k (i + (markAt l i).2)
def addM (acc : List Int) (m : Mk) : List Int := if m.1 < 16 then acc ++ [(m.1 : Int)] else acc ++ List.replicate (repL m.1 + m.2.1) (if m.1 = 16 then acc.getD (acc.length - 1) 0 else 0)
def Mk.ok (m : Mk) : Prop := m.1 < 19 ∧ m.2.1 < 2 ^ m.2.2 ∧ m.2.2 = (if m.1 < 16 then 0 else repB m.1)
/-- Marks that do not go beyond, and do not repeat what is not there. -/
def FitM (many : Nat) : List Mk → List Int → Prop
  | [], acc => acc.length = many
  | m :: r, acc => m.ok ∧ (m.1 = 16 → acc ≠ []) ∧ (addM acc m).length ≤ many ∧ FitM many r (addM acc m)
theorem addM_len (acc : List Int) (m : Mk) : acc.length < (addM acc m).length := by
  unfold addM
  split
  · rw [List.length_append]; simp
  · rw [List.length_append, List.length_replicate]
    unfold repL
    split <;> omega
theorem take_rep {l : List Int} {i n : Nat} {x : Int} (hl : i + n ≤ l.length) (h : ∀ j, j < n → l.getD (i + j) 0 = x) : l.take i ++ List.replicate n x = l.take (i + n) := by
  apply List.ext_getElem?
  intro j
  by_cases h1 : j < i
  · rw [List.getElem?_append_left (by rw [List.length_take]; omega), List.getElem?_take, if_pos h1, List.getElem?_take, if_pos (by omega)]
  · rw [List.getElem?_append_right (by rw [List.length_take]; omega), List.length_take, Nat.min_eq_left (by omega), List.getElem?_replicate, List.getElem?_take]
    by_cases h2 : j < i + n
    · rw [if_pos (by omega), if_pos h2]
      have := h (j - i) (by omega)
      rw [show i + (j - i) = j by omega, List.getD_eq_getElem?_getD, List.getElem?_eq_getElem (by omega)] at this
      rw [List.getElem?_eq_getElem (by omega), ← this]
      rfl
    · rw [if_neg (by omega), if_neg h2]
theorem take_one {l : List Int} {i : Nat} (hl : i < l.length) : l.take i ++ [l.getD i 0] = l.take (i + 1) := by
  rw [List.take_add_one, List.getElem?_eq_getElem hl, List.getD_eq_getElem?_getD, List.getElem?_eq_getElem hl]
  rfl
theorem marks_fit {l : List Int} (hl : ∀ i, 0 ≤ l.getD i 0 ∧ l.getD i 0 ≤ 15) : ∀ (k i : Nat), l.length ≤ i + k → i ≤ l.length → FitM l.length (marksF l k i) (l.take i) ∧ (marksF l k i).foldl addM (l.take i) = l
  | 0, i, h1, h2 => ⟨by show (l.take i).length = _; rw [List.length_take]; omega, List.take_of_length_le (by omega)⟩
  | k + 1, i, h1, h2 => by
    unfold marksF
    by_cases c1 : l.length ≤ i
    · rw [if_pos c1]
      exact ⟨by show (l.take i).length = _; rw [List.length_take]; omega, List.take_of_length_le c1⟩
    rw [if_neg c1]
    obtain ⟨r1, r2, r3⟩ := runK_spec l i (l.length - (i + 1)) 1
    have hx := hl i
    have tl : ∀ n, i + n ≤ l.length → (l.take (i + n)).length = i + n := fun n hn => by rw [List.length_take]; omega
    unfold markAt
    generalize runK l i 1 (l.length - (i + 1)) = n at r1 r2 r3
    have all : ∀ j, j < n → l.getD (i + j) 0 = l.getD i 0 := fun j hj => by
      cases j with
      | zero => rfl
      | succ j => exact r3 (j + 1) (by omega) hj
    have step1 : addM (l.take i) ((l.getD i 0).toNat, 0, 0) = l.take (i + 1) := by
      unfold addM
      rw [if_pos (by show (l.getD i 0).toNat < 16; omega), Int.toNat_of_nonneg hx.1]
      exact take_one (by omega)
    dsimp only
    by_cases d1 : l.getD i 0 = 0 ∧ 11 ≤ n
    · rw [if_pos d1]
      have e : addM (l.take i) (18, min n 138 - 11, 7) = l.take (i + min n 138) := by
        unfold addM
        dsimp only
        rw [if_neg (by decide)]
        have : repL 18 + (min n 138 - 11) = min n 138 := by show 11 + _ = _; omega
        rw [this, if_neg (by decide)]
        exact take_rep (by omega) fun j hj => (all j (by omega)).trans d1.1
      obtain ⟨a, b⟩ := marks_fit hl k (i + min n 138) (by omega) (by omega)
      rw [List.cons_append, List.nil_append, List.foldl_cons, e]
      refine ⟨⟨⟨by show 18 < 19; decide, by show min n 138 - 11 < 128; omega, rfl⟩, fun h => absurd (show 18 = 16 from h) (by decide), by rw [e, tl _ (by omega)]; omega, by rw [e]; exact a⟩, b⟩
    rw [if_neg d1]
    by_cases d2 : l.getD i 0 = 0 ∧ 3 ≤ n
    · rw [if_pos d2]
      have e : addM (l.take i) (17, n - 3, 3) = l.take (i + n) := by
        unfold addM
        dsimp only
        rw [if_neg (by decide)]
        have : repL 17 + (n - 3) = n := by show 3 + _ = _; omega
        rw [this, if_neg (by decide)]
        exact take_rep (by omega) fun j hj => (all j hj).trans d2.1
      obtain ⟨a, b⟩ := marks_fit hl k (i + n) (by omega) (by omega)
      rw [List.cons_append, List.nil_append, List.foldl_cons, e]
      refine ⟨⟨⟨by show 17 < 19; decide, by show n - 3 < 8; omega, rfl⟩, fun h => absurd (show 17 = 16 from h) (by decide), by rw [e, tl _ (by omega)]; omega, by rw [e]; exact a⟩, b⟩
    rw [if_neg d2]
    have ok1 : Mk.ok ((l.getD i 0).toNat, 0, 0) := ⟨by show (l.getD i 0).toNat < 19; omega, by show 0 < 1; decide, by show 0 = if (l.getD i 0).toNat < 16 then 0 else _; rw [if_pos (by omega)]⟩
    have no16 : (l.getD i 0).toNat = 16 → (l.take i) ≠ [] := fun h => by omega
    by_cases d3 : 4 ≤ n
    · rw [if_pos d3]
      have e : addM (l.take (i + 1)) (16, min n 7 - 4, 2) = l.take (i + min n 7) := by
        unfold addM
        dsimp only
        rw [if_neg (by decide)]
        have h3 : repL 16 + (min n 7 - 4) = min n 7 - 1 := by show 3 + _ = _; omega
        have h4 : (l.take (i + 1)).getD ((l.take (i + 1)).length - 1) 0 = l.getD i 0 := by
          rw [tl 1 (by omega), Nat.add_sub_cancel]
          exact take_get (by omega)
        rw [h3, if_pos rfl, h4, take_rep (by omega) fun j hj => by rw [show i + 1 + j = i + (j + 1) by omega]; exact all (j + 1) (by omega)]
        congr 1
        omega
      obtain ⟨a, b⟩ := marks_fit hl k (i + min n 7) (by omega) (by omega)
      rw [List.cons_append, List.cons_append, List.nil_append]
      refine ⟨⟨ok1, no16, by rw [step1, tl 1 (by omega)]; omega, ?_⟩, ?_⟩
      · rw [step1]
        refine ⟨⟨by show 16 < 19; decide, by show min n 7 - 4 < 4; omega, rfl⟩, fun _ hh => ?_, by rw [e, tl _ (by omega)]; omega, by rw [e]; exact a⟩
        have := tl 1 (by omega)
        rw [hh] at this
        simp at this
      · rw [List.foldl_cons, List.foldl_cons, step1, e]
        exact b
    · rw [if_neg d3]
      obtain ⟨a, b⟩ := marks_fit hl k (i + 1) (by omega) (by omega)
      rw [List.cons_append, List.nil_append]
      refine ⟨⟨ok1, no16, by rw [step1, tl 1 (by omega)]; omega, by rw [step1]; exact a⟩, ?_⟩
      rw [List.foldl_cons, step1]
      exact b
def marksS (l : List Int) : List Mk := marksF l l.length 0
theorem marksS_fit {l : List Int} (hl : ∀ i, 0 ≤ l.getD i 0 ∧ l.getD i 0 ≤ 15) : FitM l.length (marksS l) [] ∧ (marksS l).foldl addM [] = l := marks_fit hl l.length 0 (by omega) (by omega)
/-- What is written of a mark. -/
def wM (lens : List Int) (st : WS) (m : Mk) : WS := lw (cw lens st m.1) m.2.1 m.2.2
/-- Marks written: what is read of them. -/
structure EncM (H : List UInt8 → Prop) (lens : List Int) (many p0 : Nat) (st : WS) (acc : List Int) : Prop where
  ok : WOK 1 st
  ge : p0 ≤ pos st
  dec : ∀ T : List UInt8, Agree 1 (pos st) st.1 T → pos st ≤ 8 * T.length → H T ∧ ∃ i, i ≤ pos st ∧ i ≤ acc.length ∧ ∀ k, lensF lens ⟨T.toArray⟩ many (k + i) [] p0 = lensF lens ⟨T.toArray⟩ many k acc (pos st)
theorem EncM.mark {H : List UInt8 → Prop} {lens : List Int} {many p0 : Nat} {st : WS} {acc : List Int} (h : EncM H lens many p0 st acc) (hc : chk lens = 0) {m : Mk} (hm : m.ok) (h16 : m.1 = 16 → acc ≠ []) (hl : (addM acc m).length ≤ many) (hg : m.1 < lens.length) (hg0 : 0 < lens.getD m.1 0) :
    EncM H lens many p0 (wM lens st m) (addM acc m) := by
  have hadd := addM_len acc m
  have ok1 := cw_ok (lens := lens) h.ok m.1
  obtain ⟨k1, k2, k3⟩ := hm
  have hpos : pos st ≤ pos (wM lens st m) := by
    unfold wM cw
    rw [lw_pos (hw_ok h.ok _ _ _), hw_pos h.ok]
    omega
  refine ⟨lw_ok ok1 _ _, Nat.le_trans h.ge hpos, fun T ha hT => ?_⟩
  unfold wM at ha hT ⊢
  obtain ⟨x1, x2⟩ := lw_back ok1 k2 ha
  rw [lw_pos ok1] at hT ⊢
  obtain ⟨n, n1, a1, a2, a3⟩ := symW hc h.ok hg hg0 x1
  rw [a1] at hT x2 ⊢
  obtain ⟨c1, i, c2, c3, c4⟩ := h.dec T a2 (by omega)
  refine ⟨c1, i + 1, by omega, by omega, fun k => ?_⟩
  have := c4 (k + 1)
  rw [show k + 1 + i = k + (i + 1) by omega] at this
  rw [this]
  conv => lhs; unfold lensF
  rw [if_neg (by omega), a3 (by omega)]
  dsimp only
  unfold addM at hl ⊢
  by_cases hs : m.1 < 16
  · rw [if_pos hs] at k3 hl ⊢
    rw [if_pos hs, k3, Nat.add_zero]
  · rw [if_neg hs] at k3 hl ⊢
    rw [if_neg hs, if_neg (fun hh => h16 hh.1 (List.eq_nil_of_length_eq_zero hh.2)), ← k3, x2 (by omega)]
    dsimp only
    rw [Int.toNat_natCast]
    rw [List.length_append, List.length_replicate] at hl
    rw [if_neg (by omega)]
theorem EncM.all {H : List UInt8 → Prop} {lens : List Int} {many p0 : Nat} (hc : chk lens = 0) : ∀ (M : List Mk) {st : WS} {acc : List Int}, EncM H lens many p0 st acc → FitM many M acc → (∀ m ∈ M, m.1 < lens.length ∧ 0 < lens.getD m.1 0) →
    EncM H lens many p0 (M.foldl (wM lens) st) (M.foldl addM acc) ∧ (M.foldl addM acc).length = many
  | [], st, acc, h, hf, _ => ⟨h, hf⟩
  | m :: M, st, acc, h, ⟨f1, f2, f3, f4⟩, hm => by
    have := hm m (List.mem_cons_self ..)
    exact EncM.all hc M (h.mark hc f1 f2 f3 this.1 this.2) f4 fun x hx => hm x (List.mem_cons_of_mem _ hx)
/-! ### The lengths of the code of lengths -/
theorem order_nd : order.Nodup := by decide
theorem order_al : ∀ i, i < 19 → i ∈ order := by decide
theorem order_u : ∀ o ∈ order, o < 19 := by decide
def putO (lens : List Int) (l : List Int) (o : Nat) : List Int := l.set o (lens.getD o 0)
theorem putO_get (lens : List Int) : ∀ (os : List Nat) (l : List Int) (i : Nat), (∀ o ∈ os, o < l.length) → (os.foldl (putO lens) l).length = l.length ∧ (os.foldl (putO lens) l).getD i 0 = if i ∈ os then lens.getD i 0 else l.getD i 0
  | [], l, i, _ => ⟨rfl, rfl⟩
  | o :: os, l, i, h => by
    have hl : (putO lens l o).length = l.length := by unfold putO; rw [List.length_set]
    obtain ⟨a, b⟩ := putO_get lens os (putO lens l o) i (fun x hx => by rw [hl]; exact h x (List.mem_cons_of_mem _ hx))
    refine ⟨by rw [List.foldl_cons, a, hl], ?_⟩
    rw [List.foldl_cons, b]
    by_cases h1 : i ∈ os
    · rw [if_pos h1, if_pos (List.mem_cons_of_mem _ h1)]
    · rw [if_neg h1]
      have ho := h o (List.mem_cons_self ..)
      unfold putO
      by_cases h2 : i = o
      · subst h2
        rw [if_pos (List.mem_cons_self ..), List.getD_eq_getElem?_getD, List.getElem?_set_self ho]
        rfl
      · rw [if_neg (fun hh => (List.mem_cons.1 hh).elim h2 h1), List.getD_eq_getElem?_getD, List.getElem?_set_ne (fun e => h2 e.symm), List.getD_eq_getElem?_getD]
/-- The lengths in the order of writing. -/
def inOrd (lens : List Int) : List Int := order.map fun o => lens.getD o 0
theorem ord_back {lens : List Int} {n : Nat} (hl : lens.length = 19) (hn : Trail (inOrd lens) n) : (order.take n).foldl (putO lens) (List.replicate 19 0) = lens := by
  have hlt : ∀ o ∈ order.take n, o < (List.replicate 19 (0 : Int)).length := fun o ho => by rw [List.length_replicate]; exact order_u o (List.mem_of_mem_take ho)
  have hlen := (putO_get lens (order.take n) (List.replicate 19 0) 0 hlt).1
  rw [List.length_replicate] at hlen
  apply List.ext_getElem
  · rw [hlen, hl]
  · intro i h1 h2
    have hg := (putO_get lens (order.take n) (List.replicate 19 0) i hlt).2
    have e1 : ((order.take n).foldl (putO lens) (List.replicate 19 0)).getD i 0 = ((order.take n).foldl (putO lens) (List.replicate 19 0))[i] := by rw [List.getD_eq_getElem?_getD, List.getElem?_eq_getElem h1]; rfl
    have e2 : lens.getD i 0 = lens[i] := by rw [List.getD_eq_getElem?_getD, List.getElem?_eq_getElem h2]; rfl
    rw [← e1, ← e2, hg]
    split
    · rfl
    · rename_i hno
      obtain ⟨j, hj⟩ := List.getElem?_of_mem (order_al i (by omega))
      have hjn : n ≤ j := by
        rcases Nat.lt_or_ge j n with h | h
        · exact absurd (List.mem_of_getElem? (by rw [List.getElem?_take, if_pos h]; exact hj)) hno
        · exact h
      have hz := hn j hjn
      unfold inOrd at hz
      rw [List.getD_eq_getElem?_getD, List.getElem?_map, hj] at hz
      have hz : lens.getD i 0 = 0 := hz
      rw [hz, List.getD_eq_getElem?_getD, List.getElem?_replicate]
      split <;> rfl
/-- What is written of them. -/
def wO (lens : List Int) (st : WS) (o : Nat) : WS := lw st (lens.getD o 0).toNat 3
theorem wO_back {lens : List Int} (h7 : ∀ i, 0 ≤ lens.getD i 0 ∧ lens.getD i 0 ≤ 7) : ∀ (os : List Nat) {st : WS} {T : List UInt8} {l : List Int}, WOK 1 st → WOK 1 (os.foldl (wO lens) st) ∧ pos (os.foldl (wO lens) st) = pos st + 3 * os.length ∧
    (Agree 1 (pos (os.foldl (wO lens) st)) (os.foldl (wO lens) st).1 T → Agree 1 (pos st) st.1 T ∧ (pos st + 3 * os.length ≤ 8 * T.length → lens19 ⟨T.toArray⟩ os l (pos st) = .ok (os.foldl (putO lens) l, pos st + 3 * os.length)))
  | [], st, T, l, h => ⟨h, rfl, fun ha => ⟨ha, fun _ => rfl⟩⟩
  | o :: os, st, T, l, h => by
    have h1 : WOK 1 (wO lens st o) := lw_ok h _ _
    obtain ⟨a, b, c⟩ := wO_back h7 os (T := T) (l := putO lens l o) h1
    have hp : pos (wO lens st o) = pos st + 3 := lw_pos h _ _
    rw [List.foldl_cons, List.foldl_cons]
    refine ⟨a, by rw [b, hp, List.length_cons]; omega, fun ha => ?_⟩
    obtain ⟨d, e⟩ := c ha
    have hv : (lens.getD o 0).toNat < 2 ^ 3 := by have := h7 o; omega
    obtain ⟨f, g⟩ := lw_back h hv d
    refine ⟨f, fun hT => ?_⟩
    rw [List.length_cons] at hT ⊢
    unfold lens19
    rw [g (by omega)]
    dsimp only
    have hset : l.set o ((lens.getD o 0).toNat : Int) = putO lens l o := by unfold putO; rw [Int.toNat_of_nonneg (h7 o).1]
    rw [hset]
    have := e (by rw [hp]; omega)
    rw [hp] at this
    rw [this]
    congr 2
    omega
end Inf
end Go.Proofs.Ytjkoafjnmkchdaa

/- Package-merge: rows of trees, what is taken of them is a code's lengths; plain laws, no program in sight. No condition. -/
namespace Go.Proofs.Ytjkoafjnmkchdaa
namespace Pm
set_option linter.unusedVariables false
set_option linter.unusedSimpArgs false
/-- A coin, as a tree. -/
inductive Tr where
  | leaf (sign : Nat) (wt : Int)
  | node (a b : Tr)
instance : Inhabited Tr := ⟨.leaf 0 0⟩
def Tr.w : Tr → Int
  | .leaf _ w => w
  | .node a b => a.w + b.w
def Tr.cnt (i : Nat) : Tr → Nat
  | .leaf s _ => if s = i then 1 else 0
  | .node a b => a.cnt i + b.cnt i
def Tr.sgn : Tr → Nat
  | .leaf s _ => s
  | .node _ _ => 0
/-- Two by two. -/
def prs : List Tr → List Tr
  | a :: b :: r => .node a b :: prs r
  | _ => []
abbrev Up (l : List Tr) : Prop := l.Pairwise fun a b => a.w ≤ b.w
def le (a b : Tr) : Bool := decide (a.w ≤ b.w)
def mg (l m : List Tr) : List Tr := List.merge l m le
def cs (i : Nat) : List Tr → Nat
  | [] => 0
  | t :: r => t.cnt i + cs i r
def ws : List Tr → Int
  | [] => 0
  | t :: r => t.w + ws r
theorem cs_app (i : Nat) : ∀ l m, cs i (l ++ m) = cs i l + cs i m
  | [], m => by simp [cs]
  | t :: r, m => by
    have := cs_app i r m
    simp only [List.cons_append, cs]
    omega
theorem ws_app : ∀ l m, ws (l ++ m) = ws l + ws m
  | [], m => by simp [ws]
  | t :: r, m => by
    have := ws_app r m
    simp only [List.cons_append, ws]
    omega
theorem cs_perm {i : Nat} {l m : List Tr} (h : l.Perm m) : cs i l = cs i m := by
  induction h with
  | nil => rfl
  | cons x _ ih => simp only [cs]; omega
  | swap x y l => simp only [cs]; omega
  | trans _ _ h1 h2 => omega
theorem ws_perm {l m : List Tr} (h : l.Perm m) : ws l = ws m := by
  induction h with
  | nil => rfl
  | cons x _ ih => simp only [ws]; omega
  | swap x y l => simp only [ws]; omega
  | trans _ _ h1 h2 => omega
theorem mg_nil_left (l : List Tr) : mg [] l = l := by unfold mg; simp [List.merge]
theorem mg_nil_right (l : List Tr) : mg l [] = l := by unfold mg; cases l <;> simp [List.merge]
theorem mg_pos {a b : Tr} {l m : List Tr} (h : a.w ≤ b.w) : mg (a :: l) (b :: m) = a :: mg l (b :: m) := by
  unfold mg
  exact List.cons_merge_cons_pos _ _ _ (by simpa [le] using h)
theorem mg_neg {a b : Tr} {l m : List Tr} (h : ¬ a.w ≤ b.w) : mg (a :: l) (b :: m) = b :: mg (a :: l) m := by
  unfold mg
  exact List.cons_merge_cons_neg _ _ _ (by simpa [le] using h)
theorem mg_perm (l m : List Tr) : (mg l m).Perm (l ++ m) := List.merge_perm_append _
theorem mg_up {l m : List Tr} (h : Up l) (k : Up m) : Up (mg l m) := by
  have := List.pairwise_merge (le := le) (fun a b c h1 h2 => by simp only [le, decide_eq_true_eq] at *; omega) (fun a b => by simp only [le, Bool.or_eq_true, decide_eq_true_eq]; omega) l m
    (h.imp fun h => by simpa [le] using h) (k.imp fun h => by simpa [le] using h)
  exact this.imp fun h => by simpa [le] using h
theorem mg_len (l m : List Tr) : (mg l m).length = l.length + m.length := by rw [(mg_perm l m).length_eq, List.length_append]
/-- What is first of a merged row is first of both. -/
theorem mg_cut : ∀ (n : Nat) (l m : List Tr), n ≤ l.length + m.length → ∃ A K, A + K = n ∧ A ≤ l.length ∧ K ≤ m.length ∧ ((mg l m).take n).Perm (l.take A ++ m.take K) ∧ ((mg l m).drop n).Perm (l.drop A ++ m.drop K)
  | 0, l, m, _ => ⟨0, 0, rfl, Nat.zero_le _, Nat.zero_le _, by simp, by simpa using mg_perm l m⟩
  | n + 1, [], m, h => ⟨0, n + 1, by omega, Nat.le_refl _, by simpa using h, by rw [mg_nil_left]; simp, by rw [mg_nil_left]; simp⟩
  | n + 1, a :: l, [], h => ⟨n + 1, 0, by omega, by simpa using h, Nat.le_refl _, by rw [mg_nil_right]; simp, by rw [mg_nil_right]; simp⟩
  | n + 1, a :: l, b :: m, h => by
    simp only [List.length_cons] at h
    by_cases hab : a.w ≤ b.w
    · obtain ⟨A, K, h1, h2, h3, h4, h5⟩ := mg_cut n l (b :: m) (by simp only [List.length_cons]; omega)
      rw [mg_pos hab]
      exact ⟨A + 1, K, by omega, by simp only [List.length_cons]; omega, h3, by simpa using h4, by simpa using h5⟩
    · obtain ⟨A, K, h1, h2, h3, h4, h5⟩ := mg_cut n (a :: l) m (by simp only [List.length_cons]; omega)
      rw [mg_neg hab]
      refine ⟨A, K + 1, by omega, h2, by simp only [List.length_cons]; omega, ?_, by simpa using h5⟩
      simp only [List.take_succ_cons]
      exact (List.Perm.cons b h4).trans List.perm_middle.symm
theorem prs_len : ∀ l : List Tr, (prs l).length = l.length / 2
  | [] => rfl
  | [_] => by simp [prs]
  | a :: b :: r => by
    have := prs_len r
    simp only [prs, List.length_cons, this]
    omega
theorem prs_take : ∀ (K : Nat) (l : List Tr), prs (l.take (2 * K)) = (prs l).take K
  | 0, l => by simp [prs]
  | K + 1, [] => by simp [prs]
  | K + 1, [a] => by
    rw [show 2 * (K + 1) = 2 * K + 1 + 1 by omega]
    simp [prs]
  | K + 1, a :: b :: r => by
    rw [show 2 * (K + 1) = 2 * K + 1 + 1 by omega]
    simp only [List.take_succ_cons, prs]
    rw [prs_take K r]
theorem prs_get : ∀ (K : Nat) (l : List Tr) (p : Tr), (prs l)[K]? = some p → ∃ x y, l[2 * K]? = some x ∧ l[2 * K + 1]? = some y ∧ p = .node x y
  | K, [], p, h => by simp [prs] at h
  | K, [a], p, h => by simp [prs] at h
  | 0, a :: b :: r, p, h => ⟨a, b, rfl, rfl, by simpa [prs] using h.symm⟩
  | K + 1, a :: b :: r, p, h => by
    obtain ⟨x, y, h1, h2, h3⟩ := prs_get K r p (by simpa [prs] using h)
    refine ⟨x, y, ?_, ?_, h3⟩
    · rw [show 2 * (K + 1) = 2 * K + 1 + 1 by omega]
      simpa using h1
    · rw [show 2 * (K + 1) + 1 = 2 * K + 1 + 1 + 1 by omega]
      simpa using h2
theorem prs_cs (i : Nat) : ∀ l : List Tr, l.length % 2 = 0 → cs i (prs l) = cs i l
  | [], _ => rfl
  | [_], h => by simp at h
  | a :: b :: r, h => by
    have := prs_cs i r (by simp only [List.length_cons] at h; omega)
    simp only [prs, cs, Tr.cnt]
    omega
theorem prs_ws : ∀ l : List Tr, (∀ t ∈ l, 0 ≤ t.w) → ws (prs l) ≤ ws l
  | [], _ => Int.le_refl _
  | [a], h => by
    have := h a (by simp)
    simp only [prs, ws]
    omega
  | a :: b :: r, h => by
    have := prs_ws r fun t ht => h t (by simp [ht])
    simp only [prs, ws, Tr.w]
    omega
theorem prs_mem : ∀ (l : List Tr) (t : Tr), t ∈ prs l → ∃ a ∈ l, ∃ b ∈ l, t = .node a b
  | [], t, h => by simp [prs] at h
  | [_], t, h => by simp [prs] at h
  | a :: b :: r, t, h => by
    simp only [prs, List.mem_cons] at h
    rcases h with rfl | h
    · exact ⟨a, by simp, b, by simp, rfl⟩
    · obtain ⟨x, hx, y, hy, e⟩ := prs_mem r t h
      exact ⟨x, by simp [hx], y, by simp [hy], e⟩
theorem prs_up : ∀ l : List Tr, Up l → Up (prs l)
  | [], _ => List.Pairwise.nil
  | [_], _ => List.Pairwise.nil
  | a :: b :: r, h => by
    obtain ⟨h1, h2⟩ := List.pairwise_cons.1 h
    obtain ⟨h3, h4⟩ := List.pairwise_cons.1 h2
    refine List.pairwise_cons.2 ⟨fun t ht => ?_, prs_up r h4⟩
    obtain ⟨x, hx, y, hy, rfl⟩ := prs_mem r t ht
    have := h1 x (by simp [hx])
    have := h3 y hy
    simp only [Tr.w]
    omega
/-- The rows, from the bottom. -/
def rows (S : List Tr) : Nat → List Tr
  | 0 => S
  | k + 1 => mg S (prs (rows S k))
theorem rows_len (S : List Tr) (k : Nat) : (rows S (k + 1)).length = S.length + (rows S k).length / 2 := by
  show (mg S (prs (rows S k))).length = _
  rw [mg_len, prs_len]
theorem rows_up {S : List Tr} (h : Up S) : ∀ k, Up (rows S k)
  | 0 => h
  | k + 1 => mg_up h (prs_up _ (rows_up h k))
/-- A row is long enough. -/
theorem rows_long {S : List Tr} : ∀ (k m : Nat), S.length ≤ 2 ^ m → k ≤ m → 2 * S.length ≤ (rows S k).length + 2 ^ (m - k)
  | 0, m, h, _ => by show 2 * S.length ≤ S.length + 2 ^ (m - 0); rw [Nat.sub_zero]; omega
  | k + 1, m, h, hk => by
    have ih := rows_long k m h (by omega)
    have e : 2 ^ (m - k) = 2 * 2 ^ (m - (k + 1)) := by
      rw [show m - k = (m - (k + 1)) + 1 by omega, Nat.pow_succ]
      omega
    rw [rows_len]
    omega
/-- The leaves: sorted, each sign once, each weight positive. -/
structure Lv (S : List Tr) : Prop where
  leaf : ∀ t ∈ S, ∃ s w, t = .leaf s w ∧ 0 < w
  up : Up S
  one : (S.map Tr.sgn).Nodup
theorem rows_pos {S : List Tr} (h : Lv S) : ∀ k, ∀ t ∈ rows S k, 0 < t.w
  | 0, t, ht => by
    obtain ⟨s, w, rfl, h0⟩ := h.leaf t ht
    exact h0
  | k + 1, t, ht => by
    rcases List.mem_append.1 ((mg_perm _ _).mem_iff.1 ht) with h1 | h1
    · obtain ⟨s, w, rfl, h0⟩ := h.leaf t h1
      exact h0
    · obtain ⟨a, ha, b, hb, rfl⟩ := prs_mem _ _ h1
      have := rows_pos h k a ha
      have := rows_pos h k b hb
      simp only [Tr.w]
      omega
theorem rows_ws {S : List Tr} (h : Lv S) : ∀ k, ws (rows S k) ≤ (k + 1 : Nat) * ws S
  | 0 => by show ws S ≤ _; simp
  | k + 1 => by
    have ih := rows_ws h k
    show ws (mg S (prs (rows S k))) ≤ _
    rw [ws_perm (mg_perm _ _), ws_app]
    have := prs_ws (rows S k) fun t ht => Int.le_of_lt (rows_pos h k t ht)
    have e : ((k + 1 + 1 : Nat) : Int) * ws S = ((k + 1 : Nat) : Int) * ws S + ws S := by
      rw [Int.natCast_add (k + 1) 1, Int.add_mul]
      simp
    omega
theorem ws_mem : ∀ {l : List Tr}, (∀ t ∈ l, 0 ≤ t.w) → ∀ t ∈ l, t.w ≤ ws l
  | [], _, t, h => by cases h
  | a :: r, h, t, ht => by
    have h0 : 0 ≤ ws r := by
      clear ht
      have : ∀ r : List Tr, (∀ t ∈ r, 0 ≤ t.w) → 0 ≤ ws r := fun r => by
        induction r with
        | nil => intro _; exact Int.le_refl _
        | cons x r ih =>
          intro h
          have := ih fun t ht => h t (by simp [ht])
          have := h x (by simp)
          simp only [ws]
          omega
      exact this r fun t ht => h t (by simp [ht])
    have ha := h a (by simp)
    simp only [ws]
    rcases List.mem_cons.1 ht with rfl | ht
    · omega
    · have := ws_mem (fun t ht => h t (by simp [ht])) t ht
      omega
def sumR (f : Nat → Nat) : Nat → Nat
  | 0 => 0
  | n + 1 => sumR f n + f n
theorem sumR_base (m : Nat) : ∀ n, m ≤ n → sumR (fun r => 2 ^ (15 - if r < m then 1 else 0)) n + m * 16384 = n * 32768
  | 0, h => by
    have : m = 0 := by omega
    subst this
    rfl
  | n + 1, h => by
    simp only [sumR]
    by_cases hm : m = n + 1
    · have : ∀ k, k ≤ n + 1 → sumR (fun r => 2 ^ (15 - if r < m then 1 else 0)) k = k * 16384 := fun k => by
        induction k with
        | zero => intro _; simp [sumR]
        | succ k ih =>
          intro hk
          simp only [sumR]
          rw [ih (by omega), if_pos (by omega)]
          omega
      rw [this n (by omega), if_pos (by omega)]
      omega
    · have := sumR_base m n (by omega)
      rw [if_neg (by omega)]
      omega
theorem sumR_lin {f g : Nat → Nat} {A : Nat} : ∀ n, A ≤ n → (∀ r, r < n → 2 * f r = g r + if r < A then 0 else 32768) → 2 * sumR f n + A * 32768 = sumR g n + n * 32768
  | 0, h, _ => by
    have : A = 0 := by omega
    subst this
    rfl
  | n + 1, h, hf => by
    have hn := hf n (by omega)
    by_cases hA : A = n + 1
    · have : ∀ k, k ≤ n + 1 → 2 * sumR f k = sumR g k := fun k => by
        induction k with
        | zero => intro _; rfl
        | succ k ih =>
          intro hk
          have h1 := hf k (by omega)
          rw [if_pos (by omega)] at h1
          have := ih (by omega)
          simp only [sumR]
          omega
      have := this (n + 1) (by omega)
      omega
    · have ih := sumR_lin n (by omega) fun r hr => hf r (by omega)
      rw [if_neg (by omega)] at hn
      simp only [sumR]
      omega
theorem sumR_pos {f : Nat → Nat} : ∀ {n r : Nat}, (∀ r, r < n → 1 ≤ f r) → r < n → f r + (n - 1) ≤ sumR f n
  | 0, r, _, h => by omega
  | n + 1, r, hf, h => by
    have h2 : n ≤ sumR f n := by
      clear h
      induction n with
      | zero => exact Nat.zero_le _
      | succ n ih =>
        have := ih fun r hr => hf r (by omega)
        have := hf n (by omega)
        simp only [sumR]
        omega
    simp only [sumR]
    by_cases e : r = n
    · subst e; omega
    · have := sumR_pos (n := n) (r := r) (fun r hr => hf r (by omega)) (by omega)
      have := hf n (by omega)
      omega
/-- The sign at a rank. -/
def sg (S : List Tr) (r : Nat) : Nat := (S.getD r default).sgn
theorem Lv.at {S : List Tr} (h : Lv S) {r : Nat} (hr : r < S.length) : ∃ w, S[r] = .leaf (sg S r) w ∧ 0 < w := by
  obtain ⟨s, w, e, h0⟩ := h.leaf S[r] (List.getElem_mem hr)
  refine ⟨w, ?_, h0⟩
  unfold sg
  rw [List.getD_eq_getElem?_getD, List.getElem?_eq_getElem hr]
  simp only [Option.getD_some]
  rw [e]
  rfl
theorem Lv.inj {S : List Tr} (h : Lv S) {r q : Nat} (hr : r < S.length) (hq : q < S.length) (e : sg S r = sg S q) : r = q := by
  have h1 : (S.map Tr.sgn)[r]'(by simpa using hr) = sg S r := by
    unfold sg
    rw [List.getD_eq_getElem?_getD, List.getElem?_eq_getElem hr]
    simp
  have h2 : (S.map Tr.sgn)[q]'(by simpa using hq) = sg S q := by
    unfold sg
    rw [List.getD_eq_getElem?_getD, List.getElem?_eq_getElem hq]
    simp
  exact (List.getElem_inj h.one).1 (h1.trans (e.trans h2.symm))
theorem Lv.cs_take {S : List Tr} (h : Lv S) (i : Nat) : ∀ A, A ≤ S.length → (∀ r, r < S.length → sg S r = i → cs i (S.take A) = if r < A then 1 else 0) ∧ ((∀ r, r < S.length → sg S r ≠ i) → cs i (S.take A) = 0)
  | 0, _ => ⟨fun r _ _ => by simp [cs], fun _ => by simp [cs]⟩
  | A + 1, hA => by
    obtain ⟨h1, h2⟩ := h.cs_take i A (by omega)
    obtain ⟨w, e, _⟩ := h.at (r := A) (by omega)
    have ht : S.take (A + 1) = S.take A ++ [S[A]] := by rw [List.take_add_one, List.getElem?_eq_getElem (by omega)]; rfl
    have hc : cs i (S.take (A + 1)) = cs i (S.take A) + if sg S A = i then 1 else 0 := by
      rw [ht, cs_app, e]
      simp [cs, Tr.cnt]
    refine ⟨fun r hr hs => ?_, fun hn => ?_⟩
    · rw [hc, h1 r hr hs]
      by_cases e2 : r = A
      · subst e2
        rw [if_pos hs, if_neg (by omega), if_pos (by omega)]
      · rw [if_neg (c := sg S A = i) (fun hh => e2 (h.inj hr (by omega) (hs.trans hh.symm)))]
        split <;> split <;> omega
    · rw [hc, h2 hn, if_neg (hn A (by omega))]
theorem up_cut {l : List Tr} (h : Up l) {m : Nat} {x y : Tr} (hx : x ∈ l.take m) (hy : y ∈ l.drop m) : x.w ≤ y.w := by
  have := h
  rw [← List.take_append_drop m l] at this
  exact (List.pairwise_append.1 this).2.2 x hx y hy
/-- What is first of a row, as lengths. -/
theorem kraft {S : List Tr} (h : Lv S) : ∀ k, k ≤ 14 → ∀ m, m ≤ (rows S k).length → ∃ (A : Nat) (D : Nat → Nat), A ≤ S.length ∧ (m = 0 → A = 0) ∧ (∀ r, r < S.length → D r ≤ k + 1 ∧ (0 < D r ↔ r < A)) ∧
    (∀ t ∈ S.take A, t ∈ (rows S k).take m) ∧ (∀ r, r < S.length → cs (sg S r) ((rows S k).take m) = D r) ∧ (∀ i, (∀ r, r < S.length → sg S r ≠ i) → cs i ((rows S k).take m) = 0) ∧
    sumR (fun r => 2 ^ (15 - D r)) S.length + m * 16384 = S.length * 32768
  | 0, _, m, hm => by
    have hm : m ≤ S.length := hm
    refine ⟨m, fun r => if r < m then 1 else 0, hm, fun h => h, fun r _ => ?_, fun t h => h, fun r hr => (h.cs_take _ m hm).1 r hr rfl, fun i hi => (h.cs_take i m hm).2 hi, sumR_base m _ hm⟩
    dsimp only
    split <;> omega
  | k + 1, hk, m, hm => by
    have hup := rows_up h.up k
    have hlen : (prs (rows S k)).length = (rows S k).length / 2 := prs_len _
    obtain ⟨A, K, hAK, hA, hK, ht, hd⟩ := mg_cut m S (prs (rows S k)) (by rw [← mg_len]; exact hm)
    obtain ⟨A', D', b1, b2, b3, b4, b5, b6, b7⟩ := kraft h k (by omega) (2 * K) (by omega)
    have hle : A' ≤ A := by
      rcases Nat.lt_or_ge A A' with hlt | hge
      · exfalso
        have hK0 : K ≠ 0 := fun e => by have := b2 (by omega); omega
        obtain ⟨p, hp⟩ : ∃ p, (prs (rows S k))[K - 1]? = some p := ⟨_, List.getElem?_eq_getElem (by omega)⟩
        obtain ⟨x, y, hx, hy, rfl⟩ := prs_get _ _ _ hp
        have hAS : A < S.length := by omega
        have m1 : S[A] ∈ (rows S k).take (2 * K) := b4 _ (by
          rw [List.mem_take_iff_getElem]
          exact ⟨A, by omega, rfl⟩)
        have l1 : (S[A]).w ≤ y.w := by
          obtain ⟨i, hi⟩ := List.mem_iff_getElem?.1 m1
          rw [List.getElem?_take] at hi
          split at hi
          · rename_i hi2
            by_cases e : i = 2 * (K - 1) + 1
            · subst e
              rw [hy] at hi
              cases hi
              exact Int.le_refl _
            · obtain ⟨li, e1⟩ := List.getElem?_eq_some_iff.1 hi
              obtain ⟨ly, e2⟩ := List.getElem?_eq_some_iff.1 hy
              have := List.pairwise_iff_getElem.1 hup i (2 * (K - 1) + 1) li ly (by omega)
              rw [e1, e2] at this
              exact this
          · cases hi
        have l2 : (Tr.node x y).w ≤ (S[A]).w := by
          refine up_cut (mg_up h.up (prs_up _ hup)) (m := m) (ht.mem_iff.2 (List.mem_append_right _ ?_)) (hd.mem_iff.2 (List.mem_append_left _ ?_))
          · obtain ⟨lp, ep⟩ := List.getElem?_eq_some_iff.1 hp
            rw [List.mem_take_iff_getElem]
            exact ⟨K - 1, by omega, ep⟩
          · rw [List.mem_drop_iff_getElem]
            exact ⟨0, by omega, by simp⟩
        have l3 := rows_pos h k x (List.mem_of_getElem? hx)
        simp only [Tr.w] at l2
        omega
      · exact hge
    have hcs : ∀ i, cs i ((rows S (k + 1)).take m) = cs i (S.take A) + cs i ((rows S k).take (2 * K)) := fun i => by
      show cs i ((mg S (prs (rows S k))).take m) = _
      rw [cs_perm ht, cs_app, ← prs_take, prs_cs i _ (by rw [List.length_take]; omega)]
    refine ⟨A, fun r => (if r < A then 1 else 0) + D' r, hA, fun e => by omega, fun r hr => ?_, fun t htt => ht.mem_iff.2 (List.mem_append_left _ htt), fun r hr => ?_, fun i hi => ?_, ?_⟩
    · obtain ⟨c1, c2⟩ := b3 r hr
      dsimp only
      split <;> omega
    · rw [hcs, (h.cs_take _ A hA).1 r hr rfl, b5 r hr]
    · rw [hcs, (h.cs_take i A hA).2 hi, b6 i hi]
    · have := sumR_lin (f := fun r => 2 ^ (15 - ((if r < A then 1 else 0) + D' r))) (g := fun r => 2 ^ (15 - D' r)) (A := A) S.length hA fun r hr => by
        obtain ⟨c1, c2⟩ := b3 r hr
        split
        · rw [show 15 - D' r = (15 - (1 + D' r)) + 1 by omega, Nat.pow_succ]
          omega
        · have : D' r = 0 := by omega
          rw [this]
      show sumR (fun r => 2 ^ (15 - ((if r < A then 1 else 0) + D' r))) S.length + m * 16384 = _
      omega
/-- The lengths of a whole code. -/
theorem lengths {S : List Tr} (h : Lv S) {k : Nat} (hk : k ≤ 14) (h2 : 2 ≤ S.length) (hm : 2 * S.length - 2 ≤ (rows S k).length) : ∃ D : Nat → Nat, (∀ r, r < S.length → 1 ≤ D r ∧ D r ≤ k + 1) ∧ (∀ r, r < S.length → cs (sg S r) ((rows S k).take (2 * S.length - 2)) = D r) ∧
    (∀ i, (∀ r, r < S.length → sg S r ≠ i) → cs i ((rows S k).take (2 * S.length - 2)) = 0) ∧ sumR (fun r => 2 ^ (15 - D r)) S.length = 32768 := by
  obtain ⟨A, D, b1, b2, b3, b4, b5, b6, b7⟩ := kraft h k hk _ hm
  have e : sumR (fun r => 2 ^ (15 - D r)) S.length = 32768 := by omega
  refine ⟨D, fun r hr => ⟨?_, (b3 r hr).1⟩, b5, b6, e⟩
  rcases Nat.eq_zero_or_pos (D r) with h0 | h0
  · exfalso
    have := sumR_pos (f := fun r => 2 ^ (15 - D r)) (n := S.length) (r := r) (fun r _ => Nat.pow_pos (by decide)) hr
    rw [h0] at this
    omega
  · exact h0
end Pm
end Go.Proofs.Ytjkoafjnmkchdaa

/- Package-merge: lengths, costs and the least cost, said plainly; no program in sight. No condition. -/
namespace Go.Proofs.Ytjkoafjnmkchdaa
namespace Pm
open Inf
set_option linter.unusedVariables false
set_option linter.unusedSimpArgs false
/-- The leaves, in the order of their signs. -/
def lv (c : List Int) : Nat → List Tr
  | 0 => []
  | i + 1 => if 0 < c.getD i 0 then lv c i ++ [.leaf i (c.getD i 0)] else lv c i
theorem lv_mem {c : List Int} : ∀ {i : Nat} {t : Tr}, t ∈ lv c i ↔ ∃ s, s < i ∧ t = .leaf s (c.getD s 0) ∧ 0 < c.getD s 0
  | 0, t => ⟨fun h => by simp [lv] at h, fun ⟨s, h, _⟩ => by omega⟩
  | i + 1, t => by
    have ih := lv_mem (c := c) (i := i) (t := t)
    unfold lv
    split
    · rename_i hp
      rw [List.mem_append, ih, List.mem_singleton]
      constructor
      · rintro (⟨s, h1, h2⟩ | rfl)
        · exact ⟨s, by omega, h2⟩
        · exact ⟨i, by omega, rfl, hp⟩
      · rintro ⟨s, h1, h2, h3⟩
        by_cases e : s = i
        · subst e; exact .inr h2
        · exact .inl ⟨s, by omega, h2, h3⟩
    · rename_i hp
      rw [ih]
      constructor
      · rintro ⟨s, h1, h2⟩
        exact ⟨s, by omega, h2⟩
      · rintro ⟨s, h1, h2, h3⟩
        by_cases e : s = i
        · subst e; omega
        · exact ⟨s, by omega, h2, h3⟩
theorem lv_one (c : List Int) : ∀ i, ((lv c i).map Tr.sgn).Nodup
  | 0 => List.nodup_nil
  | i + 1 => by
    unfold lv
    split
    · rw [List.map_append]
      refine List.nodup_append.2 ⟨lv_one c i, by simp, fun a ha b hb e => ?_⟩
      obtain ⟨t, ht, rfl⟩ := List.mem_map.1 ha
      obtain ⟨s, hs, rfl, _⟩ := lv_mem.1 ht
      simp only [List.map_cons, List.map_nil, List.mem_singleton, Tr.sgn] at hb e
      omega
    · exact lv_one c i
theorem lv_len (c : List Int) : ∀ i, (lv c i).length ≤ i
  | 0 => Nat.le_refl _
  | i + 1 => by
    have := lv_len c i
    unfold lv
    split
    · rw [List.length_append]; simp; omega
    · omega
/-- Sorted leaves of a row of counts. -/
structure Sd (c : List Int) (S : List Tr) : Prop where
  perm : S.Perm (lv c c.length)
  up : Up S
theorem Sd.lv {c : List Int} {S : List Tr} (h : Sd c S) : Lv S :=
  ⟨fun t ht => by
    obtain ⟨s, _, e, h0⟩ := lv_mem.1 (h.perm.mem_iff.1 ht)
    exact ⟨s, _, e, h0⟩, h.up, (h.perm.map Tr.sgn).nodup_iff.2 (lv_one c _)⟩
theorem Sd.sign {c : List Int} {S : List Tr} (h : Sd c S) {r : Nat} (hr : r < S.length) : sg S r < c.length ∧ 0 < c.getD (sg S r) 0 ∧ S[r] = .leaf (sg S r) (c.getD (sg S r) 0) := by
  obtain ⟨s, h1, h2, h3⟩ := lv_mem.1 (h.perm.mem_iff.1 (List.getElem_mem hr))
  have e : sg S r = s := by
    unfold sg
    rw [List.getD_eq_getElem?_getD, List.getElem?_eq_getElem hr, Option.getD_some, h2]
    rfl
  rw [e]
  exact ⟨h1, h3, h2⟩
theorem Sd.rank {c : List Int} {S : List Tr} (h : Sd c S) {i : Nat} (hi : i < c.length) (h0 : 0 < c.getD i 0) : ∃ r, r < S.length ∧ sg S r = i := by
  have hm : Tr.leaf i (c.getD i 0) ∈ S := h.perm.mem_iff.2 (lv_mem.2 ⟨i, hi, rfl, h0⟩)
  obtain ⟨r, hr, e⟩ := List.mem_iff_getElem.1 hm
  refine ⟨r, hr, ?_⟩
  unfold sg
  rw [List.getD_eq_getElem?_getD, List.getElem?_eq_getElem hr, Option.getD_some, e]
  rfl
/-! ### Sums, in two orders -/
def gsum (g : Nat → Nat) : List Tr → Nat
  | [] => 0
  | t :: r => g t.sgn + gsum g r
theorem gsum_app (g : Nat → Nat) : ∀ l m, gsum g (l ++ m) = gsum g l + gsum g m
  | [], m => by simp [gsum]
  | t :: r, m => by
    have := gsum_app g r m
    simp only [List.cons_append, gsum]
    omega
theorem gsum_perm {g : Nat → Nat} {l m : List Tr} (h : l.Perm m) : gsum g l = gsum g m := by
  induction h with
  | nil => rfl
  | cons x _ ih => simp only [gsum]; omega
  | swap x y l => simp only [gsum]; omega
  | trans _ _ h1 h2 => omega
theorem gsum_sumR (g : Nat → Nat) (S : List Tr) : ∀ n, n ≤ S.length → gsum g (S.take n) = sumR (fun r => g (sg S r)) n
  | 0, _ => by simp [gsum, sumR]
  | n + 1, h => by
    have ih := gsum_sumR g S n (by omega)
    have ht : S.take (n + 1) = S.take n ++ [S[n]] := by rw [List.take_add_one, List.getElem?_eq_getElem (by omega)]; rfl
    have e : sg S n = (S[n]).sgn := by
      unfold sg
      rw [List.getD_eq_getElem?_getD, List.getElem?_eq_getElem (by omega), Option.getD_some]
    rw [ht, gsum_app, ih]
    simp only [sumR, gsum, e]
    omega
/-- The lengths that trees give. -/
def lensOf (T : List Tr) (n : Nat) : List Int := (List.range n).map fun i => (cs i T : Int)
theorem lensOf_len (T : List Tr) (n : Nat) : (lensOf T n).length = n := by unfold lensOf; simp
theorem lensOf_get {T : List Tr} {n i : Nat} (h : i < n) : (lensOf T n).getD i 0 = (cs i T : Int) := by
  unfold lensOf
  rw [List.getD_eq_getElem?_getD, List.getElem?_map, List.getElem?_range h]
  rfl
theorem kr_lens {c : List Int} {T : List Tr} {n : Nat} (hz : ∀ i, i < n → (0 < cs i T ↔ 0 < c.getD i 0)) : ∀ i, i ≤ n → kr (lensOf T n) i = (gsum (fun s => 2 ^ (15 - cs s T)) (lv c i) : Nat)
  | 0, _ => rfl
  | i + 1, h => by
    have ih := kr_lens hz i (by omega)
    have hi := hz i (by omega)
    show (if 0 < (lensOf T n).getD i 0 then kr (lensOf T n) i + 2 ^ (15 - ((lensOf T n).getD i 0).toNat) else kr (lensOf T n) i) = _
    rw [lensOf_get (by omega)]
    unfold lv
    by_cases h0 : 0 < c.getD i 0
    · have := hi.2 h0
      rw [if_pos (by omega), if_pos h0, gsum_app, ih]
      simp [gsum, Tr.sgn]
    · have : ¬ 0 < cs i T := fun hh => h0 (hi.1 hh)
      rw [if_neg (by omega), if_neg h0, ih]
theorem chk_of {l : List Int} (hl : l.length ≤ 288) (hb : ∀ i, i < l.length → 0 ≤ l.getD i 0 ∧ l.getD i 0 ≤ 15) (h : kr l l.length = 32768 ∨ kr l l.length = 0 ∨ (usedT l l.length = 1 ∧ longT l l.length = 1)) : chk l = 0 := by
  unfold chk
  rw [if_neg (by omega), if_neg, if_pos h]
  intro ha
  obtain ⟨x, hx, hh⟩ := List.any_eq_true.1 ha
  obtain ⟨i, hi, rfl⟩ := List.mem_iff_getElem.1 hx
  have := hb i hi
  rw [List.getD_eq_getElem?_getD, List.getElem?_eq_getElem hi, Option.getD_some] at this
  simp only [Bool.or_eq_true, decide_eq_true_eq] at hh
  omega
/-! ### Costs -/
def costF (l c : List Int) : Nat → Int
  | 0 => 0
  | i + 1 => if 0 ≤ l.getD i 0 ∧ l.getD i 0 ≤ 15 ∧ 0 ≤ c.getD i 0 ∧ c.getD i 0 ≤ 2147483647 then costF l c i + l.getD i 0 * c.getD i 0 else costF l c i
def sumI (f : Nat → Int) : Nat → Int
  | 0 => 0
  | n + 1 => sumI f n + f n
theorem sumI_add (f g : Nat → Int) : ∀ n, sumI (fun i => f i + g i) n = sumI f n + sumI g n
  | 0 => rfl
  | n + 1 => by
    have := sumI_add f g n
    simp only [sumI]
    omega
theorem sumI_congr {f g : Nat → Int} : ∀ n, (∀ i, i < n → f i = g i) → sumI f n = sumI g n
  | 0, _ => rfl
  | n + 1, h => by
    have := sumI_congr n fun i hi => h i (by omega)
    have := h n (by omega)
    simp only [sumI]
    omega
theorem sumI_one (s : Nat) (x : Nat → Int) : ∀ n, sumI (fun i => ((if s = i then 1 else 0 : Nat) : Int) * x i) n = if s < n then x s else 0
  | 0 => rfl
  | n + 1 => by
    have := sumI_one s x n
    simp only [sumI]
    rw [this]
    by_cases e : s = n
    · subst e
      rw [if_neg (by omega), if_pos rfl, if_pos (by omega)]
      simp
    · rw [if_neg e]
      split <;> split <;> first | omega | simp
def Tr.ok (c : List Int) : Tr → Prop
  | .leaf s w => s < c.length ∧ w = c.getD s 0
  | .node a b => a.ok c ∧ b.ok c
theorem Tr.cost {c : List Int} : ∀ {t : Tr}, t.ok c → t.w = sumI (fun i => (t.cnt i : Int) * c.getD i 0) c.length
  | .leaf s w, ⟨h1, h2⟩ => by
    simp only [Tr.w, Tr.cnt]
    rw [sumI_one s (fun i => c.getD i 0), if_pos h1, h2]
  | .node a b, ⟨h1, h2⟩ => by
    have e1 := Tr.cost h1
    have e2 := Tr.cost h2
    simp only [Tr.w, Tr.cnt]
    rw [e1, e2, ← sumI_add]
    refine sumI_congr _ fun i _ => ?_
    rw [Int.natCast_add, Int.add_mul]
theorem ws_cost {c : List Int} : ∀ {T : List Tr}, (∀ t ∈ T, t.ok c) → ws T = sumI (fun i => (cs i T : Int) * c.getD i 0) c.length
  | [], _ => by
    have : ∀ n, sumI (fun i => (cs i [] : Int) * c.getD i 0) n = 0 := fun n => by
      induction n with
      | zero => rfl
      | succ n ih =>
        show sumI (fun i => (cs i [] : Int) * c.getD i 0) n + _ = 0
        rw [ih]
        simp [cs]
    rw [this]
    rfl
  | t :: r, h => by
    simp only [ws, cs]
    rw [Tr.cost (h t (by simp)), ws_cost fun t ht => h t (by simp [ht]), ← sumI_add]
    refine sumI_congr _ fun i _ => ?_
    rw [Int.natCast_add, Int.add_mul]
theorem cost_lens {c : List Int} {T : List Tr} (hc : ∀ i, i < c.length → 0 ≤ c.getD i 0 ∧ c.getD i 0 ≤ 2147483647) (hT : ∀ i, i < c.length → cs i T ≤ 15) : ∀ i, i ≤ c.length → costF (lensOf T c.length) c i = sumI (fun i => (cs i T : Int) * c.getD i 0) i
  | 0, _ => rfl
  | i + 1, h => by
    have ih := cost_lens hc hT i (by omega)
    have h1 := hc i (by omega)
    have h2 := hT i (by omega)
    simp only [costF, sumI]
    rw [lensOf_get (by omega), if_pos (by omega), ih]
theorem rows_ok {c : List Int} {S : List Tr} (h : Sd c S) : ∀ k, ∀ t ∈ rows S k, t.ok c
  | 0, t, ht => by
    obtain ⟨s, h1, rfl, _⟩ := lv_mem.1 (h.perm.mem_iff.1 ht)
    exact ⟨h1, rfl⟩
  | k + 1, t, ht => by
    rcases List.mem_append.1 ((mg_perm _ _).mem_iff.1 ht) with h1 | h1
    · obtain ⟨s, h2, rfl, _⟩ := lv_mem.1 (h.perm.mem_iff.1 h1)
      exact ⟨h2, rfl⟩
    · obtain ⟨a, ha, b, hb, rfl⟩ := prs_mem _ _ h1
      exact ⟨rows_ok h k a ha, rows_ok h k b hb⟩
/-! ### Numbers alone -/
abbrev UpI (l : List Int) : Prop := l.Pairwise fun a b => a ≤ b
def leI (a b : Int) : Bool := decide (a ≤ b)
def prI : List Int → List Int
  | a :: b :: r => (a + b) :: prI r
  | _ => []
def rI (s : List Int) : Nat → List Int
  | 0 => s
  | k + 1 => List.merge s (prI (rI s k)) leI
def isum : List Int → Int
  | [] => 0
  | x :: r => x + isum r
theorem isum_app : ∀ l m, isum (l ++ m) = isum l + isum m
  | [], m => by simp [isum]
  | t :: r, m => by
    have := isum_app r m
    simp only [List.cons_append, isum]
    omega
theorem prI_map : ∀ l : List Tr, (prs l).map Tr.w = prI (l.map Tr.w)
  | [] => rfl
  | [_] => rfl
  | a :: b :: r => by
    have := prI_map r
    simp only [prs, List.map_cons, prI, this]
    rfl
theorem rI_map (S : List Tr) : ∀ k, (rows S k).map Tr.w = rI (S.map Tr.w) k
  | 0 => rfl
  | k + 1 => by
    show (mg S (prs (rows S k))).map Tr.w = List.merge (S.map Tr.w) (prI (rI (S.map Tr.w) k)) leI
    rw [← rI_map S k, ← prI_map]
    unfold mg
    exact List.map_merge fun a _ b _ => rfl
theorem ws_map : ∀ l : List Tr, ws l = isum (l.map Tr.w)
  | [] => rfl
  | t :: r => by
    have := ws_map r
    simp only [ws, List.map_cons, isum, this]
theorem upI_unique {l m : List Int} (h : UpI l) (k : UpI m) (p : l.Perm m) : l = m := by
  refine p.eq_of_pairwise (le := fun a b => a ≤ b) (fun a b _ _ h k => by omega) h k
theorem rI_up {s : List Int} (h : UpI s) : ∀ k, UpI (rI s k)
  | 0 => h
  | k + 1 => by
    have hp : ∀ l : List Int, UpI l → UpI (prI l) := fun l => by
      intro h
      induction l using prI.induct with
      | case1 a b r ih =>
        obtain ⟨h1, h2⟩ := List.pairwise_cons.1 h
        obtain ⟨h3, h4⟩ := List.pairwise_cons.1 h2
        have hm : ∀ (l : List Int) (t : Int), t ∈ prI l → ∃ x ∈ l, ∃ y ∈ l, t = x + y := fun l => by
          induction l using prI.induct with
          | case1 a b r ih =>
            intro t ht
            simp only [prI, List.mem_cons] at ht
            rcases ht with rfl | ht
            · exact ⟨a, by simp, b, by simp, rfl⟩
            · obtain ⟨x, hx, y, hy, e⟩ := ih t ht
              exact ⟨x, by simp [hx], y, by simp [hy], e⟩
          | case2 l hl => intro t ht; rw [prI] at ht; cases ht; exact hl
        refine List.pairwise_cons.2 ⟨fun t ht => ?_, ih h4⟩
        obtain ⟨x, hx, y, hy, rfl⟩ := hm r t ht
        have := h1 x (by simp [hx])
        have := h3 y hy
        omega
      | case2 l hl => rw [prI]; exact List.Pairwise.nil; exact hl
    have := List.pairwise_merge (le := leI) (fun a b c h1 h2 => by simp only [leI, decide_eq_true_eq] at *; omega) (fun a b => by simp only [leI, Bool.or_eq_true, decide_eq_true_eq]; omega) s (prI (rI s k))
      (h.imp fun h => by simpa [leI] using h) ((hp _ (rI_up h k)).imp fun h => by simpa [leI] using h)
    exact this.imp fun h => by simpa [leI] using h
/-- The counts that are, sorted. -/
def srt (c : List Int) : List Int := (c.filter fun x => decide (0 < x)).mergeSort leI
theorem srt_up (c : List Int) : UpI (srt c) := by
  have := List.pairwise_mergeSort (le := leI) (fun a b c h1 h2 => by simp only [leI, decide_eq_true_eq] at *; omega) (fun a b => by simp only [leI, Bool.or_eq_true, decide_eq_true_eq]; omega) (c.filter fun x => decide (0 < x))
  exact this.imp fun h => by simpa [leI] using h
theorem lv_map (c : List Int) : ∀ i, i ≤ c.length → (lv c i).map Tr.w = (c.take i).filter fun x => decide (0 < x)
  | 0, _ => rfl
  | i + 1, h => by
    have ih := lv_map c i (by omega)
    have ht : c.take (i + 1) = c.take i ++ [c[i]] := by rw [List.take_add_one, List.getElem?_eq_getElem (by omega)]; rfl
    have e : c.getD i 0 = c[i] := by rw [List.getD_eq_getElem?_getD, List.getElem?_eq_getElem (by omega)]; rfl
    rw [ht, List.filter_append, ← ih, lv, e]
    split
    · rename_i h0
      rw [List.map_append]
      simp [h0, Tr.w]
    · rename_i h0
      simp [h0]
theorem srt_eq {c s : List Int} (hs : UpI s) (hp : s.Perm (c.filter fun x => decide (0 < x))) : s = srt c :=
  upI_unique hs (srt_up c) (hp.trans (List.mergeSort_perm _ _).symm)
theorem Sd.map {c : List Int} {S : List Tr} (h : Sd c S) : S.map Tr.w = srt c := by
  refine srt_eq (List.pairwise_map.2 h.up) ?_
  have := h.perm.map Tr.w
  rw [lv_map c _ (Nat.le_refl _), List.take_length] at this
  exact this
theorem Sd.len {c : List Int} {S : List Tr} (h : Sd c S) : S.length = (srt c).length := by rw [← h.map, List.length_map]
/-- The least cost. -/
def least (c : List Int) (most : Nat) : Int := if (srt c).length < 2 then (srt c).getD 0 0 else isum ((rI (srt c) (most - 1)).take (2 * (srt c).length - 2))
/-- Why counts have no lengths. -/
def why (c : List Int) (most : Int) : Int := if 288 < c.length then 6 else if most < 1 ∨ 15 < most then 1 else if c.any (fun x => decide (x < 0) || decide (2147483647 < x)) = true then 1
  else if 2 ^ most.toNat < (srt c).length then 13 else 0
/-- What Lengths answers. -/
structure LR (c : List Int) (mo : Nat) (l : List Int) : Prop where
  len : l.length = c.length
  chk : chk l = 0
  most : ∀ i, i < c.length → 0 ≤ l.getD i 0 ∧ l.getD i 0 ≤ (mo : Int) ∧ (l.getD i 0 = 0 ↔ c.getD i 0 = 0)
  cost : costF l c c.length = least c mo
/-- Two leaves or more. -/
theorem LR.many {c : List Int} {S : List Tr} {most : Nat} (h : Sd c S) (h288 : c.length ≤ 288) (hc : ∀ i, i < c.length → 0 ≤ c.getD i 0 ∧ c.getD i 0 ≤ 2147483647) (h1 : 1 ≤ most) (h15 : most ≤ 15) (h2 : 2 ≤ S.length) (hm : S.length ≤ 2 ^ most) :
    2 * S.length - 2 ≤ (rows S (most - 1)).length ∧ LR c most (lensOf ((rows S (most - 1)).take (2 * S.length - 2)) c.length) := by
  have hlong := rows_long (S := S) (most - 1) most hm (by omega)
  rw [show most - (most - 1) = 1 by omega] at hlong
  have hl : 2 * S.length - 2 ≤ (rows S (most - 1)).length := by omega
  obtain ⟨D, d1, d2, d3, d4⟩ := lengths h.lv (k := most - 1) (by omega) h2 hl
  generalize hT : (rows S (most - 1)).take (2 * S.length - 2) = T at d2 d3 ⊢
  have key : ∀ i, i < c.length → cs i T ≤ most ∧ (0 < cs i T ↔ 0 < c.getD i 0) := fun i hi => by
    by_cases h0 : 0 < c.getD i 0
    · obtain ⟨r, hr, rfl⟩ := h.rank hi h0
      have := d1 r hr
      rw [d2 r hr]
      exact ⟨by omega, fun _ => h0, fun _ => this.1⟩
    · have : cs i T = 0 := d3 i fun r hr e => h0 (by rw [← e]; exact (h.sign hr).2.1)
      rw [this]
      exact ⟨Nat.zero_le _, fun hh => by omega, fun hh => absurd hh h0⟩
  refine ⟨hl, lensOf_len _ _, chk_of (by rw [lensOf_len]; exact h288) (fun i hi => ?_) (.inl ?_), fun i hi => ?_, ?_⟩
  · rw [lensOf_len] at hi
    rw [lensOf_get hi]
    have := (key i hi).1
    omega
  · rw [lensOf_len, kr_lens (c := c) (fun i hi => (key i hi).2) _ (Nat.le_refl _), ← gsum_perm h.perm]
    have e := gsum_sumR (fun s => 2 ^ (15 - cs s T)) S S.length (Nat.le_refl _)
    rw [List.take_length] at e
    rw [e]
    have e2 : ∀ n, n ≤ S.length → sumR (fun r => 2 ^ (15 - cs (sg S r) T)) n = sumR (fun r => 2 ^ (15 - D r)) n := fun n => by
      induction n with
      | zero => intro _; rfl
      | succ n ih =>
        intro hn
        simp only [sumR]
        rw [ih (by omega), d2 n (by omega)]
    rw [e2 _ (Nat.le_refl _), d4]
    rfl
  · rw [lensOf_get hi]
    have := key i hi
    have := hc i hi
    omega
  · rw [cost_lens hc (fun i hi => by have := (key i hi).1; omega) _ (Nat.le_refl _), ← ws_cost (T := T) (fun t ht => rows_ok h (most - 1) t (by rw [← hT] at ht; exact List.mem_of_mem_take ht)), ws_map, ← hT, List.map_take, rI_map, h.map]
    unfold least
    rw [if_neg (by rw [← h.len]; omega), h.len]
theorem cs_le {S : List Tr} (h : Lv S) {k m : Nat} (hk : k ≤ 14) (hm : m ≤ (rows S k).length) (i : Nat) : cs i ((rows S k).take m) ≤ 15 := by
  obtain ⟨A, D, b1, b2, b3, b4, b5, b6, b7⟩ := kraft h k hk m hm
  by_cases e : ∃ r, r < S.length ∧ sg S r = i
  · obtain ⟨r, hr, rfl⟩ := e
    rw [b5 r hr]
    have := (b3 r hr).1
    omega
  · rw [b6 i fun r hr hh => e ⟨r, hr, hh⟩]
    exact Nat.zero_le _
theorem rows_short (S : List Tr) : ∀ k, (rows S k).length ≤ 2 * S.length
  | 0 => by show S.length ≤ _; omega
  | k + 1 => by
    have := rows_short S k
    rw [rows_len]
    omega
theorem ws_le {B : Int} : ∀ {l : List Tr}, (∀ t ∈ l, t.w ≤ B) → ws l ≤ (l.length : Int) * B
  | [], _ => by simp [ws]
  | t :: r, h => by
    have h1 := h t (by simp)
    have h2 := ws_le fun t ht => h t (List.mem_cons_of_mem _ ht)
    simp only [ws, List.length_cons]
    rw [Int.natCast_add, Int.add_mul]
    omega
theorem ws_nn : ∀ {l : List Tr}, (∀ t ∈ l, 0 ≤ t.w) → 0 ≤ ws l
  | [], _ => Int.le_refl _
  | t :: r, h => by
    have h1 := h t (by simp)
    have h2 := ws_nn fun t ht => h t (List.mem_cons_of_mem _ ht)
    simp only [ws]
    omega
/-- No weight is great. -/
theorem rows_w {c : List Int} {S : List Tr} (h : Sd c S) (h288 : c.length ≤ 288) (hc : ∀ i, i < c.length → 0 ≤ c.getD i 0 ∧ c.getD i 0 ≤ 2147483647) {k : Nat} (hk : k ≤ 14) : ∀ t ∈ rows S k, 0 ≤ t.w ∧ t.w ≤ 1000000000000000 := fun t ht => by
  have h0 := rows_pos h.lv k
  have h1 := ws_mem (fun t ht => Int.le_of_lt (h0 t ht)) t ht
  have h2 := rows_ws h.lv k
  have h3 : ws S ≤ (S.length : Int) * 2147483647 := ws_le fun t ht => by
    obtain ⟨s, h1, rfl, h2⟩ := lv_mem.1 (h.perm.mem_iff.1 ht)
    exact (hc s h1).2
  have h4 : S.length ≤ 288 := by
    have := lv_len c c.length
    rw [h.perm.length_eq]
    omega
  have h5 : 0 ≤ ws S := ws_nn fun t ht => Int.le_of_lt (rows_pos h.lv 0 t ht)
  have h6 : ((k + 1 : Nat) : Int) * ws S ≤ 15 * ws S := Int.mul_le_mul_of_nonneg_right (by omega) h5
  exact ⟨Int.le_of_lt (h0 t ht), by omega⟩
theorem lv_srt (c : List Int) : (lv c c.length).length = (srt c).length := by
  have := congrArg List.length (lv_map c _ (Nat.le_refl _))
  rw [List.length_map, List.take_length] at this
  rw [this]
  unfold srt
  rw [List.length_mergeSort]
/-- None, or one. -/
theorem LR.none {c : List Int} {S : List Tr} {most : Nat} (h : Sd c S) (h288 : c.length ≤ 288) (hc : ∀ i, i < c.length → 0 ≤ c.getD i 0 ∧ c.getD i 0 ≤ 2147483647) (h1 : 1 ≤ most) (hS : S.length ≤ 1) : LR c most (lensOf S c.length) := by
  have hle : ∀ i, cs i S ≤ 1 := fun i => by
    match S, hS, h with
    | [], _, _ => simp [cs]
    | [t], _, h =>
      obtain ⟨s, w, rfl, _⟩ := h.lv.leaf t (by simp)
      simp only [cs, Tr.cnt]
      split <;> omega
  have key : ∀ i, i < c.length → (0 < cs i S ↔ 0 < c.getD i 0) := fun i hi => by
    have hh := h.lv.cs_take i S.length (Nat.le_refl _)
    rw [List.take_length] at hh
    by_cases h0 : 0 < c.getD i 0
    · obtain ⟨r, hr, rfl⟩ := h.rank hi h0
      rw [hh.1 r hr rfl, if_pos hr]
      exact ⟨fun _ => h0, fun _ => by decide⟩
    · rw [hh.2 fun r hr e => h0 (by rw [← e]; exact (h.sign hr).2.1)]
      exact ⟨fun hh => by omega, fun hh => absurd hh h0⟩
  refine ⟨lensOf_len _ _, chk_of (by rw [lensOf_len]; exact h288) (fun i hi => ?_) ?_, fun i hi => ?_, ?_⟩
  · rw [lensOf_len] at hi
    rw [lensOf_get hi]
    have := hle i
    omega
  · rw [lensOf_len]
    match S, hS, h with
    | [], _, _ =>
      refine .inr (.inl ?_)
      have : ∀ i, i ≤ c.length → kr (lensOf [] c.length) i = 0 := fun i => by
        induction i with
        | zero => intro _; rfl
        | succ i ih =>
          intro hi
          show (if 0 < (lensOf [] c.length).getD i 0 then _ else kr (lensOf [] c.length) i) = 0
          rw [lensOf_get (by omega), if_neg (by simp [cs]), ih (by omega)]
      exact this _ (Nat.le_refl _)
    | [t], _, h =>
      refine .inr (.inr ?_)
      obtain ⟨q1, q2, q3⟩ := h.sign (r := 0) (by simp)
      generalize hs : sg [t] 0 = s at q1 q2 q3
      have q3 : t = Tr.leaf s (c.getD s 0) := q3
      subst q3
      have hcs : ∀ i, cs i [Tr.leaf s (c.getD s 0)] = if s = i then 1 else 0 := fun i => by simp [cs, Tr.cnt]
      have : ∀ i, i ≤ c.length → usedT (lensOf [Tr.leaf s (c.getD s 0)] c.length) i = (if s < i then 1 else 0) ∧ longT (lensOf [Tr.leaf s (c.getD s 0)] c.length) i = (if s < i then 1 else 0) := fun i => by
        induction i with
        | zero => intro _; exact ⟨rfl, rfl⟩
        | succ i ih =>
          intro hi
          obtain ⟨i1, i2⟩ := ih (by omega)
          have e1 : usedT (lensOf [Tr.leaf s (c.getD s 0)] c.length) (i + 1) = if (lensOf [Tr.leaf s (c.getD s 0)] c.length).getD i 0 ≠ 0 then usedT (lensOf [Tr.leaf s (c.getD s 0)] c.length) i + 1 else usedT (lensOf [Tr.leaf s (c.getD s 0)] c.length) i := rfl
          have e2 : longT (lensOf [Tr.leaf s (c.getD s 0)] c.length) (i + 1) = if (lensOf [Tr.leaf s (c.getD s 0)] c.length).getD i 0 > longT (lensOf [Tr.leaf s (c.getD s 0)] c.length) i then (lensOf [Tr.leaf s (c.getD s 0)] c.length).getD i 0 else longT (lensOf [Tr.leaf s (c.getD s 0)] c.length) i := rfl
          rw [e1, e2, i1, i2, lensOf_get (by omega), hcs]
          rcases Nat.lt_trichotomy s i with e | e | e
          · have a1 : s ≠ i := by omega
            have a2 : s < i + 1 := by omega
            simp [a1, e, a2]
          · subst e
            simp
          · have a1 : s ≠ i := by omega
            have a2 : ¬ s < i + 1 := by omega
            have a3 : ¬ s < i := by omega
            simp [a1, a2, a3]
      have := this _ (Nat.le_refl _)
      rw [if_pos q1] at this
      exact this
  · rw [lensOf_get hi]
    have := key i hi
    have := hle i
    have := hc i hi
    omega
  · rw [cost_lens hc (fun i hi => by have := hle i; omega) _ (Nat.le_refl _), ← ws_cost (T := S) (fun t ht => rows_ok h 0 t ht), ws_map, h.map]
    have hl := h.len
    unfold least
    rw [if_pos (by omega)]
    match he : srt c, hl with
    | [], _ => rfl
    | [x], _ => simp [isum]
    | x :: y :: r, hl => simp only [List.length_cons] at hl; omega
end Pm
end Go.Proofs.Ytjkoafjnmkchdaa

/- Inflate: stored blocks; InflateStored. Condition: the laid variables. -/
namespace Go.Proofs.Ytjkoafjnmkchdaa
namespace Inf
open Sh Bit
set_option linter.unusedVariables false
set_option linter.unusedSimpArgs false
set_option maxRecDepth 4000
set_option maxHeartbeats 1000000
/-! ### Numbers of whole bytes -/
theorem bt_low8 (s : ByteArray) (i k : Nat) (hk : k < 8) : bt s 1 (8 * i + k) = byt s i / 2 ^ k % 2 := by
  unfold bt
  rw [if_pos rfl, show (8 * i + k) / 8 = i by omega, show (8 * i + k) % 8 = k by omega]
theorem tk_step (s : ByteArray) (p n : Nat) : tk s 1 p (n + 1) = tk s 1 p n + bt s 1 (p + n) * 2 ^ n := by
  show (if (1 : Int) = 1 then _ else _) = _
  rw [if_pos rfl]
theorem tk_low8 (s : ByteArray) (i : Nat) : tk s 1 (8 * i) 8 = byt s i := by
  have hb := byt_bd s i
  rw [tk_step, tk_step, tk_step, tk_step, tk_step, tk_step, tk_step, tk_step, show tk s 1 (8 * i) 0 = 0 by rfl]
  rw [bt_low8 s i 0 (by omega), bt_low8 s i 1 (by omega), bt_low8 s i 2 (by omega), bt_low8 s i 3 (by omega), bt_low8 s i 4 (by omega), bt_low8 s i 5 (by omega), bt_low8 s i 6 (by omega), bt_low8 s i 7 (by omega)]
  simp only [show (2 : Int) ^ 7 = 128 by decide, show (2 : Int) ^ 6 = 64 by decide, show (2 : Int) ^ 5 = 32 by decide, show (2 : Int) ^ 4 = 16 by decide, show (2 : Int) ^ 3 = 8 by decide, show (2 : Int) ^ 2 = 4 by decide, show (2 : Int) ^ 1 = 2 by decide, show (2 : Int) ^ 0 = 1 by decide]
  omega
theorem tk_low16 (s : ByteArray) (i : Nat) : tk s 1 (8 * i) 16 = byt s i + 256 * byt s (i + 1) := by
  rw [show (16 : Nat) = 8 + 8 by rfl, tk_low, tk_low8, show 8 * i + 8 = 8 * (i + 1) by omega, tk_low8, show (2 : Int) ^ 8 = 256 by decide]
  omega
/-- A stored block: the flag, the length, its complement, the data. -/
def hd5 (f : UInt8) (n : Nat) : List UInt8 := [f, UInt8.ofNat (n % 256), UInt8.ofNat (n / 256), UInt8.ofNat (255 - n % 256), UInt8.ofNat (255 - n / 256)]
def blkS (f : UInt8) (p : List UInt8) : List UInt8 := hd5 f p.length ++ p
theorem blkS_len (f : UInt8) (p : List UInt8) : (blkS f p).length = 5 + p.length := by unfold blkS hd5; simp; omega
theorem of_toNat {n : Nat} (h : n < 256) : (UInt8.ofNat n).toNat = n := by rw [UInt8.toNat_ofNat', Nat.mod_eq_of_lt (by omega)]
theorem byt_mid {t : ByteArray} {pre rest : List UInt8} {f : UInt8} {p : List UInt8} (ht : t.data.toList = pre ++ (blkS f p ++ rest)) {k : Nat} (hk : k < 5) : byt t (pre.length + k) = (((hd5 f p.length).getD k 0).toNat : Int) := by
  rw [byt_l, ht, List.getD_eq_getElem?_getD, List.getElem?_append_right (by omega), Nat.add_sub_cancel_left]
  unfold blkS
  rw [List.append_assoc, List.getElem?_append_left (by show k < 5; exact hk), List.getD_eq_getElem?_getD]
theorem block_at {t : ByteArray} {pre rest p : List UInt8} {f : UInt8} {most : Nat} {out : List UInt8} (ht : t.data.toList = pre ++ (blkS f p ++ rest)) (hf : f.toNat ≤ 1) (hp : p.length ≤ 65535) (hm : out.length + p.length ≤ most) :
    num t (8 * pre.length) 1 = .ok ((f.toNat : Int), 8 * pre.length + 1) ∧ num t (8 * pre.length + 1) 2 = .ok (0, 8 * pre.length + 1 + 2) ∧ block t most 0 out (8 * pre.length + 1 + 2) = .ok (out ++ p, 8 * (pre ++ blkS f p).length) := by
  have hsz : t.size = pre.length + (5 + p.length + rest.length) := by
    rw [size_list, ht, List.length_append, List.length_append, blkS_len]
  have b0 := byt_mid ht (k := 0) (by omega)
  have b1 := byt_mid ht (k := 1) (by omega)
  have b2 := byt_mid ht (k := 2) (by omega)
  have b3 := byt_mid ht (k := 3) (by omega)
  have b4 := byt_mid ht (k := 4) (by omega)
  rw [Nat.add_zero] at b0
  have b0 : byt t pre.length = (f.toNat : Int) := b0
  have b1 : byt t (pre.length + 1) = ((UInt8.ofNat (p.length % 256)).toNat : Int) := b1
  have b2 : byt t (pre.length + 2) = ((UInt8.ofNat (p.length / 256)).toNat : Int) := b2
  have b3 : byt t (pre.length + 3) = ((UInt8.ofNat (255 - p.length % 256)).toNat : Int) := b3
  have b4 : byt t (pre.length + 4) = ((UInt8.ofNat (255 - p.length / 256)).toNat : Int) := b4
  rw [of_toNat (by omega)] at b1 b2 b3 b4
  refine ⟨?_, ?_, ?_⟩
  · unfold num
    rw [if_pos (by omega), tk_step, show tk t 1 (8 * pre.length) 0 = 0 by rfl, bt_low8 t _ 0 (by omega), b0]
    congr 2
    simp only [show (2 : Int) ^ 0 = 1 by decide]
    omega
  · unfold num
    rw [if_pos (by omega), tk_step, tk_step, show tk t 1 (8 * pre.length + 1) 0 = 0 by rfl, Nat.add_zero, bt_low8 t _ 1 (by omega), show 8 * pre.length + 1 + 1 = 8 * pre.length + 2 by omega, bt_low8 t _ 2 (by omega), b0]
    congr 2
    simp only [show (2 : Int) ^ 0 = 1 by decide, show (2 : Int) ^ 1 = 2 by decide, show (2 : Int) ^ 2 = 4 by decide]
    omega
  · unfold block
    rw [if_neg (by decide), if_pos rfl]
    unfold stored
    have e1 : (8 * pre.length + 1 + 2 + 7) / 8 * 8 = 8 * (pre.length + 1) := by omega
    have n1 : num t (8 * (pre.length + 1)) 16 = .ok ((p.length : Int), 8 * (pre.length + 1) + 16) := by
      unfold num
      rw [if_pos (by omega), tk_low16, show pre.length + 1 + 1 = pre.length + 2 by omega, b1, b2]
      congr 2
      omega
    have n2 : num t (8 * (pre.length + 1) + 16) 16 = .ok (65535 - (p.length : Int), 8 * (pre.length + 1) + 16 + 16) := by
      unfold num
      rw [if_pos (by omega), show 8 * (pre.length + 1) + 16 = 8 * (pre.length + 3) by omega, tk_low16, show pre.length + 3 + 1 = pre.length + 4 by omega, b3, b4]
      congr 2
      omega
    rw [e1, n1]
    dsimp only
    rw [n2]
    dsimp only
    rw [if_neg (fun hh => hh rfl), Int.toNat_natCast, if_neg (by omega), if_neg (by omega)]
    have hx : (t.extract ((8 * (pre.length + 1) + 16 + 16) / 8) ((8 * (pre.length + 1) + 16 + 16) / 8 + p.length)).data.toList = p := by
      rw [extract_list, ht, show (8 * (pre.length + 1) + 16 + 16) / 8 = pre.length + 5 by omega, Nat.add_sub_cancel_left]
      unfold blkS
      rw [List.append_assoc, ← List.append_assoc, List.drop_left' (by rw [List.length_append]; rfl), List.take_left' rfl]
    rw [hx]
    congr 2
    rw [List.length_append, blkS_len]
    omega
section
variable (L : List ByteArray)
/-- The first i blocks, and their data. -/
def encI : Nat → List UInt8
  | 0 => []
  | i + 1 => encI i ++ blkS (if i + 1 = L.length then 1 else 0) (L.getD i ⟨#[]⟩).data.toList
def catI : Nat → List UInt8
  | 0 => []
  | i + 1 => catI i ++ (L.getD i ⟨#[]⟩).data.toList
theorem encI_pre (i : Nat) : ∀ d, ∃ r, encI L (i + d) = encI L i ++ r
  | 0 => ⟨[], by simp⟩
  | d + 1 => by
    obtain ⟨r, h⟩ := encI_pre i d
    exact ⟨r ++ blkS (if i + d + 1 = L.length then 1 else 0) (L.getD (i + d) ⟨#[]⟩).data.toList, by
      show encI L (i + d) ++ _ = _
      rw [h, List.append_assoc]
      rfl⟩
theorem catI_pre (i : Nat) : ∀ d, (catI L i).length ≤ (catI L (i + d)).length
  | 0 => Nat.le_refl _
  | d + 1 => by
    have := catI_pre i d
    show _ ≤ (catI L (i + d) ++ _).length
    rw [List.length_append]
    omega
theorem enc_len (h : ∀ i, i < L.length → (L.getD i ⟨#[]⟩).size ≤ 300) : ∀ i, i ≤ L.length → (encI L i).length ≤ i * 305 ∧ (catI L i).length ≤ i * 300 ∧ i ≤ (encI L i).length
  | 0, _ => ⟨Nat.le_refl _, Nat.le_refl _, Nat.le_refl _⟩
  | i + 1, hi => by
    obtain ⟨a, b, c⟩ := enc_len h i (by omega)
    have hz := h i (by omega)
    rw [size_list] at hz
    show (encI L i ++ _).length ≤ _ ∧ (catI L i ++ _).length ≤ _ ∧ _ ≤ (encI L i ++ _).length
    rw [List.length_append, List.length_append, blkS_len]
    omega
theorem enc_all {t : ByteArray} {most : Nat} (h0 : L.length ≠ 0) (h : ∀ i, i < L.length → (L.getD i ⟨#[]⟩).size ≤ 300) (ht : t.data.toList = encI L L.length) (hm : (catI L L.length).length ≤ most) (K : Nat) (hK : L.length ≤ K) :
    allQ t most K [] 0 = .ok (catI L L.length, 8 * t.size) := by
  have step : ∀ i, i < L.length → ∃ rest, t.data.toList = encI L i ++ (blkS (if i + 1 = L.length then 1 else 0) (L.getD i ⟨#[]⟩).data.toList ++ rest) := fun i hi => by
    obtain ⟨r, hr⟩ := encI_pre L (i + 1) (L.length - (i + 1))
    rw [show i + 1 + (L.length - (i + 1)) = L.length by omega] at hr
    refine ⟨r, ?_⟩
    rw [ht, hr]
    show (encI L i ++ _) ++ r = _
    rw [List.append_assoc]
  have one : ∀ i, i < L.length → ∀ k, allQ t most (k + 1) (catI L i) (8 * (encI L i).length) = if i + 1 = L.length then .ok (catI L (i + 1), 8 * (encI L (i + 1)).length) else allQ t most k (catI L (i + 1)) (8 * (encI L (i + 1)).length) := fun i hi k => by
    obtain ⟨rest, hr⟩ := step i hi
    have hz := h i hi
    rw [size_list] at hz
    have hc := catI_pre L (i + 1) (L.length - (i + 1))
    rw [show i + 1 + (L.length - (i + 1)) = L.length by omega] at hc
    have hc1 : (catI L (i + 1)).length = (catI L i).length + (L.getD i ⟨#[]⟩).data.toList.length := by show (catI L i ++ _).length = _; rw [List.length_append]
    obtain ⟨g1, g2, g3⟩ := block_at (most := most) (out := catI L i) hr (by split <;> decide) (Nat.le_trans hz (by decide)) (by omega)
    conv => lhs; unfold allQ
    rw [g1]
    dsimp only [bnd]
    rw [g2]
    dsimp only
    rw [g3]
    dsimp only
    by_cases hl : i + 1 = L.length
    · rw [if_pos hl, if_pos hl]
      rw [if_pos (by decide)]
      show Except.ok (catI L i ++ _, _) = Except.ok (catI L i ++ _, 8 * (encI L i ++ blkS (if i + 1 = L.length then 1 else 0) _).length)
      rw [if_pos hl]
    · rw [if_neg hl, if_neg hl]
      rw [if_neg (by decide)]
      show allQ t most k (catI L i ++ _) _ = allQ t most k (catI L i ++ _) (8 * (encI L i ++ blkS (if i + 1 = L.length then 1 else 0) _).length)
      rw [if_neg hl]
  have up : ∀ i, i < L.length → allQ t most K [] 0 = allQ t most (K - i) (catI L i) (8 * (encI L i).length) := fun i => by
    induction i with
    | zero => intro _; rfl
    | succ i ih =>
      intro hi
      rw [ih (by omega), show K - i = (K - (i + 1)) + 1 by omega, one i (by omega), if_neg (by omega)]
  rw [up (L.length - 1) (by omega), show K - (L.length - 1) = (K - (L.length - 1) - 1) + 1 by omega, one (L.length - 1) (by omega), if_pos (by omega), show L.length - 1 + 1 = L.length by omega, size_list, ht]
end
def strs (L : List ByteArray) : List Value := L.map .string
def SV (w : World) (s : Slc) (L : List ByteArray) : Prop := s.len = L.length ∧ VRow w s 1 (strs L)
theorem SV.keep {w w' : World} {s : Slc} {L : List ByteArray} (h : SV w s L) (he : Ext (fun _ => False) w w') : SV w' s L := ⟨h.1, h.2.keep he⟩
theorem SV.get {w : World} {s : Slc} {L : List ByteArray} (h : SV w s L) {i : Nat} (hi : i < L.length) : ∃ a, s.p = some a ∧ w.cell? (a.add (i * 1)) = some (.string (L.getD i ⟨#[]⟩)) := by
  obtain ⟨a, ha, hc⟩ := h.2.2 i (.string (L.getD i ⟨#[]⟩)) (by
    unfold strs
    rw [List.getElem?_map, List.getElem?_eq_getElem hi, List.getD_eq_getElem?_getD, List.getElem?_eq_getElem hi]
    rfl)
  exact ⟨a, ha, by rw [Nat.mul_one]; exact hc⟩
theorem data_app (a b : ByteArray) : (a ++ b).data.toList = a.data.toList ++ b.data.toList := by rw [ByteArray.data_append, Array.toList_append]
theorem w8 {n : Nat} (h : n < 256) : IntKind.u8.wrap (n : Int) = ((UInt8.ofNat n).toNat : Int) := by rw [of_toNat h, u8_id (by omega)]
attribute [local irreducible] Ld St Nw Nn Lt LdS
end Inf
end Go.Proofs.Ytjkoafjnmkchdaa

/- Deflate: stored, fixed and own blocks give their data back. Plain laws; conditions: a code's lengths, sizes. -/
namespace Go.Proofs.Ytjkoafjnmkchdaa
namespace Inf
open Sh Bit Pm
set_option linter.unusedVariables false
set_option linter.unusedSimpArgs false
set_option maxRecDepth 4000
set_option maxHeartbeats 1000000
theorem Enc.all {H : List UInt8 → Prop} {near far : List Int} {p0 : Nat} (hc : chk near = 0) (hf : chk far = 0) : ∀ (l : List Prt) {st : WS} {out : List UInt8}, Enc H near far p0 st out → Fit l out → (∀ p ∈ l, Has near far p) → Enc H near far p0 (l.foldl (wP near far) st) (l.foldl addP out)
  | [], st, out, h, _, _ => h
  | p :: l, st, out, h, ⟨f1, f2, f3⟩, hh => Enc.all hc hf l (h.part hc hf f1 f2 (hh p (List.mem_cons_self ..))) f3 fun x hx => hh x (List.mem_cons_of_mem _ hx)
/-! ### A stored block -/
theorem stored_few {s : ByteArray} {p : Nat} {out o : List UInt8} {m m' q : Nat} (h : stored s p out m' = .ok (o, q)) (hm : m < o.length) : stored s p out m = .error 5 := by
  unfold stored at h ⊢
  cases h1 : num s ((p + 7) / 8 * 8) 16 with
  | error e => rw [h1] at h; cases h
  | ok z =>
    obtain ⟨n, p1⟩ := z
    rw [h1] at h
    dsimp only at h ⊢
    cases h2 : num s p1 16 with
    | error e => rw [h2] at h; cases h
    | ok z =>
      obtain ⟨mm, p2⟩ := z
      rw [h2] at h
      dsimp only at h ⊢
      by_cases c1 : mm ≠ 65535 - n
      · rw [if_pos c1] at h; cases h
      rw [if_neg c1] at h ⊢
      by_cases c2 : ¬ out.length + n.toNat ≤ m'
      · rw [if_pos c2] at h; cases h
      rw [if_neg c2] at h
      by_cases c3 : ¬ p2 / 8 + n.toNat ≤ s.size
      · rw [if_pos c3] at h; cases h
      rw [if_neg c3] at h
      cases h
      rw [List.length_append] at hm
      have e1 : (s.extract (p2 / 8) (p2 / 8 + n.toNat)).data.toList.length = (s.extract (p2 / 8) (p2 / 8 + n.toNat)).size := Array.length_toList
      rw [e1, ByteArray.size_extract] at hm
      rw [if_pos (by omega)]
theorem stored_gives (p : List UInt8) (hp : p.length ≤ 65535) : Gives (blkS 1 p) p := by
  have ht : (⟨(blkS 1 p).toArray⟩ : ByteArray).data.toList = [] ++ (blkS 1 p ++ []) := by simp
  have hlen := blkS_len 1 p
  have blk : ∀ most r, block ⟨(blkS 1 p).toArray⟩ most 0 [] 3 = r → allQ ⟨(blkS 1 p).toArray⟩ most (8 * (⟨(blkS 1 p).toArray⟩ : ByteArray).size + 1) [] 0 = match r with
      | .error e => .error e
      | .ok (o, q) => .ok (o, q) := fun most r hr => by
    obtain ⟨b1, b2, _⟩ := block_at (most := p.length) (out := []) ht (f := 1) (by decide) hp (by simp)
    unfold allQ
    rw [show num ⟨(blkS 1 p).toArray⟩ 0 1 = .ok (1, 1) from b1]
    dsimp only [bnd]
    rw [show num ⟨(blkS 1 p).toArray⟩ 1 2 = .ok (0, 3) from b2]
    dsimp only
    rw [hr]
    cases r with
    | error e => rfl
    | ok z =>
      obtain ⟨o, q⟩ := z
      dsimp only
      rw [if_pos rfl]
  intro most
  refine ⟨fun hm => ?_, fun hm => ?_⟩
  · obtain ⟨_, _, b3⟩ := block_at (most := most) (out := []) ht (f := 1) (by decide) hp (by simpa using hm)
    refine ⟨_, blk most _ b3, ?_⟩
    simp only [List.nil_append]
    omega
  · obtain ⟨_, _, b3⟩ := block_at (most := p.length) (out := []) ht (f := 1) (by decide) hp (by simp)
    have : block ⟨(blkS 1 p).toArray⟩ most 0 [] 3 = .error 5 := by
      have b3 : block ⟨(blkS 1 p).toArray⟩ p.length 0 [] 3 = _ := b3
      unfold block at b3 ⊢
      rw [if_neg (by decide), if_pos rfl] at b3 ⊢
      exact stored_few b3 (by simpa using hm)
    exact blk most _ this
/-! ### A block with the fixed codes -/
def stF : WS := lw (lw ([], 0) 1 1) 1 2
theorem fix_head : WOK 1 stF ∧ pos stF = 3 ∧ ∀ T : List UInt8, Agree 1 (pos stF) stF.1 T → pos stF ≤ 8 * T.length → num ⟨T.toArray⟩ 0 1 = .ok (1, 1) ∧ num ⟨T.toArray⟩ 1 2 = .ok (1, 3) := by
  have h0 : WOK 1 ([], 0) := WOK.zero 1 []
  have h1 := lw_ok h0 1 1
  have p0 : pos (([], 0) : WS) = 0 := rfl
  have p1 : pos (lw ([], 0) 1 1) = 1 := by rw [lw_pos h0, p0]
  refine ⟨lw_ok h1 1 2, by unfold stF; rw [lw_pos h1, p1], fun T ha hT => ?_⟩
  unfold stF at ha hT
  obtain ⟨a1, a2⟩ := lw_back h1 (v := 1) (n := 2) (by decide) ha
  obtain ⟨b1, b2⟩ := lw_back h0 (v := 1) (n := 1) (by decide) a1
  rw [lw_pos h1, p1] at hT
  rw [p1] at a2
  rw [p0] at b2
  exact ⟨b2 (by omega), a2 (by omega)⟩
theorem fix_has {p : Prt} (h : p.ok) : Has fixL fixD p := by
  unfold Has
  rw [fixL_len, fixD_len]
  by_cases hn : p.n = 0
  · rw [if_pos hn]
    have := p.b.toNat_lt
    have := fixL_get p.b.toNat (by omega)
    omega
  · rw [if_neg hn]
    rcases h with h | ⟨_, h3, h4, h5, h6⟩
    · exact absurd h.1 hn
    have a := (kL_spec h3 h4).1
    have b := (kD_spec h5 h6).1
    have := fixL_get (257 + kL p.n) (by omega)
    have := fixD_get (kD p.f) (by omega)
    omega
theorem Fit.ok {l : List Prt} : ∀ {out : List UInt8}, Fit l out → ∀ p ∈ l, p.ok := by
  induction l with
  | nil => intro out _ p hp; cases hp
  | cons q l ih =>
    intro out h p hp
    obtain ⟨h1, _, h3⟩ := h
    rcases List.mem_cons.1 hp with rfl | hp
    · exact h1
    · exact ih h3 p hp
/-- What is written with the fixed codes. -/
def fixO (l : List Prt) : List UInt8 := (cw fixL (l.foldl (wP fixL fixD) stF) 256).1
theorem fixed_gives {l : List Prt} (hf : Fit l []) : Gives (fixO l) (l.foldl addP []) := by
  obtain ⟨h1, h2, h3⟩ := fix_head
  have e := Enc.all chk_fixL chk_fixD l (Enc.zero (near := fixL) (far := fixD) h1 h3 h2.symm) hf fun p hp => fix_has (hf.ok p hp)
  refine e.fin (kind := 1) chk_fixL (by rw [fixL_len]; decide) (by have := fixL_get 256 (by decide); omega) rfl fun T hT => ⟨hT.1, hT.2, fun most => ?_⟩
  unfold block
  rw [if_neg (by decide), if_neg (by decide), if_neg (by decide)]
/-! ### A block with its own codes -/
/-- The lengths that are written, and the codes of which. -/
structure Own where
  a : List Int
  b : List Int
  c : List Int
def Own.na (o : Own) : Nat := cutN o.a 257 o.a.length
def Own.nb (o : Own) : Nat := cutN o.b 1 o.b.length
def Own.ni (o : Own) : Nat := cutN (inOrd o.c) 4 (inOrd o.c).length
def Own.all (o : Own) : List Int := o.a.take o.na ++ o.b.take o.nb
def Own.st1 (o : Own) : WS := lw (lw (lw (lw (lw ([], 0) 1 1) 2 2) (o.na - 257) 5) (o.nb - 1) 5) (o.ni - 4) 4
def Own.st2 (o : Own) : WS := (order.take o.ni).foldl (wO o.c) o.st1
def Own.st3 (o : Own) : WS := (marksS o.all).foldl (wM o.c) o.st2
def Own.T (o : Own) (l : List Prt) : List UInt8 := (cw o.a (l.foldl (wP o.a o.b) o.st3) 256).1
structure Own.ok (o : Own) : Prop where
  la : o.a.length = 286
  lb : o.b.length = 30
  lc : o.c.length = 19
  ca : chk o.a = 0
  cb : chk o.b = 0
  cc : chk o.c = 0
  a256 : 0 < o.a.getD 256 0
  c7 : ∀ i, 0 ≤ o.c.getD i 0 ∧ o.c.getD i 0 ≤ 7
  has : ∀ m ∈ marksS o.all, m.1 < 19 ∧ 0 < o.c.getD m.1 0
theorem Own.ta (o : Own) : Trail o.a o.na := Trail.cut o.a 257
theorem Own.tb (o : Own) : Trail o.b o.nb := Trail.cut o.b 1
theorem Own.tc (o : Own) : Trail (inOrd o.c) o.ni := Trail.cut (inOrd o.c) 4
section
variable {o : Own}
theorem Own.sizes (h : o.ok) : 257 ≤ o.na ∧ o.na ≤ 286 ∧ 1 ≤ o.nb ∧ o.nb ≤ 30 ∧ 4 ≤ o.ni ∧ o.ni ≤ 19 ∧ o.all.length = o.na + o.nb := by
  have hi : (inOrd o.c).length = 19 := by unfold inOrd; rw [List.length_map]; decide
  have a := cutN_spec o.a 257 o.a.length
  have b := cutN_spec o.b 1 o.b.length
  have c := cutN_spec (inOrd o.c) 4 (inOrd o.c).length
  have := h.la
  have := h.lb
  have a2 := a.2.1 (by omega)
  have b2 := b.2.1 (by omega)
  have c2 := c.2.1 (by omega)
  unfold Own.na Own.nb Own.ni
  refine ⟨a2, by omega, b2, by omega, c2, by omega, ?_⟩
  unfold Own.all Own.na Own.nb
  rw [List.length_append, List.length_take, List.length_take]
  omega
theorem Own.head (h : o.ok) : WOK 1 o.st1 ∧ pos o.st1 = 17 ∧ ∀ T : List UInt8, Agree 1 (pos o.st1) o.st1.1 T → 17 ≤ 8 * T.length → num ⟨T.toArray⟩ 0 1 = .ok (1, 1) ∧ num ⟨T.toArray⟩ 1 2 = .ok (2, 3) ∧ num ⟨T.toArray⟩ 3 5 = .ok (((o.na - 257 : Nat) : Int), 8) ∧
    num ⟨T.toArray⟩ 8 5 = .ok (((o.nb - 1 : Nat) : Int), 13) ∧ num ⟨T.toArray⟩ 13 4 = .ok (((o.ni - 4 : Nat) : Int), 17) := by
  obtain ⟨s1, s2, s3, s4, s5, s6, _⟩ := Own.sizes h
  have h0 : WOK 1 ([], 0) := WOK.zero 1 []
  have h1 := lw_ok h0 1 1
  have h2 := lw_ok h1 2 2
  have h3 := lw_ok h2 (o.na - 257) 5
  have h4 := lw_ok h3 (o.nb - 1) 5
  have p0 : pos (([], 0) : WS) = 0 := rfl
  have p1 : pos (lw ([], 0) 1 1) = 1 := by rw [lw_pos h0, p0]
  have p2 : pos (lw (lw ([], 0) 1 1) 2 2) = 3 := by rw [lw_pos h1, p1]
  have p3 : pos (lw (lw (lw ([], 0) 1 1) 2 2) (o.na - 257) 5) = 8 := by rw [lw_pos h2, p2]
  have p4 : pos (lw (lw (lw (lw ([], 0) 1 1) 2 2) (o.na - 257) 5) (o.nb - 1) 5) = 13 := by rw [lw_pos h3, p3]
  have p5 : pos o.st1 = 17 := by unfold Own.st1; rw [lw_pos h4, p4]
  refine ⟨lw_ok h4 _ _, p5, fun T ha hT => ?_⟩
  unfold Own.st1 at ha
  obtain ⟨e1, e2⟩ := lw_back h4 (v := o.ni - 4) (n := 4) (by show _ < 16; omega) ha
  obtain ⟨d1, d2⟩ := lw_back h3 (v := o.nb - 1) (n := 5) (by show _ < 32; omega) e1
  obtain ⟨c1, c2⟩ := lw_back h2 (v := o.na - 257) (n := 5) (by show _ < 32; omega) d1
  obtain ⟨b1, b2⟩ := lw_back h1 (v := 2) (n := 2) (by decide) c1
  obtain ⟨a1, a2⟩ := lw_back h0 (v := 1) (n := 1) (by decide) b1
  rw [p0] at a2
  rw [p1] at b2
  rw [p2] at c2
  rw [p3] at d2
  rw [p4] at e2
  exact ⟨a2 (by omega), b2 (by omega), c2 (by omega), d2 (by omega), e2 (by omega)⟩
/-- What the head of such a block tells. -/
def Own.H (o : Own) (T : List UInt8) : Prop := num ⟨T.toArray⟩ 0 1 = .ok (1, 1) ∧ num ⟨T.toArray⟩ 1 2 = .ok (2, 3) ∧ dyn ⟨T.toArray⟩ 3 = .ok (o.a.take o.na, o.b.take o.nb, pos o.st3)
theorem Own.read (h : o.ok) : WOK 1 o.st3 ∧ ∀ T : List UInt8, Agree 1 (pos o.st3) o.st3.1 T → pos o.st3 ≤ 8 * T.length → o.H T := by
  obtain ⟨s1, s2, s3, s4, s5, s6, s7⟩ := Own.sizes h
  obtain ⟨k1, k2, k3⟩ := Own.head h
  have hol : (order.take o.ni).length = o.ni := by rw [List.length_take]; show min o.ni 19 = _; omega
  have hall : ∀ i, 0 ≤ o.all.getD i 0 ∧ o.all.getD i 0 ≤ 15 := fun i => by
    unfold Own.all
    rw [List.getD_eq_getElem?_getD]
    by_cases hi : i < (o.a.take o.na).length
    · rw [List.getElem?_append_left hi, ← List.getD_eq_getElem?_getD, o.ta.take]
      exact (chk_lok h.ca).nn i
    · rw [List.getElem?_append_right (by omega), ← List.getD_eq_getElem?_getD, o.tb.take]
      exact (chk_lok h.cb).nn _
  obtain ⟨f1, f2⟩ := marksS_fit hall
  let H0 : List UInt8 → Prop := fun T => num ⟨T.toArray⟩ 0 1 = .ok (1, 1) ∧ num ⟨T.toArray⟩ 1 2 = .ok (2, 3) ∧ num ⟨T.toArray⟩ 3 5 = .ok (((o.na - 257 : Nat) : Int), 8) ∧
    num ⟨T.toArray⟩ 8 5 = .ok (((o.nb - 1 : Nat) : Int), 13) ∧ num ⟨T.toArray⟩ 13 4 = .ok (((o.ni - 4 : Nat) : Int), 17) ∧ lens19 ⟨T.toArray⟩ (order.take o.ni) (List.replicate 19 0) 17 = .ok (o.c, pos o.st2)
  have w2 := fun T l => wO_back h.c7 (order.take o.ni) (T := T) (l := l) k1
  have p2 : pos o.st2 = 17 + 3 * o.ni := by
    have := (w2 [] []).2.1
    rw [k2, hol] at this
    exact this
  have z : EncM H0 o.c o.all.length (pos o.st2) o.st2 [] := ⟨(w2 [] []).1, Nat.le_refl _, fun T ha hT => by
    obtain ⟨_, _, b⟩ := w2 T (List.replicate 19 0)
    obtain ⟨b1, b2⟩ := b ha
    obtain ⟨c1, c2, c3, c4, c5⟩ := k3 T b1 (by omega)
    rw [k2, hol] at b2
    have b3 := b2 (by omega)
    rw [ord_back h.lc o.tc, ← p2] at b3
    exact ⟨⟨c1, c2, c3, c4, c5, b3⟩, 0, by omega, Nat.le_refl _, fun k => rfl⟩⟩
  obtain ⟨e, el⟩ := EncM.all h.cc (marksS o.all) z f1 fun m hm => by rw [h.lc]; exact h.has m hm
  rw [f2] at e
  refine ⟨e.ok, fun T ha hT => ?_⟩
  obtain ⟨⟨c1, c2, c3, c4, c5, c6⟩, i, i1, i2, i3⟩ := e.dec T ha hT
  refine ⟨c1, c2, ?_⟩
  have hfuel := i3 (o.all.length + 1 - i)
  rw [show o.all.length + 1 - i + i = o.all.length + 1 by omega] at hfuel
  have hend : lensF o.c ⟨T.toArray⟩ o.all.length (o.all.length + 1 - i) o.all (pos o.st3) = .ok (o.all, pos o.st3) := by
    rw [show o.all.length + 1 - i = (o.all.length - i) + 1 by omega]
    unfold lensF
    rw [if_pos (Nat.le_refl _)]
  have e3 : (marksS o.all).foldl (wM o.c) o.st2 = o.st3 := rfl
  rw [e3, hend, s7] at hfuel
  unfold dyn
  rw [c3]
  dsimp only
  rw [if_neg (by omega), c4]
  dsimp only
  rw [if_neg (by omega), c5]
  dsimp only
  rw [Int.toNat_natCast, Int.toNat_natCast, Int.toNat_natCast, show o.ni - 4 + 4 = o.ni by omega, c6]
  dsimp only
  rw [if_neg (by rw [h.cc]; simp), show o.na - 257 + 257 = o.na by omega, show o.nb - 1 + 1 = o.nb by omega, hfuel]
  dsimp only
  have ta : (o.a.take o.na).length = o.na := by rw [List.length_take, h.la]; omega
  have tk : o.all.take o.na = o.a.take o.na := by unfold Own.all; exact List.take_left' ta
  have dr : o.all.drop o.na = o.b.take o.nb := by unfold Own.all; exact List.drop_left' ta
  have g256 : o.all.getD 256 0 = o.a.getD 256 0 := by
    unfold Own.all
    rw [List.getD_eq_getElem?_getD, List.getElem?_append_left (by omega), ← List.getD_eq_getElem?_getD, o.ta.take]
  have := h.a256
  have ha0 : chk (o.a.take o.na) = 0 := chk_take o.ta (by rw [h.la]; omega) h.ca
  have hb0 : chk (o.b.take o.nb) = 0 := chk_take o.tb (by rw [h.lb]; omega) h.cb
  rw [if_neg (by rw [g256]; omega), tk, dr, if_neg (by rw [ha0]; simp), if_neg (by rw [hb0]; simp)]
theorem own_gives (h : o.ok) {l : List Prt} (hf : Fit l []) (hh : ∀ p ∈ l, Has o.a o.b p) : Gives (o.T l) (l.foldl addP []) := by
  obtain ⟨r1, r2⟩ := Own.read h
  obtain ⟨s1, s2, s3, s4, s5, s6, s7⟩ := Own.sizes h
  have e := Enc.all h.ca h.cb l (Enc.zero (near := o.a) (far := o.b) r1 r2 rfl) hf hh
  refine e.fin (kind := 2) h.ca (by rw [h.la]; decide) h.a256 rfl fun T hT => ⟨hT.1, hT.2.1, fun most => ?_⟩
  unfold block
  rw [if_neg (by decide), if_neg (by decide), if_pos rfl, hT.2.2]
  dsimp only
  exact signs_congr (fun p => sym_take o.ta (by rw [h.la]; omega) _ p) (fun p => sym_take o.tb (by rw [h.lb]; omega) _ p) most _ _ _
end
/-! ### What is read of a text that gives its data -/
theorem Gives.allR {T out : List UInt8} (h : Gives T out) (hb : out.length ≤ 1048576) {most : Int} (hm : (out.length : Int) ≤ most) : allR ⟨T.toArray⟩ most = (⟨out.toArray⟩, (T.length : Int), 0) := by
  rw [allR_Q (by omega)]
  obtain ⟨q, h1, h2⟩ := (h (min most 1048576).toNat).1 (by omega)
  rw [h1]
  dsimp only
  rw [h2]
theorem Gives.few {T out : List UInt8} (h : Gives T out) (hb : out.length ≤ 1048576) {most : Int} (h0 : 0 ≤ most) (hm : most < (out.length : Int)) : Inf.allR ⟨T.toArray⟩ most = (⟨#[]⟩, 0, 5) := by
  rw [allR_Q h0, (h (min most 1048576).toNat).2 (by omega)]
/-- A part of such a text ends too soon. -/
theorem cut_plain {s : ByteArray} {most : Int} {d : ByteArray} (h : (d, ((s.size : Nat) : Int), 0) = Inf.allR s most) {u : Nat} (hu : u < s.size) : Inf.allR (s.extract 0 u) most = (⟨#[]⟩, 0, 4) := by
  by_cases hm : most < 0
  · unfold Inf.allR at h
    rw [if_pos hm] at h
    have h0 : (0 : Int) = 1 := congrArg (fun z => z.2.2) h
    exact absurd h0 (by decide)
  have hm0 : 0 ≤ most := by omega
  rw [allR_Q hm0] at h
  cases hq : allQ s (min most 1048576).toNat (8 * s.size + 1) [] 0 with
  | error x =>
    rw [hq] at h
    have h0 : x = 0 := (congrArg (fun z => z.2.2) h).symm
    subst h0
    exact absurd rfl (all_er _ _ _ (Nat.zero_le _) (Nat.zero_le _) (by omega) hq)
  | ok z =>
    obtain ⟨o, q⟩ := z
    rw [hq] at h
    obtain ⟨h1, h2⟩ := Prod.mk.inj h
    obtain ⟨h2, _⟩ := Prod.mk.inj h2
    have p1 : Pre (s.extract 0 u) s := ⟨s.data.toList.drop u, by rw [extract_list, List.drop_zero, Nat.sub_zero, List.take_append_drop]⟩
    have p2 : (s.extract 0 u).size = u := by rw [ByteArray.size_extract]; omega
    have hG := g_all s (min most 1048576).toNat (8 * s.size + 1) (fun r => 8 * r.size + 1) [] 0 (by omega) (fun r => by omega)
    rw [allR_Q hm0]
    rcases ((hG _ p1 (Nat.zero_le _)).t o q hq).2 with e | e
    · omega
    · have e2 := e.2
      dsimp only at e2
      rw [e2]
end Inf
end Go.Proofs.Ytjkoafjnmkchdaa

/- What the writers of package bit and of its reference do, call by call. Conditions: the writer is not nil, it holds at most 2^39 bytes. -/
namespace Go.Proofs.Ytjkoafjnmkchdaa
namespace Bit
open Sh
set_option linter.unusedVariables false

/-- The blocks of a writer. -/
def fp (b : Nat) (s : Slc) : Nat → Prop := fun j => j = b ∨ s.own j
/-- What a call may have done to the blocks of a writer. -/
structure Wn (w w' : World) (b : Nat) (s s' : Slc) : Prop where
  ext : Ext (fp b s) w w'
  new : ∀ j, s'.own j → s.own j ∨ w.heap.size ≤ j
theorem Wn.refl (w : World) (b : Nat) (s : Slc) : Wn w w b s s := ⟨Ext.refl _ _, fun _ h => .inl h⟩
theorem Wn.trans {w w1 w2 : World} {b : Nat} {s s1 s2 : Slc} (h : Wn w w1 b s s1) (k : Wn w1 w2 b s1 s2) : Wn w w2 b s s2 :=
  ⟨h.ext.trans k.ext (fun _ h => h) fun i hi hg => hg.elim .inl fun hg => (h.new i hg).elim .inr fun h2 => by omega,
    fun j hj => (k.new j hj).elim (h.new j) fun h2 => .inr (Nat.le_trans h.ext.size h2)⟩
theorem Wn.to {w w1 w2 : World} {b : Nat} {s s1 : Slc} (h : Wn w w1 b s s1) (k : Ext (· = b) w1 w2) : Wn w w2 b s s1 :=
  ⟨h.ext.trans k (fun _ h => h) fun i hi hg => .inl hg, h.new⟩
theorem Wn.to' {w w1 w2 : World} {b : Nat} {s s1 : Slc} (h : Wn w w1 b s s1) (k : Ext (fun _ => False) w1 w2) : Wn w w2 b s s1 :=
  ⟨h.ext.trans k (fun _ h => h) fun i hi hg => hg.elim, h.new⟩

/-- A writer of package bit: its bytes, how many bits of the last are used, the order. -/
structure WrB (w : World) (b : Nat) (s : Slc) (way : Int) (st : List UInt8 × Nat) : Prop where
  blk : Blk w b #[.int .i64 way, .int .i64 ((st.2 : Nat) : Int), Slc.v s] 103
  row : BRow w s st.1
  own : ¬ s.own b
abbrev at1 (b : Nat) : Option Addr := some ⟨b, 0, none⟩

section
variable {w w2 : World} {b : Nat} {s : Slc} {way : Int} {st : List UInt8 × Nat}
theorem WrB.keep {G : Nat → Prop} (h : WrB w b s way st) (he : Ext G w w2) (hn : ∀ j, fp b s j → ¬ G j) : WrB w2 b s way st :=
  ⟨he.blk h.blk (hn b (.inl rfl)), h.row.keep he fun j hj => hn j (.inr hj), h.own⟩
theorem WrB.lt (h : WrB w b s way st) : ∀ j, fp b s j → j < w.heap.size := fun j hj => hj.elim (fun e => e ▸ h.blk.lt) h.row.own_lt
theorem p_place {cs : Array Value} {t : TypeId} {u : Nat} (h : Blk w b cs t) (hu : cs[1]? = some (.int .i64 ((u : Nat) : Int))) (hlt : u < 8) (w' : Int) :
    C86 (at1 b) w' w fun x w1 => x = ((pl w' u : Nat) : Int) ∧ w1 = w := by
  refine T86 _ _ _ _ ?_
  unfold S86
  unfold pl
  by_cases hw : w' = 1
  · simp only [hw, beq_self_eq_true, Br_true]
    exact Nn.of (Ld.of h hu ⟨rfl, trivial⟩)
  · simp only [hw, if_false, beq_eq_false_iff_ne.2 hw, Br_false]
    exact Nn.of (Ld.of h hu ⟨by rw [i64_id (by omega)]; omega, trivial⟩)
theorem p_other {cs : Array Value} {t : TypeId} (h : Blk w b cs t) (hu : cs[0]? = some (.int .i64 way)) (w' : Int) :
    C75 (at1 b) w' w fun x w1 => x = (way != 0 && way != w') ∧ w1 = w := by
  refine T75 _ _ _ _ ?_
  unfold S75
  refine Nn.of (Ld.of h hu (Br_of (fun e => ?_) fun e => ?_))
  · exact Nn.of (Ld.of h hu ⟨by simp [e], rfl⟩)
  · exact ⟨by simp [e], rfl⟩

theorem c_new (w : World) : C36 w fun r w1 => r = at1 w.heap.size ∧ WrB w1 w.heap.size ⟨none, 0, 0⟩ 0 ([], 0) ∧ Ext (fun _ => False) w w1 := by
  refine T36 _ _ ?_
  unfold S36
  refine (Hx.start w (fun _ => False)).nw fun w2 H => ⟨rfl, ⟨H.get 0 rfl, BRow.nil _, ?_⟩, H.ext⟩
  rintro ⟨a, ha, _⟩
  cases ha

theorem last_get {l : List UInt8} (h : l ≠ []) : ∃ x, l[l.length - 1]? = some x ∧ x.toNat = lastN l := by
  have : 0 < l.length := List.length_pos_iff.2 h
  refine ⟨l[l.length - 1], List.getElem?_eq_getElem (by omega), ?_⟩
  unfold lastN
  simp [List.getD, List.getElem?_eq_getElem (show l.length - 1 < l.length by omega)]
theorem newByte {way : Int} (h : WOK way st) {x : Nat} (hx : x ≤ 1) :
    ior .u8 ((lastN (grow st) : Nat) : Int) (IntKind.u8.wrap (IntKind.i64.wrap ((x : Int) * 2 ^ min (((pl way st.2 : Nat) : Int)).toNat 64))) =
      (((UInt8.ofNat (lastN (grow st) + x * 2 ^ pl way st.2)).toNat : Nat) : Int) := by
  obtain ⟨h1, h2, h3⟩ := place_new h hx
  have hlt := h.lt
  have hp : pl way st.2 ≤ 7 := by unfold pl; split <;> omega
  have e : ((x : Int) * 2 ^ min (((pl way st.2 : Nat) : Int)).toNat 64) = ((x * 2 ^ pl way st.2 : Nat) : Int) := by
    rw [Int.toNat_natCast, Nat.min_eq_left (by omega)]
    simp
  rw [e, i64_id (by omega), u8_id (by omega), ior_u8_nat (lastN_lt _) h3, h2, UInt8.toNat_ofNat_of_lt' h1]

theorem c_wone (h : WrB w b s way st) {w' : Int} (hok : WOK w' st) (hsz : st.1.length ≤ 549755813888) {x : Nat} (hx : x ≤ 1) :
    C76 (at1 b) (x : Int) w' w fun w1 => ∃ s', WrB w1 b s' way (oneS w' st x) ∧ Wn w w1 b s s' := by
  refine T76 _ _ _ _ _ ?_
  unfold S76
  obtain ⟨hb, hr, ho⟩ := h
  have hlt := hok.lt
  have H0 : Hx w (fp b s) w _ := Hx.one hb
  refine Nn.of (H0.ld 0 rfl rfl (Br_of (fun e => ?a) fun e => ?b))
  case' a =>
    have e0 : st.2 = 0 := by simpa using e
    refine Nn.of (H0.ld 0 rfl rfl (H0.nw' fun w2 H he => ?_))
    have hr1 := hr.keep he fun _ _ h => h
    obtain ⟨s1, w3, hrun, hrow, hext, hnew⟩ := app_one (ty := 40) (b := 0) hr1 (H.get 1 rfl) (by omega)
    refine ⟨s1, w3, hrun, Nn.of ?_⟩
    have hsub : ∀ j, s.own j → j ∉ [b, w.heap.size] := fun j hj hm => by
      rcases List.mem_cons.1 hm with h | h
      · exact ho (h ▸ hj)
      · have := hr.own_lt hj
        have : j = w.heap.size := by simpa using h
        omega
    have H := H.other hext (fun j hj => hsub j hj) fun j hj => .inl (.inr hj)
    have hf1 : ∀ j, s1.own j → s.own j ∨ w.heap.size ≤ j := fun j hj => (hnew j hj).imp id fun h => Nat.le_trans he.size h
    have ho1 : ¬ s1.own b := fun hj => (hf1 b hj).elim ho fun h => by have := hb.lt; omega
    refine H.st' 0 rfl (by simp) (.inl (.inl rfl)) fun w4 H he4 => ?_
    have hrow := hrow.keep he4 fun j hj e => ho1 (by have e : j = b := e; rw [← e]; exact hj)
    have H := H.only 0 rfl
    have hg : st.1 ++ [0] = grow st := by unfold grow; rw [if_pos e0]
    rw [hg] at hrow
  case' b =>
    have e0 : ¬ st.2 = 0 := by
      have : ¬ ((st.2 : Nat) : Int) = 0 := by simpa using e
      omega
    have hrow : BRow w s (grow st) := by unfold grow; rw [if_neg e0]; exact hr
    have H := H0
    have hf1 : ∀ j, s.own j → s.own j ∨ w.heap.size ≤ j := fun j hj => .inl hj
    have ho1 := ho
  all_goals
    have HD := H.drew
    have hrow := hrow.keep (Ext.refl (fun _ => False) _).drew fun _ _ h => h
    have hlen := hrow.len
    have hgn := grow_ne hok
    have hpos : 0 < (grow st).length := List.length_pos_iff.2 hgn
    have hgl := grow_len st
    obtain ⟨y, hy, hyN⟩ := last_get hgn
    obtain ⟨g, hp, hc⟩ := hrow.get hy
    obtain ⟨g', hp', hcan, hset, he5⟩ := hrow.set (show (grow st).length - 1 < (grow st).length by omega) (UInt8.ofNat (lastN (grow st) + x * 2 ^ pl w' st.2))
    have : g' = g := by rw [hp] at hp'; cases hp'; rfl
    subst this
    refine ⟨fun w3 => w3 = _, rfl, Nn.of (LdS.of (fun w3 e => e ▸ HD.get 0 rfl) rfl (Nn.of (LdS.of (fun w3 e => e ▸ HD.get 0 rfl) rfl ?_)))⟩
    rw [hlen, i64_id (by omega), show ((((grow st).length : Nat) : Int) - 1).toNat * 1 = (grow st).length - 1 by omega, hp]
    refine ⟨by omega, by omega, Nn.of ⟨((lastN (grow st) : Nat) : Int), fun w3 e => by rw [e, add_lit, Nat.zero_add, hc, hyN], Nn.of ((p_place (HD.get 0 rfl) rfl hlt w').mono ?_)⟩⟩
    rintro r w3 ⟨rfl, rfl⟩
    refine ⟨rfl, by omega, by omega, by omega, Nn.of ⟨by rw [add_lit, Nat.zero_add]; exact hcan, Nn.of ?_⟩⟩
    rw [add_lit, Nat.zero_add, newByte hok hx]
    have hgne : g' ≠ b := fun e => ho1 ⟨_, hp, e⟩
    have hgb : ∀ j, j = g' → j ∉ [b] := fun j hj hm => hgne (by rw [← hj]; simpa using hm)
    have H5 := HD.other he5 hgb fun j hj => by rw [hj]; exact (hf1 g' ⟨_, hp, rfl⟩).imp .inr id
    refine H5.ld 0 rfl rfl (Nn.of (H5.st' 0 rfl (by simp) (.inl (.inl rfl)) fun w6 H6 he6 => ?_))
    refine ⟨_, ⟨?_, hset.keep he6 fun j hj e => ho1 (by have e : j = b := e; rw [← e]; exact hj), ho1⟩, H6.ext, hf1⟩
    have := H6.get 0 rfl
    rw [i64_id (by omega), tmod_id (by omega)] at this
    exact this

theorem c_put (h : WrB w b s way st) (hi : WInv way st) (hsz : st.1.length ≤ 274877906944) (v n : Int) {w' : Int} (hw' : w' = 1 ∨ w' = 2) :
    C59 (at1 b) v n w' w fun e w1 => e = (putR way st v n w').1 ∧ ∃ s', WrB w1 b s' (putR way st v n w').2.2 (putR way st v n w').2.1 ∧ Wn w w1 b s s' := by
  refine T59 _ _ _ _ _ _ ?_
  unfold S59
  have no : (n < 0 ∨ 24 < n ∨ v < 0 ∨ 2 ^ n.toNat ≤ v ∨ (way ≠ 0 ∧ way ≠ w')) → (1 : Int) = (putR way st v n w').1 ∧ ∃ s', WrB w b s' (putR way st v n w').2.2 (putR way st v n w').2.1 ∧ Wn w w b s s' := fun hc => by
    rw [putR_arg hc]; exact ⟨rfl, s, h, Wn.refl _ _ _⟩
  refine Br_of (fun e => ?_) fun _ => Br_of (fun e => ?_) fun e1 => Br_of (fun e => ?_) fun e2 => Br_of (fun e => ?_) fun e3 => ⟨by simpa using e1, Br_of (fun e => ?_) fun e4 => ?_⟩
  · cases e
  · exact no (.inl (by simpa using e))
  · exact no (.inr (.inl (by simpa using e)))
  · exact no (.inr (.inr (.inl (by simpa using e))))
  all_goals
    have h0 : ¬ n < 0 := by simpa using e1
    have h24 : n ≤ 24 := by simpa using e2
    have hv0 : ¬ v < 0 := by simpa using e3
    obtain ⟨m, rfl⟩ := Int.eq_ofNat_of_zero_le (show 0 ≤ n by omega)
    obtain ⟨u, rfl⟩ := Int.eq_ofNat_of_zero_le (show 0 ≤ v by omega)
    have hp24 := two_pow_24 (show m ≤ 24 by omega)
    have hpp := two_pow_pos m
    have hwr : IntKind.i64.wrap (1 * 2 ^ min ((m : Int)).toNat 64) = 2 ^ m := by
      rw [Int.toNat_natCast, Nat.min_eq_left (by omega), Int.one_mul, i64_id (by omega)]
  · have e : (2 : Int) ^ m ≤ (u : Int) := by rw [hwr] at e; simpa using e
    exact no (.inr (.inr (.inr (.inl (by rw [Int.toNat_natCast]; exact e)))))
  have hlt : (u : Int) < 2 ^ m := by rw [hwr] at e4; simpa using e4
  refine Nn.of ((p_other h.blk rfl w').mono ?_)
  rintro x w1 ⟨rfl, rfl⟩
  refine Br_of (fun e => ?_) fun e5 => ?_
  · exact no (.inr (.inr (.inr (.inr (by simpa using e)))))
  have hno : ¬ (way ≠ 0 ∧ way ≠ w') := by simpa using e5
  have hall : ¬ ((m : Int) < 0 ∨ 24 < (m : Int) ∨ (u : Int) < 0 ∨ 2 ^ ((m : Int)).toNat ≤ (u : Int) ∨ (way ≠ 0 ∧ way ≠ w')) := by
    rw [Int.toNat_natCast]; omega
  have hok := hi.to hno
  rw [putR_ok hall, Int.toNat_natCast, Int.toNat_natCast]
  have hu24 : u < 16777216 := by omega
  refine ⟨fun k i w3 => ∃ j : Nat, j ≤ m ∧ k = m - j ∧ i = (j : Int) ∧ ∃ s', WrB w3 b s' way (putS w' u m st j) ∧ Wn w1 w3 b s s', m, ⟨0, by omega, by omega, rfl, s, h, Wn.refl _ _ _⟩, ?_⟩
  rintro k i w3 ⟨j, hj, rfl, rfl, s', hb, hn⟩
  unfold S59L1
  have hokj := hok.put u m j
  have hlen := putS_len w' u m st j
  refine Br_of (fun e => ?_) fun e => ?_
  · have hjm : j < m := by simpa using e
    have key : ∀ x : Int, x = ((vbit w' u m j : Nat) : Int) → C76 (at1 b) x w' w3 fun w4 => ∃ n', n' < m - j ∧ ∃ j' : Nat, j' ≤ m ∧ n' = m - j' ∧ IntKind.i64.wrap ((j : Int) + 1) = (j' : Int) ∧ ∃ s', WrB w4 b s' way (putS w' u m st j') ∧ Wn w1 w4 b s s' := fun x hx => by
      rw [hx]
      refine (c_wone hb hokj (by omega) (vbit_le _ _ _ _)).mono ?_
      rintro w4 ⟨s2, hb2, hn2⟩
      exact ⟨m - (j + 1), by omega, j + 1, by omega, rfl, by rw [i64_id (by omega)]; rfl, s2, hb2, hn.trans hn2⟩
    rcases hw' with rfl | rfl
    · simp only [show ((1 : Int) == 2) = false by rfl, Br_false]
      refine ⟨by omega, key _ ?_⟩
      rw [Int.toNat_natCast, Nat.min_eq_left (by omega), vbit_low u j hu24]
      simp [vbit]
    · simp only [beq_self_eq_true, Br_true]
      rw [i64_id (n := (m : Int) - 1) (by omega), i64_id (by omega)]
      refine ⟨by omega, key _ ?_⟩
      rw [show ((m : Int) - 1 - (j : Int)).toNat = m - 1 - j by omega, Nat.min_eq_left (by omega), vbit_low u _ hu24]
      simp [vbit]
  · have hge : j = m := by
      have : ¬ (j : Int) < m := by simpa using e
      omega
    subst hge
    refine Br_of (fun e => ?_) fun e => ?_
    · have hpos : (0 : Int) < j := by simpa using e
      rw [if_pos hpos]
      refine Nn.of ((Hx.one (F := (· = b)) hb.blk).st' 0 rfl (by simp) (.inl rfl) fun w5 H he => ⟨rfl, s', ⟨H.get 0 rfl, hb.row.keep he fun i hi e => hb.own (by have e : i = b := e; rw [← e]; exact hi), hb.own⟩, hn.to he⟩)
    · have hz : ¬ (0 : Int) < j := by simpa using e
      rw [if_neg hz]
      exact ⟨rfl, s', hb, hn⟩
theorem c_wlow (h : WrB w b s way st) (hi : WInv way st) (hsz : st.1.length ≤ 274877906944) (v n : Int) :
    C37 (at1 b) v n w fun e w1 => e = (putR way st v n 1).1 ∧ ∃ s', WrB w1 b s' (putR way st v n 1).2.2 (putR way st v n 1).2.1 ∧ Wn w w1 b s s' :=
  T37 _ _ _ _ _ (c_put h hi hsz v n (.inl rfl))
theorem c_walign (h : WrB w b s way st) : C38 (at1 b) w fun w1 => WrB w1 b s 0 (st.1, 0) ∧ Ext (· = b) w w1 := by
  refine T38 _ _ _ ?_
  unfold S38
  refine Br_of (fun _ => ?_) fun e => by cases e
  refine Nn.of ((Hx.one (F := (· = b)) h.blk).st 0 rfl (by simp) (.inl rfl) fun w2 H => H.st 0 rfl (by simp) (.inl rfl) fun w3 H => ?_)
  exact ⟨⟨H.get 0 rfl, h.row.keep H.ext fun i hi e => h.own (by have e : i = b := e; rw [← e]; exact hi), h.own⟩, H.ext⟩
theorem c_wraw (h : WrB w b s way st) (t : ByteArray) (hsz : st.1.length ≤ 274877906944) (ht : t.size ≤ 274877906944) :
    C39 (at1 b) t w fun w1 => ∃ s', WrB w1 b s' (rawWay way st) (rawS st t) ∧ Wn w w1 b s s' := by
  refine T39 _ _ _ _ ?_
  unfold S39
  have fin : ∀ (w2 : World) (way' : Int), WrB w2 b s way' (st.1, 0) → Ext (· = b) w w2 → ∃ x w3, RunV Try.prog (Builtin.append_ #[40, 9] 40 #[Slc.v s, .string t]) w2 (Slc.v x) w3 ∧
      Nn (at1 b) fun a => St w3 (a.add 2) (Slc.v x) fun w4 => ∃ s', WrB w4 b s' way' (rawS st t) ∧ Wn w w4 b s s' := fun w2 way' h2 he => by
    obtain ⟨s1, w3, hrun, hrow, hext, hnew⟩ := app_str (ty := 40) h2.row t (by show st.1.length + _ ≤ _; omega)
    have ho1 : ¬ s1.own b := fun hj => (hnew b hj).elim h2.own fun hh => by have := h2.blk.lt; omega
    have hoth : ∀ j, s.own j → j ∉ [b] := fun j hj hm => h2.own ((show j = b by simpa using hm) ▸ hj)
    have H := (Hx.one (F := fp b s) h2.blk).other hext hoth fun j hj => .inl (.inr hj)
    refine ⟨s1, w3, hrun, Nn.of (H.st' 0 rfl (by simp) (.inl (.inl rfl)) fun w4 H he4 => ⟨s1, ⟨H.get 0 rfl, hrow.keep he4 fun j hj e => ho1 (by have e : j = b := e; rw [← e]; exact hj), ho1⟩, ?_, ?_⟩)⟩
    · exact he.trans H.ext (fun _ h => .inl h) fun _ _ h => h
    · exact fun j hj => (hnew j hj).imp id fun hh => Nat.le_trans he.size hh
  refine Br_of (fun e => ?_) fun _ => Nn.of ((Hx.one (F := (· = b)) h.blk).ld 0 rfl rfl (Br_of (fun e => ?_) fun e => ?_))
  · cases e
  · have e : (0 : Int) < ((st.2 : Nat) : Int) := by simpa using e
    have e : ¬ st.2 = 0 := by omega
    refine (c_walign h).mono ?_
    rintro w2 ⟨h2, he⟩
    unfold rawWay
    rw [if_neg e]
    exact Nn.of (Ld.of h2.blk rfl (fin w2 0 h2 he))
  · have e : ¬ (0 : Int) < ((st.2 : Nat) : Int) := by simpa using e
    have e : st.2 = 0 := by omega
    unfold rawWay
    rw [if_pos e]
    refine Nn.of (Ld.of h.blk rfl (fin w way ?_ (Ext.refl _ _)))
    obtain ⟨l, u⟩ := st
    simp only at e
    subst e
    exact h
theorem c_clone {l : List UInt8} (h : BRow w s l) (hsz : l.length ≤ 549755813888) : C60 s w fun s' w1 => BRow w1 s' l ∧ Ext (fun _ => False) w w1 := by
  refine T60 _ _ _ ?_
  unfold S60
  refine Br_of (fun e => ?_) fun e => (Hx.start w (fun _ => False)).nw' fun w2 H he => ?_
  · have : l = [] := by
      rcases h.2 with rfl | ⟨g, cur, hp, _⟩
      · exact List.eq_nil_of_length_eq_zero (by have := h.len; simpa using this.symm)
      · rw [hp] at e; cases e
    rw [this]
    exact ⟨BRow.nil _, Ext.refl _ _⟩
  · have hr : BRow w2 ⟨some ⟨w.heap.size, 0, none⟩, 0, 0⟩ [] := ⟨rfl, .inr ⟨_, #[], rfl, H.get 0 rfl, Nat.le_refl _, rfl, rfl⟩⟩
    obtain ⟨s1, w3, hrun, hrow, hext, hnew⟩ := app_row (ty := 40) hr (h.keep he fun _ _ h => h) (by simp; omega)
    refine ⟨s1, w3, hrun, hrow, he.trans hext (fun _ h => h) fun i hi ⟨a, ha, hb⟩ => ?_⟩
    cases ha
    have : w.heap.size = i := hb
    omega
theorem c_wtext (h : WrB w b s way st) (hsz : st.1.length ≤ 549755813888) : C40 (at1 b) w fun x w1 => x = ⟨st.1.toArray⟩ ∧ Ext (fun _ => False) w w1 := by
  refine T40 _ _ _ ?_
  unfold S40
  refine Br_of (fun e => ?_) fun _ => Nn.of (Ld.of h.blk rfl ((c_clone h.row hsz).mono ?_))
  · cases e
  rintro s' w1 ⟨hr, he⟩
  exact ⟨_, w1, str_row hr, rfl, he⟩
end
end Bit
end Go.Proofs.Ytjkoafjnmkchdaa

/- Deflate: stored blocks, both sides. Conditions: sizes. -/
namespace Go.Proofs.Ytjkoafjnmkchdaa
namespace Inf
open Sh Bit
set_option linter.unusedVariables false
set_option linter.unusedSimpArgs false
set_option maxRecDepth 4000
set_option maxHeartbeats 1000000
attribute [local irreducible] Ld St Nw Nn Lt LdS
theorem addLast_push (l : List UInt8) (x : UInt8) (v : Nat) : addLast (l ++ [x]) v = l ++ [UInt8.ofNat (x.toNat + v)] := by
  have h : lastN (l ++ [x]) = x.toNat := by unfold lastN; simp
  unfold addLast
  rw [h, List.length_append]
  simp
theorem vbit1 (v n i : Nat) : vbit 1 v n i = v / 2 ^ i % 2 := by unfold vbit; rw [if_pos rfl]
/-- A byte is written, bit by bit. -/
theorem byte_at {v n m : Nat} {st : WS} {l : List UInt8} (h : putS 1 v n st m = (l, 0)) : ∀ i, i < 8 → putS 1 v n st (m + (i + 1)) = (l ++ [UInt8.ofNat (v / 2 ^ m % 2 ^ (i + 1))], (i + 1) % 8)
  | 0, _ => by
    show oneS 1 (putS 1 v n st m) (vbit 1 v n m) = _
    rw [h, vbit1]
    unfold oneS grow pl
    rw [if_pos rfl, if_pos rfl, addLast_push]
    show (l ++ [UInt8.ofNat (0 + v / 2 ^ m % 2 * 1)], 1) = _
    rw [Nat.zero_add, Nat.mul_one]
  | i + 1, hi => by
    show oneS 1 (putS 1 v n st (m + (i + 1))) (vbit 1 v n (m + (i + 1))) = _
    rw [byte_at h i (by omega), vbit1]
    have hmod : (i + 1) % 8 = i + 1 := Nat.mod_eq_of_lt (by omega)
    unfold oneS grow pl
    dsimp only
    rw [hmod, if_neg (by omega), if_pos rfl, addLast_push]
    have hp : 2 ^ (i + 1) ≤ 2 ^ 7 := Nat.pow_le_pow_right (by omega) (by omega)
    have hlt : v / 2 ^ m % 2 ^ (i + 1) < 256 := by have := Nat.mod_lt (v / 2 ^ m) (show 0 < 2 ^ (i + 1) from Nat.pow_pos (by decide)); omega
    have e : (UInt8.ofNat (v / 2 ^ m % 2 ^ (i + 1))).toNat + v / 2 ^ (m + (i + 1)) % 2 * 2 ^ (i + 1) = v / 2 ^ m % 2 ^ (i + 1 + 1) := by
      rw [of_toNat hlt, Nat.pow_succ (n := 2) (m := i + 1), Nat.mod_mul, Nat.pow_add 2 m (i + 1), Nat.div_div_eq_div_mul, Nat.mul_comm (2 ^ (i + 1)) (_ % 2)]
    rw [e]
/-- 16 bits are two bytes. -/
theorem low16b (l : List UInt8) (v : Nat) : lw (l, 0) v 16 = (l ++ [UInt8.ofNat (v % 256), UInt8.ofNat (v / 256 % 256)], 0) := by
  have h1 := byte_at (v := v) (n := 16) (m := 0) (st := (l, 0)) (l := l) rfl 7 (by decide)
  have h2 := byte_at (v := v) (n := 16) (m := 0 + (7 + 1)) (st := (l, 0)) h1 7 (by decide)
  rw [Nat.pow_zero, Nat.div_one] at h2
  show putS 1 v 16 (l, 0) 16 = _
  rw [show (16 : Nat) = 0 + (7 + 1) + (7 + 1) from rfl]
  rw [show (0 + (7 + 1) + (7 + 1) : Nat) = 16 from rfl] at h2 ⊢
  rw [h2, List.append_assoc]
  rfl
/-- The head of a stored block: three bits, and a new byte. -/
theorem headb (l : List UInt8) {f : Nat} (hf : f ≤ 1) : (lw (lw (l, 0) f 1) 0 2).1 = l ++ [UInt8.ofNat f] := by
  have h1 := byte_at (v := f) (n := 1) (m := 0) (st := (l, 0)) (l := l) rfl 0 (by decide)
  have e1 : lw (l, 0) f 1 = (l ++ [UInt8.ofNat f], 1) := by
    show putS 1 f 1 (l, 0) 1 = _
    rw [show (0 + (0 + 1) : Nat) = 1 from rfl] at h1
    rw [h1, Nat.pow_zero, Nat.div_one, Nat.mod_eq_of_lt (by show f < 2; omega)]
  have z : ∀ k, k ≠ 0 → oneS 1 (l ++ [UInt8.ofNat f], k) (vbit 1 0 2 (k - 1)) = (l ++ [UInt8.ofNat f], (k + 1) % 8) := fun k hk => by
    unfold oneS grow
    rw [vbit1, Nat.zero_div]
    dsimp only
    rw [if_neg hk, Nat.zero_mod, Nat.zero_mul, addLast_push, Nat.add_zero, UInt8.ofNat_toNat]
  rw [e1]
  show (oneS 1 (oneS 1 (l ++ [UInt8.ofNat f], 1) (vbit 1 0 2 0)) (vbit 1 0 2 1)).1 = _
  rw [z 1 (by decide)]
  exact congrArg Prod.fst (z 2 (by decide))
/-- What is written of a string, stored. -/
def stS : Nat → List UInt8 → List UInt8
  | 0, _ => []
  | k + 1, l => if l.length ≤ 65535 then blkS 1 l else blkS 0 (l.take 65535) ++ stS k (l.drop 65535)
def storedT (l : List UInt8) : List UInt8 := stS (l.length + 1) l
theorem storedT_small {l : List UInt8} (h : l.length ≤ 65535) : storedT l = blkS 1 l := by
  unfold storedT stS
  rw [if_pos h]
theorem c_lowN {w : World} {b : Nat} {s : Slc} {way : Int} {st : WS} (h : WrB w b s way st) (hi : WInv way st) (hway : way = 0 ∨ way = 1) (hsz : st.1.length ≤ 274877906944) {v n : Nat} (hv : v < 2 ^ n) (hn : 1 ≤ n) (hn2 : n ≤ 24) :
    C37 (at1 b) (v : Int) (n : Int) w fun e w1 => e = 0 ∧ ∃ s', WrB w1 b s' 1 (lw st v n) ∧ Wn w w1 b s s' := by
  have e2 : ((2 ^ n : Nat) : Int) = 2 ^ n := by simp
  have hp : putR way st (v : Int) (n : Int) 1 = (0, lw st v n, 1) := by
    rw [putR_ok (by rw [Int.toNat_natCast]; omega)]
    simp only [Int.toNat_natCast]
    rw [if_pos (by omega)]
    rfl
  refine (c_wlow h hi hsz (v : Int) (n : Int)).mono ?_
  rw [hp]
  exact fun e w1 h => h
theorem inv1 {way : Int} {st : WS} (hi : WInv way st) (hway : way = 0 ∨ way = 1) (v n : Nat) : WInv 1 (lw st v n) :=
  ⟨(hi.to (by omega)).put _ _ _, fun e => absurd e (by decide)⟩
theorem hd5_eq (f n : Nat) (hn : n ≤ 65535) : hd5 (UInt8.ofNat f) n = [UInt8.ofNat f, UInt8.ofNat (n % 256), UInt8.ofNat (n / 256 % 256), UInt8.ofNat ((65535 - n) % 256), UInt8.ofNat ((65535 - n) / 256 % 256)] := by
  unfold hd5
  rw [show n / 256 % 256 = n / 256 by omega, show (65535 - n) % 256 = 255 - n % 256 by omega, show (65535 - n) / 256 % 256 = 255 - n / 256 by omega]
theorem min_int (n : Nat) : (if (65535 : Int) < ((n : Nat) : Int) then 65535 else ((n : Nat) : Int)) = ((min n 65535 : Nat) : Int) := by
  split <;> omega
/-- foliant/deflate.stored -/
theorem c_stored {S : ByteArray} (hs : S.size ≤ 1048576) (w : World) : C22 S w fun r w1 => r = ⟨(storedT S.data.toList).toArray⟩ ∧ Ext (fun _ => False) w w1 := by
  refine T22 _ _ _ ?_
  unfold S22
  refine (Bit.c_new w).mono ?_
  rintro r w0 ⟨rfl, hW, he0⟩
  have e0 : (size_list S) = (size_list S) := rfl
  refine ⟨fun m rest w3 => ∃ (pre : List UInt8) (sl : Slc) (k : Nat), m = k ∧ rest.size < k ∧ pre ++ stS k rest.data.toList = storedT S.data.toList ∧ pre.length + 2 * rest.size ≤ 2 * S.size ∧ WrB w3 w.heap.size sl 0 (pre, 0) ∧ Wn w0 w3 w.heap.size ⟨none, 0, 0⟩ sl, S.size + 1, ⟨[], _, _, rfl, by omega, by rw [size_list]; rfl, by simp, hW, Wn.refl _ _ _⟩, ?_⟩
  rintro m rest w3 ⟨pre, sl, k, rfl, hk, hpre, hlen, hW, hn⟩
  obtain ⟨k, rfl⟩ : ∃ j, m = j + 1 := ⟨m - 1, by omega⟩
  have hrl := size_list rest
  unfold S22L1
  have fact : ∀ (f : Nat), (f = 1 ∧ rest.size ≤ 65535) ∨ (f = 0 ∧ 65535 < rest.size) → S22J1 (at1 w.heap.size) rest (fun s' w' => ∃ n', n' < k + 1 ∧ ∃ (pre : List UInt8) (sl : Slc) (k : Nat), n' = k ∧ s'.size < k ∧ pre ++ stS k s'.data.toList = storedT S.data.toList ∧ pre.length + 2 * s'.size ≤ 2 * S.size ∧ WrB w' w.heap.size sl 0 (pre, 0) ∧ Wn w0 w' w.heap.size ⟨none, 0, 0⟩ sl)
      (fun r w1 => r = ⟨(storedT S.data.toList).toArray⟩ ∧ Ext (fun _ => False) w w1) (f : Int) w3 := fun f hf => by
    unfold S22J1
    rw [min_int]
    have hc : min rest.size 65535 ≤ 65535 := Nat.min_le_right _ _
    have hc2 : min rest.size 65535 ≤ rest.size := Nat.min_le_left _ _
    generalize hce : min rest.size 65535 = c at hc hc2 ⊢
    refine (c_lowN hW (WInv.zero _) (.inl rfl) (by show pre.length ≤ _; omega) (v := f) (n := 1) (by show f < 2; omega) (by omega) (by omega)).mono ?_
    rintro _ w4 ⟨rfl, s4, W4, n4⟩
    have l4 : (lw (pre, 0) f 1).1.length ≤ pre.length + 1 := by
      have := byte_at (v := f) (n := 1) (m := 0) (st := (pre, 0)) (l := pre) rfl 0 (by decide)
      have e : lw (pre, 0) f 1 = _ := this
      rw [e]; simp
    refine (c_lowN W4 (inv1 (WInv.zero _) (.inl rfl) _ _) (.inr rfl) (by omega) (v := 0) (n := 2) (by decide) (by omega) (by omega)).mono ?_
    rintro _ w5 ⟨rfl, s5, W5, n5⟩
    refine (c_walign W5).mono ?_
    rintro w6 ⟨W6, e6⟩
    rw [headb pre (by omega)] at W6
    refine (c_lowN W6 (WInv.zero _) (.inl rfl) (by simp; omega) (v := c) (n := 16) (by show c < 65536; omega) (by omega) (by omega)).mono ?_
    rintro _ w7 ⟨rfl, s7, W7, n7⟩
    refine Lt.of ?_
    rw [i64_id (by omega), show (65535 : Int) - (c : Int) = ((65535 - c : Nat) : Int) by omega]
    refine (c_lowN W7 (inv1 (WInv.zero _) (.inl rfl) _ _) (.inr rfl) (by rw [low16b]; simp; omega) (v := 65535 - c) (n := 16) (by show 65535 - c < 65536; omega) (by omega) (by omega)).mono ?_
    rintro _ w8 ⟨rfl, s8, W8, n8⟩
    refine (c_walign W8).mono ?_
    rintro w9 ⟨W9, e9⟩
    rw [low16b, low16b] at W9
    have hext : rest.extract 0 ((c : Int)).toNat = rest.extract 0 c := by rw [Int.toNat_natCast]
    have hesz : (rest.extract 0 c).size = c := by rw [ByteArray.size_extract]; omega
    refine ⟨by omega, by omega, Lt.of ?_⟩
    rw [hext]
    refine (c_wraw W9 (rest.extract 0 c) (by simp; omega) (by omega)).mono ?_
    rintro w10 ⟨s10, W10, n10⟩
    have hst : rawS (pre ++ [UInt8.ofNat f] ++ [UInt8.ofNat (c % 256), UInt8.ofNat (c / 256 % 256)] ++ [UInt8.ofNat ((65535 - c) % 256), UInt8.ofNat ((65535 - c) / 256 % 256)], 0) (rest.extract 0 c) = (pre ++ blkS (UInt8.ofNat f) (rest.data.toList.take c), 0) := by
      have e1 : (rest.extract 0 c).data.toList = rest.data.toList.take c := by rw [extract_list, List.drop_zero, Nat.sub_zero]
      have e2 : (rest.data.toList.take c).length = c := by rw [List.length_take]; omega
      unfold rawS blkS
      rw [e1, e2, hd5_eq f c hc]
      simp
    rw [hst] at W10
    have W10 : WrB w10 w.heap.size s10 0 (pre ++ blkS (UInt8.ofNat f) (rest.data.toList.take c), 0) := W10
    have hn10 := (((((((hn.trans n4).trans n5).to e6).trans n7).trans n8).to e9).trans n10)
    have hpl : (pre ++ blkS (UInt8.ofNat f) (rest.data.toList.take c)).length = pre.length + 5 + c := by
      rw [List.length_append, blkS_len, List.length_take]
      omega
    refine ⟨by omega, by omega, Lt.of ?_⟩
    unfold stS at hpre
    refine Br.eq (fun q => ?_) fun q => ?_
    · have hf1 : f = 1 ∧ rest.size ≤ 65535 := by omega
      rw [if_pos (by omega)] at hpre
      have ec : c = rest.size := by omega
      rw [ec, hf1.1, List.take_of_length_le (by omega)] at W10
      have W10 : WrB w10 w.heap.size s10 0 (pre ++ blkS 1 rest.data.toList, 0) := W10
      rw [hpre] at W10
      refine (c_wtext W10 (by dsimp only; rw [← hpre, List.length_append, blkS_len]; omega)).mono ?_
      rintro x w11 ⟨rfl, e11⟩
      refine ⟨rfl, ?_⟩
      refine ((he0.trans hn10.ext (fun _ h => h) fun j hj hg => ?_)).tr e11
      rcases hg with e | ⟨a, ha, _⟩
      · omega
      · cases ha
    · have hf0 : f = 0 ∧ 65535 < rest.size := by omega
      rw [if_neg (by omega)] at hpre
      have ec : c = 65535 := by omega
      have esz : (rest.extract ((c : Int)).toNat rest.size).size = rest.size - 65535 := by rw [ByteArray.size_extract, Int.toNat_natCast]; omega
      refine ⟨k, by omega, pre ++ blkS (UInt8.ofNat f) (rest.data.toList.take c), s10, k, rfl, by rw [esz]; omega, ?_, by rw [esz, hpl]; omega, W10, hn10⟩
      rw [← hpre, Int.toNat_natCast, extract_drop, ec, hf0.1, List.append_assoc]
      rfl
  refine ⟨fun f w4 => w4 = w3 ∧ ∃ f' : Nat, f = (f' : Int) ∧ ((f' = 1 ∧ rest.size ≤ 65535) ∨ (f' = 0 ∧ 65535 < rest.size)), ?_, ?_⟩
  · rintro f _ ⟨rfl, f', rfl, hf⟩
    exact fact f' hf
  · rw [min_int]
    refine Lt.of (Br.eq (fun q => ⟨rfl, 1, rfl, .inl ⟨rfl, by omega⟩⟩) fun q => ⟨rfl, 0, rfl, .inr ⟨rfl, by omega⟩⟩)
end Inf
end Go.Proofs.Ytjkoafjnmkchdaa

/- Deflate: the reference writes stored blocks too. Conditions: sizes. -/
namespace Go.Proofs.Ytjkoafjnmkchdaa
namespace Inf
open Sh Bit
set_option linter.unusedVariables false
set_option linter.unusedSimpArgs false
set_option maxRecDepth 4000
set_option maxHeartbeats 1000000
attribute [local irreducible] Ld St Nw Nn Lt LdS
theorem ixor_not {c : Nat} (hc : c ≤ 65535) : ixor .i64 (-1) (c : Int) = -1 - (c : Int) := by
  have e : ixor .i64 (-1) (c : Int) = IntKind.i64.wrap (((BitVec.ofInt 64 (-1)) ^^^ BitVec.ofInt 64 (c : Int)).toNat : Int) := rfl
  rw [e, show BitVec.ofInt 64 (-1) = BitVec.allOnes 64 by decide, BitVec.allOnes_xor, BitVec.toNat_not, BitVec.ofInt_natCast, BitVec.toNat_ofNat, Nat.mod_eq_of_lt (by omega)]
  have h : ((2 ^ 64 - 1 - c : Nat) : Int) = -1 - (c : Int) + 18446744073709551616 := by omega
  rw [h]
  unfold IntKind.wrap
  simp [IntKind.bits, IntKind.signed]
  omega
theorem u8_ofNat {x : Int} {n : Nat} (h : x % 256 = (n : Int)) (hn : n < 256) : IntKind.u8.wrap x = ((UInt8.ofNat n).toNat : Int) := by
  rw [of_toNat hn]
  unfold IntKind.wrap
  simp [IntKind.bits, IntKind.signed]
  omega
/-- foliant/foliantref12.All -/
theorem r_AllS {S : ByteArray} {lv : Int} (h0 : 0 ≤ lv) (h2 : lv ≤ 2) (hs : S.size ≤ 1048576) (w : World) : C15 S lv w fun r e w1 => r = ⟨(storedT S.data.toList).toArray⟩ ∧ e = 0 ∧ Ext (fun _ => False) w w1 := by
  refine T15 _ _ _ _ ?_
  unfold S15
  refine Br.dec (fun q => absurd q (by omega)) fun _ => Br.dec (fun q => absurd q (by omega)) fun _ => Br.dec (fun q => absurd q (by omega)) fun _ => ?_
  refine ⟨fun m st w3 => ∃ (pre : List UInt8), st.1.size < m ∧ pre ++ stS m st.1.data.toList = storedT S.data.toList ∧ pre.length + 2 * st.1.size ≤ 2 * S.size ∧ BRow w3 st.2 pre ∧ Ext (fun _ => False) w w3 ∧ ∀ j, st.2.own j → w.heap.size ≤ j, S.size + 1, ⟨[], by dsimp only; omega, by rw [size_list]; rfl, by simp, BRow.nil _, Ext.refl _ _, fun j hj => by obtain ⟨a, ha, _⟩ := hj; cases ha⟩, ?_⟩
  rintro m ⟨rest, sl⟩ w3 ⟨pre, hk, hpre, hlen, hr, he, ho⟩
  simp only at hk hpre hlen hr ho
  obtain ⟨k, rfl⟩ : ∃ j, m = j + 1 := ⟨m - 1, by omega⟩
  have hrl := size_list rest
  unfold S15L1
  have fact : ∀ (f : Nat), (f = 1 ∧ rest.size ≤ 65535) ∨ (f = 0 ∧ 65535 < rest.size) → S15J1 (rest, sl) (fun s' w' => ∃ n', n' < k + 1 ∧ ∃ (pre : List UInt8), s'.1.size < n' ∧ pre ++ stS n' s'.1.data.toList = storedT S.data.toList ∧ pre.length + 2 * s'.1.size ≤ 2 * S.size ∧ BRow w' s'.2 pre ∧ Ext (fun _ => False) w w' ∧ ∀ j, s'.2.own j → w.heap.size ≤ j)
      (fun r e w1 => r = ⟨(storedT S.data.toList).toArray⟩ ∧ e = 0 ∧ Ext (fun _ => False) w w1) (f : Int) w3 := fun f hf => by
    unfold S15J1
    dsimp only
    rw [min_int]
    have hc : min rest.size 65535 ≤ 65535 := Nat.min_le_right _ _
    have hc2 : min rest.size 65535 ≤ rest.size := Nat.min_le_left _ _
    generalize hce : min rest.size 65535 = c at hc hc2 ⊢
    refine Lt.of (Lt.of (Lt.of (Lt.of ?_)))
    rw [ixor_not hc, Int.fdiv_eq_ediv_of_nonneg _ (by decide), Int.fdiv_eq_ediv_of_nonneg _ (by decide), show ((2 : Int) ^ 8) = 256 by decide]
    rw [u8_ofNat (x := (c : Int)) (n := c % 256) (by omega) (by omega), u8_ofNat (x := (c : Int) / 256) (n := c / 256) (by omega) (by omega), u8_ofNat (x := -1 - (c : Int)) (n := 255 - c % 256) (by omega) (by omega), u8_ofNat (x := (-1 - (c : Int)) / 256) (n := 255 - c / 256) (by omega) (by omega),
      show ((f : Nat) : Int) = ((UInt8.ofNat f).toNat : Int) by rw [of_toNat (by omega)]]
    refine Nw.of ?_
    have e1 := (Ext.refl (fun _ => False) w3).alloc (.cells (bcs (hd5 (UInt8.ofNat f) c)).toArray 5)
    have z3 := he.size
    have z4 := e1.size
    have hr1 := hr.keep e1 fun _ _ h => h
    have hblk : BRow (w3.alloc (.cells (bcs (hd5 (UInt8.ofNat f) c)).toArray 5)) ⟨some ⟨w3.heap.size, 0, none⟩, 5, 5⟩ (hd5 (UInt8.ofNat f) c) := ⟨rfl, .inr ⟨_, _, rfl, Blk.new w3 _ _, Nat.le_refl _, rfl, rfl⟩⟩
    obtain ⟨s1, w5, hrun, hrow, hext, hown⟩ := app_row (ty := 40) hr1 hblk (by unfold hd5; simp; omega)
    refine ⟨s1, w5, hrun, ?_⟩
    have he5 : Ext (fun _ => False) w w5 := (he.tr e1).trans hext (fun _ h => h) fun j hj e => by have := ho j e; omega
    have ho5 : ∀ j, s1.own j → w.heap.size ≤ j := fun j hj => by
      rcases hown j hj with e | e
      · exact ho j e
      · omega
    have z5 := he5.size
    have hesz : (rest.extract 0 c).size = c := by rw [ByteArray.size_extract]; omega
    refine ⟨by omega, by omega, Lt.of ?_⟩
    rw [show ((c : Int)).toNat = c by rw [Int.toNat_natCast]]
    obtain ⟨s2, w6, hrun, hrow, hext, hown⟩ := app_str (ty := 40) hrow (rest.extract 0 c) (by rw [hesz, List.length_append]; unfold hd5; simp; omega)
    refine ⟨s2, w6, hrun, ?_⟩
    have he6 : Ext (fun _ => False) w w6 := he5.trans hext (fun _ h => h) fun j hj e => by have := ho5 j e; omega
    have ho6 : ∀ j, s2.own j → w.heap.size ≤ j := fun j hj => by
      rcases hown j hj with e | e
      · exact ho5 j e
      · omega
    have e1 : (rest.extract 0 c).data.toList = rest.data.toList.take c := by rw [extract_list, List.drop_zero, Nat.sub_zero]
    have e2 : (rest.data.toList.take c).length = c := by rw [List.length_take]; omega
    have hst : pre ++ hd5 (UInt8.ofNat f) c ++ (rest.extract 0 c).data.toList = pre ++ blkS (UInt8.ofNat f) (rest.data.toList.take c) := by
      unfold blkS
      rw [e1, e2, List.append_assoc]
    rw [hst] at hrow
    have hpl : (pre ++ blkS (UInt8.ofNat f) (rest.data.toList.take c)).length = pre.length + 5 + c := by
      rw [List.length_append, blkS_len, e2]
      omega
    refine ⟨by omega, by omega, Lt.of ?_⟩
    unfold stS at hpre
    have hfn : ((UInt8.ofNat f).toNat : Int) = (f : Int) := by rw [of_toNat (by omega)]
    rw [hfn]
    refine Br.eq (fun q => ?_) fun q => ?_
    · have hf1 : f = 1 ∧ rest.size ≤ 65535 := by omega
      rw [if_pos (by omega)] at hpre
      have ec : c = rest.size := by omega
      rw [ec, hf1.1, List.take_of_length_le (by omega)] at hrow
      have hrow : BRow w6 s2 (pre ++ blkS 1 rest.data.toList) := hrow
      rw [hpre] at hrow
      exact ⟨_, w6, str_row hrow, rfl, rfl, he6⟩
    · have hf0 : f = 0 ∧ 65535 < rest.size := by omega
      rw [if_neg (by omega)] at hpre
      have ec : c = 65535 := by omega
      have esz : (rest.extract c rest.size).size = rest.size - 65535 := by rw [ByteArray.size_extract]; omega
      refine ⟨k, by omega, pre ++ blkS (UInt8.ofNat f) (rest.data.toList.take c), by rw [esz]; omega, ?_, by rw [esz, hpl]; omega, hrow, he6, ho6⟩
      rw [← hpre, extract_drop, ec, hf0.1, List.append_assoc]
      rfl
  refine ⟨fun f w4 => w4 = w3 ∧ ∃ f' : Nat, f = (f' : Int) ∧ ((f' = 1 ∧ rest.size ≤ 65535) ∨ (f' = 0 ∧ 65535 < rest.size)), ?_, ?_⟩
  · rintro f _ ⟨rfl, f', rfl, hf⟩
    exact fact f' hf
  · dsimp only
    rw [min_int]
    refine Lt.of (Br.eq (fun q => ⟨rfl, 1, rfl, .inl ⟨rfl, by omega⟩⟩) fun q => ⟨rfl, 0, rfl, .inr ⟨rfl, by omega⟩⟩)
end Inf
end Go.Proofs.Ytjkoafjnmkchdaa

/- The copy of a string: what it is said to be. No condition. -/
namespace Go.Proofs.Ytjkoafjnmkchdaa
open Sh
set_option linter.unusedVariables false
def C50 (s1 : ByteArray) (w : World) (R : ByteArray → World → Prop) : Prop :=
  Calls Try.prog 50 #[.string s1] w fun e w' => ∃ r0 : ByteArray, e = .returned (.string r0) ∧ R r0 w'
theorem C50.mono {s1 : ByteArray} {w : World} {R R' : ByteArray → World → Prop} (h : C50 s1 w R) (hr : ∀ r0 w', R r0 w' → R' r0 w') : C50 s1 w R' :=
  Calls.mono h fun _ _ ⟨r0, he, hR⟩ => ⟨r0, he, hr _ _ hR⟩
end Go.Proofs.Ytjkoafjnmkchdaa

/- The formulas of 9 functions of the program, written by program (gen.py); the kernel checks each. No condition. -/
namespace Go.Proofs.Ytjkoafjnmkchdaa
open Sh
set_option linter.unusedVariables false
set_option maxRecDepth 100000

def C43 (p1 : Option Addr × Option Addr) (vw2 : Option Addr) (l3 : Slc) (w : World) (R : World → Prop) : Prop :=
  Calls Try.prog 43 #[.agg #[.pointer p1.1, .pointer p1.2], .pointer vw2, Slc.v l3] w fun e w' => e = .returned (.tuple #[]) ∧ R w'
theorem C43.mono {p1 : Option Addr × Option Addr} {vw2 : Option Addr} {l3 : Slc} {w : World} {R R' : World → Prop} (h : C43 p1 vw2 l3 w R) (hr : ∀ w', R w' → R' w') : C43 p1 vw2 l3 w R' :=
  Calls.mono h fun _ _ ⟨he, hR⟩ => ⟨he, hr _ hR⟩
def C23 (l1 : Slc) (w : World) (R : ByteArray → World → Prop) (PR : Value → World → Prop) : Prop :=
  Calls Try.prog 23 #[Slc.v l1] w fun e w' => (∃ r0 : ByteArray, e = .returned (.string r0) ∧ R r0 w') ∨ ∃ v, e = .panicked (onePanic v) ∧ PR v w'
theorem C23.mono {l1 : Slc} {w : World} {R R' : ByteArray → World → Prop} {PR PR' : Value → World → Prop} (h : C23 l1 w R PR) (hr : ∀ r0 w', R r0 w' → R' r0 w') (hp : ∀ v w', PR v w' → PR' v w') : C23 l1 w R' PR' :=
  Calls.mono h fun _ _ he => he.elim (fun ⟨r0, he, hR⟩ => .inl ⟨r0, he, hr _ _ hR⟩) fun ⟨v, he, hP⟩ => .inr ⟨v, he, hp _ _ hP⟩
def C44 (l1 : Slc) (w : World) (R : Slc → Slc → World → Prop) : Prop :=
  Calls Try.prog 44 #[Slc.v l1] w fun e w' => ∃ r0 : Slc, ∃ r1 : Slc, e = .returned (.tuple #[Slc.v r0, Slc.v r1]) ∧ R r0 r1 w'
theorem C44.mono {l1 : Slc} {w : World} {R R' : Slc → Slc → World → Prop} (h : C44 l1 w R) (hr : ∀ r0 r1 w', R r0 r1 w' → R' r0 r1 w') : C44 l1 w R' :=
  Calls.mono h fun _ _ ⟨r0, r1, he, hR⟩ => ⟨r0, r1, he, hr _ _ _ hR⟩
def C46 (l1 : Slc) (keep2 : Int) (w : World) (R : Slc → World → Prop) : Prop :=
  Calls Try.prog 46 #[Slc.v l1, .int .i64 keep2] w fun e w' => ∃ r0 : Slc, e = .returned (Slc.v r0) ∧ R r0 w'
theorem C46.mono {l1 : Slc} {keep2 : Int} {w : World} {R R' : Slc → World → Prop} (h : C46 l1 keep2 w R) (hr : ∀ r0 w', R r0 w' → R' r0 w') : C46 l1 keep2 w R' :=
  Calls.mono h fun _ _ ⟨r0, he, hR⟩ => ⟨r0, he, hr _ _ hR⟩
def C47 (l1 : Slc) (w : World) (R : Slc → World → Prop) : Prop :=
  Calls Try.prog 47 #[Slc.v l1] w fun e w' => ∃ r0 : Slc, e = .returned (Slc.v r0) ∧ R r0 w'
theorem C47.mono {l1 : Slc} {w : World} {R R' : Slc → World → Prop} (h : C47 l1 w R) (hr : ∀ r0 w', R r0 w' → R' r0 w') : C47 l1 w R' :=
  Calls.mono h fun _ _ ⟨r0, he, hR⟩ => ⟨r0, he, hr _ _ hR⟩
def C48 (w : World) (R : (Int × Int × Int × Int × Int × Int × Int × Int × Int × Int × Int × Int × Int × Int × Int × Int × Int × Int × Int) → World → Prop) : Prop :=
  Calls Try.prog 48 #[] w fun e w' => ∃ r0 : Int × Int × Int × Int × Int × Int × Int × Int × Int × Int × Int × Int × Int × Int × Int × Int × Int × Int × Int, e = .returned (.agg #[.int .i64 (r0.1), .int .i64 (r0.2.1), .int .i64 (r0.2.2.1), .int .i64 (r0.2.2.2.1), .int .i64 (r0.2.2.2.2.1), .int .i64 (r0.2.2.2.2.2.1), .int .i64 (r0.2.2.2.2.2.2.1), .int .i64 (r0.2.2.2.2.2.2.2.1), .int .i64 (r0.2.2.2.2.2.2.2.2.1), .int .i64 (r0.2.2.2.2.2.2.2.2.2.1), .int .i64 (r0.2.2.2.2.2.2.2.2.2.2.1), .int .i64 (r0.2.2.2.2.2.2.2.2.2.2.2.1), .int .i64 (r0.2.2.2.2.2.2.2.2.2.2.2.2.1), .int .i64 (r0.2.2.2.2.2.2.2.2.2.2.2.2.2.1), .int .i64 (r0.2.2.2.2.2.2.2.2.2.2.2.2.2.2.1), .int .i64 (r0.2.2.2.2.2.2.2.2.2.2.2.2.2.2.2.1), .int .i64 (r0.2.2.2.2.2.2.2.2.2.2.2.2.2.2.2.2.1), .int .i64 (r0.2.2.2.2.2.2.2.2.2.2.2.2.2.2.2.2.2.1), .int .i64 (r0.2.2.2.2.2.2.2.2.2.2.2.2.2.2.2.2.2.2)]) ∧ R r0 w'
theorem C48.mono {w : World} {R R' : (Int × Int × Int × Int × Int × Int × Int × Int × Int × Int × Int × Int × Int × Int × Int × Int × Int × Int × Int) → World → Prop} (h : C48 w R) (hr : ∀ r0 w', R r0 w' → R' r0 w') : C48 w R' :=
  Calls.mono h fun _ _ ⟨r0, he, hR⟩ => ⟨r0, he, hr _ _ hR⟩
def C24 (l1 : Slc) (w : World) (R : ByteArray → World → Prop) (PR : Value → World → Prop) : Prop :=
  Calls Try.prog 24 #[Slc.v l1] w fun e w' => (∃ r0 : ByteArray, e = .returned (.string r0) ∧ R r0 w') ∨ ∃ v, e = .panicked (onePanic v) ∧ PR v w'
theorem C24.mono {l1 : Slc} {w : World} {R R' : ByteArray → World → Prop} {PR PR' : Value → World → Prop} (h : C24 l1 w R PR) (hr : ∀ r0 w', R r0 w' → R' r0 w') (hp : ∀ v w', PR v w' → PR' v w') : C24 l1 w R' PR' :=
  Calls.mono h fun _ _ he => he.elim (fun ⟨r0, he, hR⟩ => .inl ⟨r0, he, hr _ _ hR⟩) fun ⟨v, he, hP⟩ => .inr ⟨v, he, hp _ _ hP⟩
def C25 (s1 : ByteArray) (w : World) (R : ByteArray → World → Prop) : Prop :=
  Calls Try.prog 25 #[.string s1] w fun e w' => ∃ r0 : ByteArray, e = .returned (.string r0) ∧ R r0 w'
theorem C25.mono {s1 : ByteArray} {w : World} {R R' : ByteArray → World → Prop} (h : C25 s1 w R) (hr : ∀ r0 w', R r0 w' → R' r0 w') : C25 s1 w R' :=
  Calls.mono h fun _ _ ⟨r0, he, hR⟩ => ⟨r0, he, hr _ _ hR⟩
def C9 (s1 : ByteArray) (level2 : Int) (w : World) (R : ByteArray → Int → World → Prop) (PR : Value → World → Prop) : Prop :=
  Calls Try.prog 9 #[.string s1, .int .i64 level2] w fun e w' => (∃ r0 : ByteArray, ∃ r1 : Int, e = .returned (.tuple #[.string r0, .int .i64 r1]) ∧ R r0 r1 w') ∨ ∃ v, e = .panicked (onePanic v) ∧ PR v w'
theorem C9.mono {s1 : ByteArray} {level2 : Int} {w : World} {R R' : ByteArray → Int → World → Prop} {PR PR' : Value → World → Prop} (h : C9 s1 level2 w R PR) (hr : ∀ r0 r1 w', R r0 r1 w' → R' r0 r1 w') (hp : ∀ v w', PR v w' → PR' v w') : C9 s1 level2 w R' PR' :=
  Calls.mono h fun _ _ he => he.elim (fun ⟨r0, r1, he, hR⟩ => .inl ⟨r0, r1, he, hr _ _ _ hR⟩) fun ⟨v, he, hP⟩ => .inr ⟨v, he, hp _ _ hP⟩

def S43L1 (w : World) (vw2 : Option Addr) (l3 : Slc) (R : World → Prop) (I7 : Int → World → Prop) (s5 : Int) (vw6 : World) : Prop :=
  Br (decide (s5 < ((l3.len : Nat) : Int))) (0 ≤ s5 ∧ s5 < (l3.len : Nat) ∧ Nn l3.p fun a8 =>
    Ld vw6 (a8.add ((s5).toNat * 3)) (Value.int .u8) fun (x9 : Int) =>
    Ld vw6 ((a8.add ((s5).toNat * 3)).add 1) (Value.int .i64) fun (x10 : Int) =>
    Ld vw6 ((a8.add ((s5).toNat * 3)).add 2) (Value.int .i64) fun (x11 : Int) =>
    Nw vw6 (.cells #[.int .u8 0, .int .i64 0, .int .i64 0] 34) fun vw12 =>
    St vw12 (⟨vw6.heap.size, 0, none⟩ : Addr) (.int .u8 x9) fun vw13 =>
    St vw13 ((⟨vw6.heap.size, 0, none⟩ : Addr).add 1) (.int .i64 x10) fun vw14 =>
    St vw14 ((⟨vw6.heap.size, 0, none⟩ : Addr).add 2) (.int .i64 x11) fun vw15 =>
    Ld vw15 ((⟨vw6.heap.size, 0, none⟩ : Addr).add 1) (Value.int .i64) fun (x21 : Int) =>
    Br (x21 == 0) (Ld vw15 (⟨w.heap.size, 0, none⟩ : Addr) Value.pointer fun (x22 : Option Addr) =>
      Ld vw15 (⟨vw6.heap.size, 0, none⟩ : Addr) (Value.int .u8) fun (x23 : Int) =>
      C49 x22 vw2 (IntKind.i64.wrap x23) vw15 fun r24 vw25 =>
        I7 (IntKind.i64.wrap (s5 + 1)) vw25) (Ld vw15 ((⟨vw6.heap.size, 0, none⟩ : Addr).add 1) (Value.int .i64) fun (x26 : Int) =>
      C16 x26 vw15 fun r27 r28 r29 r30 vw31 =>
        Ld vw31 (⟨w.heap.size, 0, none⟩ : Addr) Value.pointer fun (x32 : Option Addr) =>
        C49 x32 vw2 r27 vw31 fun r33 vw34 =>
          C37 vw2 r28 r29 vw34 fun r35 vw36 =>
            Ld vw36 ((⟨vw6.heap.size, 0, none⟩ : Addr).add 2) (Value.int .i64) fun (x37 : Int) =>
            C18 x37 vw36 fun r38 r39 r40 r41 vw42 =>
              Ld vw42 ((⟨w.heap.size, 0, none⟩ : Addr).add 1) Value.pointer fun (x43 : Option Addr) =>
              C49 x43 vw2 r38 vw42 fun r44 vw45 =>
                C37 vw2 r39 r40 vw45 fun r46 vw47 =>
                  I7 (IntKind.i64.wrap (s5 + 1)) vw47)) (Ld vw6 (⟨w.heap.size, 0, none⟩ : Addr) Value.pointer fun (x48 : Option Addr) =>
    C49 x48 vw2 256 vw6 fun r49 vw50 =>
      R vw50)
/-- (foliant/deflate.pair).write -/
def S43 (p1 : Option Addr × Option Addr) (vw2 : Option Addr) (l3 : Slc) (w : World) (R : World → Prop) : Prop :=
  Nw w (.cells #[.pointer p1.1, .pointer p1.2] 77) fun vw4 =>
  Lp (σ := Int) (S43L1 w vw2 l3 R) 0 vw4
def pl43 : Plan := (.seq (.reg .seq) (.seq (.seq (.reg .seq) (.block (.loop [(14, (.one (.int .i64)))] [1, 3, 12, 13] (.seq (.reg .seq) (.seq (.cond .leaf .leaf) (.seq (.block (.seq (.reg .seq) (.seq (.seq (.reg .seq) (.cond (.seq (.reg .seq) .leaf) .leaf)) (.seq (.reg .seq) (.seq (.reg .seq) (.seq (.reg .seq) (.seq (.reg .seq) (.seq (.reg .seq) (.reg .seq))))))))) (.reg .seq))))))) (.reg .seq)))
set_option maxRecDepth 100000 in
theorem T43 (p1 : Option Addr × Option Addr) (vw2 : Option Addr) (l3 : Slc) (w : World) (R : World → Prop) (h : S43 p1 vw2 l3 w R) : C43 (p1.1, p1.2) vw2 l3 w R := by
  have e : fnT Try.prog ⟨FF, MAY, (fun _ _ => False)⟩ pl43 Try.f43 [.agg #[.pointer p1.1, .pointer p1.2], .pointer vw2, Slc.v l3] w [] (fun _ w => R w) = S43 p1 vw2 l3 w R := by kernel_rfl
  exact (fn_calls okF okM Try.func43 (by kernel_rfl) (by kernel_rfl) (e.mpr h)).mono fun _ _ ⟨_, he, hR⟩ => ⟨he, hR⟩

/-- foliant/deflate.fixed -/
def S23 (l1 : Slc) (w : World) (R : ByteArray → World → Prop) (PR : Value → World → Prop) : Prop :=
  C41 w (fun r2 r3 vw4 =>
    Nw vw4 (.cells #[.pointer none, .pointer none] 77) fun vw5 =>
    C42 r2 vw5 fun r6 r7 vw8 =>
      St vw8 (⟨vw4.heap.size, 0, none⟩ : Addr) (.pointer r6) fun vw9 =>
      C42 r3 vw9 fun r10 r11 vw12 =>
        St vw12 ((⟨vw4.heap.size, 0, none⟩ : Addr).add 1) (.pointer r10) fun vw13 =>
        C36 vw13 fun r14 vw15 =>
          C37 r14 1 1 vw15 fun r16 vw17 =>
            C37 r14 1 2 vw17 fun r18 vw19 =>
              Ld vw19 (⟨vw4.heap.size, 0, none⟩ : Addr) Value.pointer fun (x20 : Option Addr) =>
              Ld vw19 ((⟨vw4.heap.size, 0, none⟩ : Addr).add 1) Value.pointer fun (x21 : Option Addr) =>
              C43 (x20, x21) r14 l1 vw19 fun vw22 =>
                C40 r14 vw22 fun r23 vw24 =>
                  R r23 vw24) PR
def pl23 : Plan := (.seq (.reg .seq) (.seq (.reg .seq) (.seq (.reg .seq) (.seq (.reg .seq) (.seq (.reg .seq) (.seq (.reg .seq) (.seq (.reg .seq) (.seq (.reg .seq) (.seq (.reg .seq) (.seq (.reg .seq) .leaf))))))))))
set_option maxRecDepth 100000 in
theorem T23 (l1 : Slc) (w : World) (R : ByteArray → World → Prop) (PR : Value → World → Prop) (h : S23 l1 w R PR) : C23 l1 w R PR := by
  have e : fnT Try.prog ⟨FF, MAY, PR⟩ pl23 Try.f23 [Slc.v l1] w [(.one .str)] (fun s w => R s w) = S23 l1 w R PR := by kernel_rfl
  exact (fn_callsP okF okM Try.func23 (by kernel_rfl) (by kernel_rfl) (e.mpr h)).mono fun _ _ he => he.elim (fun ⟨s, he, hR⟩ => .inl ⟨s, he, hR⟩) .inr

def S44L1 (l1 : Slc) (s10 : Slc × Slc) (R : Slc → Slc → World → Prop) (I16 : Int → World → Prop) (s14 : Int) (vw15 : World) : Prop :=
  Br (decide (s14 < ((l1.len : Nat) : Int))) (0 ≤ s14 ∧ s14 < (l1.len : Nat) ∧ Nn l1.p fun a17 =>
    Ld vw15 (a17.add ((s14).toNat * 3)) (Value.int .u8) fun (x18 : Int) =>
    Ld vw15 ((a17.add ((s14).toNat * 3)).add 1) (Value.int .i64) fun (x19 : Int) =>
    Ld vw15 ((a17.add ((s14).toNat * 3)).add 2) (Value.int .i64) fun (x20 : Int) =>
    Nw vw15 (.cells #[.int .u8 0, .int .i64 0, .int .i64 0] 34) fun vw21 =>
    St vw21 (⟨vw15.heap.size, 0, none⟩ : Addr) (.int .u8 x18) fun vw22 =>
    St vw22 ((⟨vw15.heap.size, 0, none⟩ : Addr).add 1) (.int .i64 x19) fun vw23 =>
    St vw23 ((⟨vw15.heap.size, 0, none⟩ : Addr).add 2) (.int .i64 x20) fun vw24 =>
    Ld vw24 ((⟨vw15.heap.size, 0, none⟩ : Addr).add 1) (Value.int .i64) fun (x31 : Int) =>
    Br (x31 == 0) (Ld vw24 (⟨vw15.heap.size, 0, none⟩ : Addr) (Value.int .u8) fun (x32 : Int) =>
      0 ≤ x32 ∧ x32 < (s10.1.len : Nat) ∧ Nn s10.1.p fun a33 =>
      Ld vw24 (a33.add ((x32).toNat * 1)) (Value.int .i64) fun (x34 : Int) =>
      0 ≤ x32 ∧ x32 < (s10.1.len : Nat) ∧ Nn s10.1.p fun a35 =>
      St vw24 (a35.add ((x32).toNat * 1)) (.int .i64 (IntKind.i64.wrap (x34 + 1))) fun vw36 =>
      I16 (IntKind.i64.wrap (s14 + 1)) vw36) (Ld vw24 ((⟨vw15.heap.size, 0, none⟩ : Addr).add 1) (Value.int .i64) fun (x37 : Int) =>
      C16 x37 vw24 fun r38 r39 r40 r41 vw42 =>
        Ld vw42 ((⟨vw15.heap.size, 0, none⟩ : Addr).add 2) (Value.int .i64) fun (x43 : Int) =>
        C18 x43 vw42 fun r44 r45 r46 r47 vw48 =>
          0 ≤ r38 ∧ r38 < (s10.1.len : Nat) ∧ Nn s10.1.p fun a49 =>
          Ld vw48 (a49.add ((r38).toNat * 1)) (Value.int .i64) fun (x50 : Int) =>
          0 ≤ r38 ∧ r38 < (s10.1.len : Nat) ∧ Nn s10.1.p fun a51 =>
          St vw48 (a51.add ((r38).toNat * 1)) (.int .i64 (IntKind.i64.wrap (x50 + 1))) fun vw52 =>
          0 ≤ r44 ∧ r44 < (s10.2.len : Nat) ∧ Nn s10.2.p fun a53 =>
          Ld vw52 (a53.add ((r44).toNat * 1)) (Value.int .i64) fun (x54 : Int) =>
          0 ≤ r44 ∧ r44 < (s10.2.len : Nat) ∧ Nn s10.2.p fun a55 =>
          St vw52 (a55.add ((r44).toNat * 1)) (.int .i64 (IntKind.i64.wrap (x54 + 1))) fun vw56 =>
          I16 (IntKind.i64.wrap (s14 + 1)) vw56)) (R s10.1 s10.2 vw15)
def S44J1 (l1 : Slc) (R : Slc → Slc → World → Prop) (s10 : Slc × Slc) (vw11 : World) : Prop :=
  0 ≤ (256 : Int) ∧ (256 : Int) < (s10.1.len : Nat) ∧ Nn s10.1.p fun a12 =>
  St vw11 (a12.add (((256 : Int)).toNat * 1)) (.int .i64 1) fun vw13 =>
  Lp (σ := Int) (S44L1 l1 s10 R) 0 vw13
/-- foliant/deflate.counted -/
def S44 (l1 : Slc) (w : World) (R : Slc → Slc → World → Prop) : Prop :=
  Join (S44J1 l1 R) fun (vJ57 : (Slc × Slc) → World → Prop) =>
    (Rn Try.prog (Instr.makeSlice 72 (.int .i64 286) (.int .i64 286)) w.drew Slc.v fun (x58 : Slc) vw59 =>
      Rn Try.prog (Instr.makeSlice 72 (.int .i64 30) (.int .i64 30)) vw59 Slc.v fun (x60 : Slc) vw61 =>
      vJ57 (x58, x60) vw61) ∧
    (Rn Try.prog (Instr.makeSlice 72 (.int .i64 30) (.int .i64 30)) w.drew Slc.v fun (x62 : Slc) vw63 =>
      Rn Try.prog (Instr.makeSlice 72 (.int .i64 286) (.int .i64 286)) vw63 Slc.v fun (x64 : Slc) vw65 =>
      vJ57 (x64, x62) vw65)
def pl44 : Plan := (.seq (.reg .seq) (.join [(2, (.one .slc)), (3, (.one .slc))] [0] (.reg (.held [0, 1] (.effs 0 (some [1]) (.take 2 (.eff 1 (some []) (.take 3 .done))) (.eff 1 (some [0]) (.eff 0 (some []) (.take 2 (.take 3 .done))))))) (.seq (.reg .seq) (.seq (.seq (.reg .seq) (.block (.loop [(20, (.one (.int .i64)))] [2, 3, 18, 19] (.seq (.reg .seq) (.seq (.cond .leaf .leaf) (.seq (.block (.seq (.reg .seq) (.seq (.seq (.reg .seq) (.cond (.seq (.reg .seq) .leaf) .leaf)) (.seq (.reg .seq) (.seq (.reg .seq) (.seq (.reg .seq) (.reg .seq))))))) (.reg .seq))))))) (.seq (.reg .seq) .leaf)))))
set_option maxRecDepth 100000 in
theorem T44 (l1 : Slc) (w : World) (R : Slc → Slc → World → Prop) (h : S44 l1 w R) : C44 l1 w R := by
  have e : fnT Try.prog ⟨FF, MAY, (fun _ _ => False)⟩ pl44 Try.f44 [Slc.v l1] w [(.one .slc), (.one .slc)] (fun s w => R s.1 s.2 w) = S44 l1 w R := by kernel_rfl
  exact (fn_calls okF okM Try.func44 (by kernel_rfl) (by kernel_rfl) (e.mpr h)).mono fun _ _ ⟨s, he, hR⟩ => ⟨s.1, s.2, he, hR⟩

def S46L1 (l1 : Slc) (keep2 : Int) (R : Slc → World → Prop) (I5 : Int → World → Prop) (s3 : Int) (vw4 : World) : Prop :=
  Br (decide (s3 > keep2)) (0 ≤ (IntKind.i64.wrap (s3 - 1)) ∧ (IntKind.i64.wrap (s3 - 1)) < (l1.len : Nat) ∧ Nn l1.p fun a6 =>
    Ld vw4 (a6.add ((IntKind.i64.wrap (s3 - 1)).toNat * 1)) (Value.int .i64) fun (x7 : Int) =>
    Br (x7 == 0) (I5 (IntKind.i64.wrap (s3 - 1)) vw4) (0 ≤ s3 ∧ s3 ≤ ((l1.cap : Nat) : Int) ∧ R (l1.cut 1 0 ((s3).toNat) l1.cap) vw4)) (0 ≤ s3 ∧ s3 ≤ ((l1.cap : Nat) : Int) ∧ R (l1.cut 1 0 ((s3).toNat) l1.cap) vw4)
/-- foliant/deflate.cut -/
def S46 (l1 : Slc) (keep2 : Int) (w : World) (R : Slc → World → Prop) : Prop :=
  Lp (σ := Int) (S46L1 l1 keep2 R) ((l1.len : Nat) : Int) w
def pl46 : Plan := (.seq (.reg .seq) (.seq (.reg .seq) (.seq (.block (.loop [(5, (.one (.int .i64)))] [0, 1] (.seq (.seq (.reg .seq) (.cond .leaf .leaf)) (.block (.reg .seq))))) (.seq (.reg .seq) .leaf))))
set_option maxRecDepth 100000 in
theorem T46 (l1 : Slc) (keep2 : Int) (w : World) (R : Slc → World → Prop) (h : S46 l1 keep2 w R) : C46 l1 keep2 w R := by
  have e : fnT Try.prog ⟨FF, MAY, (fun _ _ => False)⟩ pl46 Try.f46 [Slc.v l1, .int .i64 keep2] w [(.one .slc)] (fun s w => R s w) = S46 l1 keep2 w R := by kernel_rfl
  exact (fn_calls okF okM Try.func46 (by kernel_rfl) (by kernel_rfl) (e.mpr h)).mono fun _ _ ⟨s, he, hR⟩ => ⟨s, he, hR⟩

def S47J1 (l1 : Slc) (s2 : Slc × Int) (I4 : (Slc × Int) → World → Prop) (s12 : Int) (vw13 : World) : Prop :=
  0 ≤ s2.2 ∧ s2.2 < (l1.len : Nat) ∧ Nn l1.p fun a14 =>
  Ld vw13 (a14.add ((s2.2).toNat * 1)) (Value.int .i64) fun (x15 : Int) =>
  Br (x15 == 0) (Br (decide (s12 ≥ 11)) (Nw vw13 (.cells #[.int .i64 18, .int .i64 (IntKind.i64.wrap ((if 138 < s12 then 138 else s12) - 11)), .int .i64 7] 88) fun vw16 =>
      Rn Try.prog (Builtin.append_ #[85, 85] 85 #[Slc.v s2.1, Slc.v ((⟨some ⟨vw13.heap.size, 0, none⟩, 1, 1⟩ : Slc))]) vw16 Slc.v fun (x17 : Slc) vw18 =>
      I4 (x17, IntKind.i64.wrap (s2.2 + (if 138 < s12 then 138 else s12))) vw18) (0 ≤ s2.2 ∧ s2.2 < (l1.len : Nat) ∧ Nn l1.p fun a19 =>
      Ld vw13 (a19.add ((s2.2).toNat * 1)) (Value.int .i64) fun (x20 : Int) =>
      Br (x20 == 0) (Br (decide (s12 ≥ 3)) (Nw vw13 (.cells #[.int .i64 17, .int .i64 (IntKind.i64.wrap (s12 - 3)), .int .i64 3] 88) fun vw21 =>
          Rn Try.prog (Builtin.append_ #[85, 85] 85 #[Slc.v s2.1, Slc.v ((⟨some ⟨vw13.heap.size, 0, none⟩, 1, 1⟩ : Slc))]) vw21 Slc.v fun (x22 : Slc) vw23 =>
          I4 (x22, IntKind.i64.wrap (s2.2 + s12)) vw23) (Br (decide (s12 ≥ 4)) (0 ≤ s2.2 ∧ s2.2 < (l1.len : Nat) ∧ Nn l1.p fun a24 =>
            Ld vw13 (a24.add ((s2.2).toNat * 1)) (Value.int .i64) fun (x25 : Int) =>
            Nw vw13 (.cells #[.int .i64 x25, .int .i64 0, .int .i64 0, .int .i64 16, .int .i64 (IntKind.i64.wrap ((if 7 < s12 then 7 else s12) - 4)), .int .i64 2] 88) fun vw26 =>
            Rn Try.prog (Builtin.append_ #[85, 85] 85 #[Slc.v s2.1, Slc.v ((⟨some ⟨vw13.heap.size, 0, none⟩, 2, 2⟩ : Slc))]) vw26 Slc.v fun (x27 : Slc) vw28 =>
            I4 (x27, IntKind.i64.wrap (s2.2 + (if 7 < s12 then 7 else s12))) vw28) (0 ≤ s2.2 ∧ s2.2 < (l1.len : Nat) ∧ Nn l1.p fun a29 =>
            Ld vw13 (a29.add ((s2.2).toNat * 1)) (Value.int .i64) fun (x30 : Int) =>
            Nw vw13 (.cells #[.int .i64 x30, .int .i64 0, .int .i64 0] 88) fun vw31 =>
            Rn Try.prog (Builtin.append_ #[85, 85] 85 #[Slc.v s2.1, Slc.v ((⟨some ⟨vw13.heap.size, 0, none⟩, 1, 1⟩ : Slc))]) vw31 Slc.v fun (x32 : Slc) vw33 =>
            I4 (x32, IntKind.i64.wrap (s2.2 + 1)) vw33))) (Br (decide (s12 ≥ 4)) (0 ≤ s2.2 ∧ s2.2 < (l1.len : Nat) ∧ Nn l1.p fun a34 =>
          Ld vw13 (a34.add ((s2.2).toNat * 1)) (Value.int .i64) fun (x35 : Int) =>
          Nw vw13 (.cells #[.int .i64 x35, .int .i64 0, .int .i64 0, .int .i64 16, .int .i64 (IntKind.i64.wrap ((if 7 < s12 then 7 else s12) - 4)), .int .i64 2] 88) fun vw36 =>
          Rn Try.prog (Builtin.append_ #[85, 85] 85 #[Slc.v s2.1, Slc.v ((⟨some ⟨vw13.heap.size, 0, none⟩, 2, 2⟩ : Slc))]) vw36 Slc.v fun (x37 : Slc) vw38 =>
          I4 (x37, IntKind.i64.wrap (s2.2 + (if 7 < s12 then 7 else s12))) vw38) (0 ≤ s2.2 ∧ s2.2 < (l1.len : Nat) ∧ Nn l1.p fun a39 =>
          Ld vw13 (a39.add ((s2.2).toNat * 1)) (Value.int .i64) fun (x40 : Int) =>
          Nw vw13 (.cells #[.int .i64 x40, .int .i64 0, .int .i64 0] 88) fun vw41 =>
          Rn Try.prog (Builtin.append_ #[85, 85] 85 #[Slc.v s2.1, Slc.v ((⟨some ⟨vw13.heap.size, 0, none⟩, 1, 1⟩ : Slc))]) vw41 Slc.v fun (x42 : Slc) vw43 =>
          I4 (x42, IntKind.i64.wrap (s2.2 + 1)) vw43)))) (0 ≤ s2.2 ∧ s2.2 < (l1.len : Nat) ∧ Nn l1.p fun a44 =>
    Ld vw13 (a44.add ((s2.2).toNat * 1)) (Value.int .i64) fun (x45 : Int) =>
    Br (x45 == 0) (Br (decide (s12 ≥ 3)) (Nw vw13 (.cells #[.int .i64 17, .int .i64 (IntKind.i64.wrap (s12 - 3)), .int .i64 3] 88) fun vw46 =>
        Rn Try.prog (Builtin.append_ #[85, 85] 85 #[Slc.v s2.1, Slc.v ((⟨some ⟨vw13.heap.size, 0, none⟩, 1, 1⟩ : Slc))]) vw46 Slc.v fun (x47 : Slc) vw48 =>
        I4 (x47, IntKind.i64.wrap (s2.2 + s12)) vw48) (Br (decide (s12 ≥ 4)) (0 ≤ s2.2 ∧ s2.2 < (l1.len : Nat) ∧ Nn l1.p fun a49 =>
          Ld vw13 (a49.add ((s2.2).toNat * 1)) (Value.int .i64) fun (x50 : Int) =>
          Nw vw13 (.cells #[.int .i64 x50, .int .i64 0, .int .i64 0, .int .i64 16, .int .i64 (IntKind.i64.wrap ((if 7 < s12 then 7 else s12) - 4)), .int .i64 2] 88) fun vw51 =>
          Rn Try.prog (Builtin.append_ #[85, 85] 85 #[Slc.v s2.1, Slc.v ((⟨some ⟨vw13.heap.size, 0, none⟩, 2, 2⟩ : Slc))]) vw51 Slc.v fun (x52 : Slc) vw53 =>
          I4 (x52, IntKind.i64.wrap (s2.2 + (if 7 < s12 then 7 else s12))) vw53) (0 ≤ s2.2 ∧ s2.2 < (l1.len : Nat) ∧ Nn l1.p fun a54 =>
          Ld vw13 (a54.add ((s2.2).toNat * 1)) (Value.int .i64) fun (x55 : Int) =>
          Nw vw13 (.cells #[.int .i64 x55, .int .i64 0, .int .i64 0] 88) fun vw56 =>
          Rn Try.prog (Builtin.append_ #[85, 85] 85 #[Slc.v s2.1, Slc.v ((⟨some ⟨vw13.heap.size, 0, none⟩, 1, 1⟩ : Slc))]) vw56 Slc.v fun (x57 : Slc) vw58 =>
          I4 (x57, IntKind.i64.wrap (s2.2 + 1)) vw58))) (Br (decide (s12 ≥ 4)) (0 ≤ s2.2 ∧ s2.2 < (l1.len : Nat) ∧ Nn l1.p fun a59 =>
        Ld vw13 (a59.add ((s2.2).toNat * 1)) (Value.int .i64) fun (x60 : Int) =>
        Nw vw13 (.cells #[.int .i64 x60, .int .i64 0, .int .i64 0, .int .i64 16, .int .i64 (IntKind.i64.wrap ((if 7 < s12 then 7 else s12) - 4)), .int .i64 2] 88) fun vw61 =>
        Rn Try.prog (Builtin.append_ #[85, 85] 85 #[Slc.v s2.1, Slc.v ((⟨some ⟨vw13.heap.size, 0, none⟩, 2, 2⟩ : Slc))]) vw61 Slc.v fun (x62 : Slc) vw63 =>
        I4 (x62, IntKind.i64.wrap (s2.2 + (if 7 < s12 then 7 else s12))) vw63) (0 ≤ s2.2 ∧ s2.2 < (l1.len : Nat) ∧ Nn l1.p fun a64 =>
        Ld vw13 (a64.add ((s2.2).toNat * 1)) (Value.int .i64) fun (x65 : Int) =>
        Nw vw13 (.cells #[.int .i64 x65, .int .i64 0, .int .i64 0] 88) fun vw66 =>
        Rn Try.prog (Builtin.append_ #[85, 85] 85 #[Slc.v s2.1, Slc.v ((⟨some ⟨vw13.heap.size, 0, none⟩, 1, 1⟩ : Slc))]) vw66 Slc.v fun (x67 : Slc) vw68 =>
        I4 (x67, IntKind.i64.wrap (s2.2 + 1)) vw68)))
def S47L1 (l1 : Slc) (s2 : Slc × Int) (vJ69 : Int → World → Prop) (I72 : Int → World → Prop) (s70 : Int) (vw71 : World) : Prop :=
  Br (decide ((IntKind.i64.wrap (s2.2 + s70)) < ((l1.len : Nat) : Int))) (0 ≤ (IntKind.i64.wrap (s2.2 + s70)) ∧ (IntKind.i64.wrap (s2.2 + s70)) < (l1.len : Nat) ∧ Nn l1.p fun a73 =>
    Ld vw71.drew (a73.add ((IntKind.i64.wrap (s2.2 + s70)).toNat * 1)) (Value.int .i64) fun (x74 : Int) =>
    0 ≤ s2.2 ∧ s2.2 < (l1.len : Nat) ∧ Nn l1.p fun a75 =>
    Ld vw71.drew (a75.add ((s2.2).toNat * 1)) (Value.int .i64) fun (x76 : Int) =>
    Br (x74 == x76) (I72 (IntKind.i64.wrap (s70 + 1)) vw71.drew) (vJ69 s70 vw71.drew)) (vJ69 s70 vw71.drew)
def S47L2 (l1 : Slc) (R : Slc → World → Prop) (I4 : (Slc × Int) → World → Prop) (s2 : Slc × Int) (vw3 : World) : Prop :=
  Br (decide (s2.2 < ((l1.len : Nat) : Int))) (Join (S47J1 l1 s2 I4) fun (vJ69 : Int → World → Prop) =>
      Lp (σ := Int) (S47L1 l1 s2 vJ69) 1 vw3) (R s2.1 vw3)
/-- foliant/deflate.marks -/
def S47 (l1 : Slc) (w : World) (R : Slc → World → Prop) : Prop :=
  Lp (σ := Slc × Int) (S47L2 l1 R) ((⟨none, 0, 0⟩ : Slc), 0) w
def pl47 : Plan := (.seq (.reg .seq) (.seq (.reg .seq) (.seq (.seq (.reg .seq) (.block (.loop [(3, (.one .slc)), (4, (.one (.int .i64)))] [0] (.seq (.seq (.reg .seq) (.cond .leaf .leaf)) (.block (.seq (.reg .seq) (.join [(5, (.one (.int .i64)))] [0, 3, 4] (.block (.loop [(5, (.one (.int .i64)))] [0, 3, 4] (.seq (.seq (.reg .still) (.cond .leaf .leaf)) (.block (.reg .seq))))) (.seq (.block (.seq (.reg .seq) (.cond (.seq (.reg .seq) (.reg .seq)) (.seq (.reg .seq) (.cond (.reg .seq) (.seq (.reg .seq) (.cond (.seq (.reg .seq) (.reg .seq)) (.seq (.reg .seq) (.reg .seq))))))))) (.reg .seq))))))))) (.seq (.reg .seq) .leaf))))
set_option maxRecDepth 100000 in
theorem T47 (l1 : Slc) (w : World) (R : Slc → World → Prop) (h : S47 l1 w R) : C47 l1 w R := by
  have e : fnT Try.prog ⟨FF, MAY, (fun _ _ => False)⟩ pl47 Try.f47 [Slc.v l1] w [(.one .slc)] (fun s w => R s w) = S47 l1 w R := by kernel_rfl
  exact (fn_calls okF okM Try.func47 (by kernel_rfl) (by kernel_rfl) (e.mpr h)).mono fun _ _ ⟨s, he, hR⟩ => ⟨s, he, hR⟩

/-- foliant/deflate.places -/
def S48 (w : World) (R : (Int × Int × Int × Int × Int × Int × Int × Int × Int × Int × Int × Int × Int × Int × Int × Int × Int × Int × Int) → World → Prop) : Prop :=
  Nw w (.cells #[.int .i64 0, .int .i64 0, .int .i64 0, .int .i64 0, .int .i64 0, .int .i64 0, .int .i64 0, .int .i64 0, .int .i64 0, .int .i64 0, .int .i64 0, .int .i64 0, .int .i64 0, .int .i64 0, .int .i64 0, .int .i64 0, .int .i64 0, .int .i64 0, .int .i64 0] 89) fun vw1 =>
  St vw1 (⟨w.heap.size, 0, none⟩ : Addr) (.int .i64 16) fun vw2 =>
  St vw2 ((⟨w.heap.size, 0, none⟩ : Addr).add 1) (.int .i64 17) fun vw3 =>
  St vw3 ((⟨w.heap.size, 0, none⟩ : Addr).add 2) (.int .i64 18) fun vw4 =>
  St vw4 ((⟨w.heap.size, 0, none⟩ : Addr).add 3) (.int .i64 0) fun vw5 =>
  St vw5 ((⟨w.heap.size, 0, none⟩ : Addr).add 4) (.int .i64 8) fun vw6 =>
  St vw6 ((⟨w.heap.size, 0, none⟩ : Addr).add 5) (.int .i64 7) fun vw7 =>
  St vw7 ((⟨w.heap.size, 0, none⟩ : Addr).add 6) (.int .i64 9) fun vw8 =>
  St vw8 ((⟨w.heap.size, 0, none⟩ : Addr).add 7) (.int .i64 6) fun vw9 =>
  St vw9 ((⟨w.heap.size, 0, none⟩ : Addr).add 8) (.int .i64 10) fun vw10 =>
  St vw10 ((⟨w.heap.size, 0, none⟩ : Addr).add 9) (.int .i64 5) fun vw11 =>
  St vw11 ((⟨w.heap.size, 0, none⟩ : Addr).add 10) (.int .i64 11) fun vw12 =>
  St vw12 ((⟨w.heap.size, 0, none⟩ : Addr).add 11) (.int .i64 4) fun vw13 =>
  St vw13 ((⟨w.heap.size, 0, none⟩ : Addr).add 12) (.int .i64 12) fun vw14 =>
  St vw14 ((⟨w.heap.size, 0, none⟩ : Addr).add 13) (.int .i64 3) fun vw15 =>
  St vw15 ((⟨w.heap.size, 0, none⟩ : Addr).add 14) (.int .i64 13) fun vw16 =>
  St vw16 ((⟨w.heap.size, 0, none⟩ : Addr).add 15) (.int .i64 2) fun vw17 =>
  St vw17 ((⟨w.heap.size, 0, none⟩ : Addr).add 16) (.int .i64 14) fun vw18 =>
  St vw18 ((⟨w.heap.size, 0, none⟩ : Addr).add 17) (.int .i64 1) fun vw19 =>
  St vw19 ((⟨w.heap.size, 0, none⟩ : Addr).add 18) (.int .i64 15) fun vw20 =>
  Ld vw20 (⟨w.heap.size, 0, none⟩ : Addr) (Value.int .i64) fun (x21 : Int) =>
  Ld vw20 ((⟨w.heap.size, 0, none⟩ : Addr).add 1) (Value.int .i64) fun (x22 : Int) =>
  Ld vw20 ((⟨w.heap.size, 0, none⟩ : Addr).add 2) (Value.int .i64) fun (x23 : Int) =>
  Ld vw20 ((⟨w.heap.size, 0, none⟩ : Addr).add 3) (Value.int .i64) fun (x24 : Int) =>
  Ld vw20 ((⟨w.heap.size, 0, none⟩ : Addr).add 4) (Value.int .i64) fun (x25 : Int) =>
  Ld vw20 ((⟨w.heap.size, 0, none⟩ : Addr).add 5) (Value.int .i64) fun (x26 : Int) =>
  Ld vw20 ((⟨w.heap.size, 0, none⟩ : Addr).add 6) (Value.int .i64) fun (x27 : Int) =>
  Ld vw20 ((⟨w.heap.size, 0, none⟩ : Addr).add 7) (Value.int .i64) fun (x28 : Int) =>
  Ld vw20 ((⟨w.heap.size, 0, none⟩ : Addr).add 8) (Value.int .i64) fun (x29 : Int) =>
  Ld vw20 ((⟨w.heap.size, 0, none⟩ : Addr).add 9) (Value.int .i64) fun (x30 : Int) =>
  Ld vw20 ((⟨w.heap.size, 0, none⟩ : Addr).add 10) (Value.int .i64) fun (x31 : Int) =>
  Ld vw20 ((⟨w.heap.size, 0, none⟩ : Addr).add 11) (Value.int .i64) fun (x32 : Int) =>
  Ld vw20 ((⟨w.heap.size, 0, none⟩ : Addr).add 12) (Value.int .i64) fun (x33 : Int) =>
  Ld vw20 ((⟨w.heap.size, 0, none⟩ : Addr).add 13) (Value.int .i64) fun (x34 : Int) =>
  Ld vw20 ((⟨w.heap.size, 0, none⟩ : Addr).add 14) (Value.int .i64) fun (x35 : Int) =>
  Ld vw20 ((⟨w.heap.size, 0, none⟩ : Addr).add 15) (Value.int .i64) fun (x36 : Int) =>
  Ld vw20 ((⟨w.heap.size, 0, none⟩ : Addr).add 16) (Value.int .i64) fun (x37 : Int) =>
  Ld vw20 ((⟨w.heap.size, 0, none⟩ : Addr).add 17) (Value.int .i64) fun (x38 : Int) =>
  Ld vw20 ((⟨w.heap.size, 0, none⟩ : Addr).add 18) (Value.int .i64) fun (x39 : Int) =>
  R (x21, x22, x23, x24, x25, x26, x27, x28, x29, x30, x31, x32, x33, x34, x35, x36, x37, x38, x39) vw20
def pl48 : Plan := (.seq (.reg .seq) (.seq (.reg .seq) .leaf))
set_option maxRecDepth 100000 in
theorem T48 (w : World) (R : (Int × Int × Int × Int × Int × Int × Int × Int × Int × Int × Int × Int × Int × Int × Int × Int × Int × Int × Int) → World → Prop) (h : S48 w R) : C48 w R := by
  have e : fnT Try.prog ⟨FF, MAY, (fun _ _ => False)⟩ pl48 Try.f48 [] w [(.agg [(.int .i64), (.int .i64), (.int .i64), (.int .i64), (.int .i64), (.int .i64), (.int .i64), (.int .i64), (.int .i64), (.int .i64), (.int .i64), (.int .i64), (.int .i64), (.int .i64), (.int .i64), (.int .i64), (.int .i64), (.int .i64), (.int .i64)])] (fun s w => R s w) = S48 w R := by kernel_rfl
  exact (fn_calls okF okM Try.func48 (by kernel_rfl) (by kernel_rfl) (e.mpr h)).mono fun _ _ ⟨s, he, hR⟩ => ⟨s, he, hR⟩

def S24L1 (l1 : Slc) (vw10 : World) (r29 : Slc) (r68 : Option Addr) (r95 : Option Addr) (R : ByteArray → World → Prop) (I141 : Int → World → Prop) (s139 : Int) (vw140 : World) : Prop :=
  Br (decide (s139 < ((r29.len : Nat) : Int))) (0 ≤ s139 ∧ s139 < (r29.len : Nat) ∧ Nn r29.p fun a142 =>
    Ld vw140 (a142.add ((s139).toNat * 3)) (Value.int .i64) fun (x143 : Int) =>
    Ld vw140 ((a142.add ((s139).toNat * 3)).add 1) (Value.int .i64) fun (x144 : Int) =>
    Ld vw140 ((a142.add ((s139).toNat * 3)).add 2) (Value.int .i64) fun (x145 : Int) =>
    Nw vw140 (.cells #[.int .i64 0, .int .i64 0, .int .i64 0] 88) fun vw146 =>
    St vw146 (⟨vw140.heap.size, 0, none⟩ : Addr) (.int .i64 x143) fun vw147 =>
    St vw147 ((⟨vw140.heap.size, 0, none⟩ : Addr).add 1) (.int .i64 x144) fun vw148 =>
    St vw148 ((⟨vw140.heap.size, 0, none⟩ : Addr).add 2) (.int .i64 x145) fun vw149 =>
    Ld vw149 (⟨vw140.heap.size, 0, none⟩ : Addr) (Value.int .i64) fun (x150 : Int) =>
    C49 r68 r95 x150 vw149 fun r151 vw152 =>
      Ld vw152 ((⟨vw140.heap.size, 0, none⟩ : Addr).add 1) (Value.int .i64) fun (x153 : Int) =>
      Ld vw152 ((⟨vw140.heap.size, 0, none⟩ : Addr).add 2) (Value.int .i64) fun (x154 : Int) =>
      C37 r95 x153 x154 vw152 fun r155 vw156 =>
        I141 (IntKind.i64.wrap (s139 + 1)) vw156) (Ld vw140 (⟨vw10.heap.size, 0, none⟩ : Addr) Value.pointer fun (x157 : Option Addr) =>
    Ld vw140 ((⟨vw10.heap.size, 0, none⟩ : Addr).add 1) Value.pointer fun (x158 : Option Addr) =>
    C43 (x157, x158) r95 l1 vw140 fun vw159 =>
      C40 r95 vw159 fun r160 vw161 =>
        R r160 vw161)
def S24L2 (l1 : Slc) (vw10 : World) (r29 : Slc) (r68 : Option Addr) (r93 : Slc) (r95 : Option Addr) (R : ByteArray → World → Prop) (I116 : Int → World → Prop) (s114 : Int) (vw115 : World) : Prop :=
  Br (decide (s114 < ((r93.len : Nat) : Int))) (0 ≤ s114 ∧ s114 < (r93.len : Nat) ∧ Nn r93.p fun a117 =>
    Ld vw115 (a117.add ((s114).toNat * 1)) (Value.int .i64) fun (x118 : Int) =>
    C37 r95 x118 3 vw115 fun r119 vw120 =>
      I116 (IntKind.i64.wrap (s114 + 1)) vw120) (Lp (σ := Int) (S24L1 l1 vw10 r29 r68 r95 R) 0 vw115)
def S24L3 (l1 : Slc) (vw10 : World) (r20 : Slc) (r22 : Slc) (r29 : Slc) (r65 : Slc) (r68 : Option Addr) (r82 : Int × Int × Int × Int × Int × Int × Int × Int × Int × Int × Int × Int × Int × Int × Int × Int × Int × Int × Int) (R : ByteArray → World → Prop) (I86 : (Slc × Int) → World → Prop) (s84 : Slc × Int) (vw85 : World) : Prop :=
  Br (decide (s84.2 < 19)) (0 ≤ s84.2 ∧ s84.2 < (19 : Nat) ∧ ∃ x87 : Int, (#[.int .i64 (r82.1), .int .i64 (r82.2.1), .int .i64 (r82.2.2.1), .int .i64 (r82.2.2.2.1), .int .i64 (r82.2.2.2.2.1), .int .i64 (r82.2.2.2.2.2.1), .int .i64 (r82.2.2.2.2.2.2.1), .int .i64 (r82.2.2.2.2.2.2.2.1), .int .i64 (r82.2.2.2.2.2.2.2.2.1), .int .i64 (r82.2.2.2.2.2.2.2.2.2.1), .int .i64 (r82.2.2.2.2.2.2.2.2.2.2.1), .int .i64 (r82.2.2.2.2.2.2.2.2.2.2.2.1), .int .i64 (r82.2.2.2.2.2.2.2.2.2.2.2.2.1), .int .i64 (r82.2.2.2.2.2.2.2.2.2.2.2.2.2.1), .int .i64 (r82.2.2.2.2.2.2.2.2.2.2.2.2.2.2.1), .int .i64 (r82.2.2.2.2.2.2.2.2.2.2.2.2.2.2.2.1), .int .i64 (r82.2.2.2.2.2.2.2.2.2.2.2.2.2.2.2.2.1), .int .i64 (r82.2.2.2.2.2.2.2.2.2.2.2.2.2.2.2.2.2.1), .int .i64 (r82.2.2.2.2.2.2.2.2.2.2.2.2.2.2.2.2.2.2)] : Array Value)[(s84.2).toNat * 1]? = some (.int .i64 x87) ∧ 0 ≤ x87 ∧ x87 < (r65.len : Nat) ∧ Nn r65.p fun a88 =>
    Ld vw85 (a88.add ((x87).toNat * 1)) (Value.int .i64) fun (x89 : Int) =>
    Nw vw85 (.cells #[.int .i64 x89] 3) fun vw90 =>
    Rn Try.prog (Builtin.append_ #[72, 72] 72 #[Slc.v s84.1, Slc.v ((⟨some ⟨vw85.heap.size, 0, none⟩, 1, 1⟩ : Slc))]) vw90 Slc.v fun (x91 : Slc) vw92 =>
    I86 (x91, IntKind.i64.wrap (s84.2 + 1)) vw92) (C46 s84.1 4 vw85 fun r93 vw94 =>
      C36 vw94 fun r95 vw96 =>
        C37 r95 1 1 vw96 fun r97 vw98 =>
          C37 r95 2 2 vw98 fun r99 vw100 =>
            C37 r95 (IntKind.i64.wrap (((r20.len : Nat) : Int) - 257)) 5 vw100 fun r101 vw102 =>
              C37 r95 (IntKind.i64.wrap (((r22.len : Nat) : Int) - 1)) 5 vw102 fun r103 vw104 =>
                C37 r95 (IntKind.i64.wrap (((r93.len : Nat) : Int) - 4)) 4 vw104 fun r105 vw106 =>
                  Lp (σ := Int) (S24L2 l1 vw10 r29 r68 r93 r95 R) 0 vw106)
def S24L4 (l1 : Slc) (vw10 : World) (r20 : Slc) (r22 : Slc) (r29 : Slc) (x31 : Slc) (R : ByteArray → World → Prop) (PR : Value → World → Prop) (I51 : Int → World → Prop) (s49 : Int) (vw50 : World) : Prop :=
  Br (decide (s49 < ((r29.len : Nat) : Int))) (0 ≤ s49 ∧ s49 < (r29.len : Nat) ∧ Nn r29.p fun a52 =>
    Ld vw50 (a52.add ((s49).toNat * 3)) (Value.int .i64) fun (x53 : Int) =>
    Ld vw50 ((a52.add ((s49).toNat * 3)).add 1) (Value.int .i64) fun (x54 : Int) =>
    Ld vw50 ((a52.add ((s49).toNat * 3)).add 2) (Value.int .i64) fun (x55 : Int) =>
    Nw vw50 (.cells #[.int .i64 0, .int .i64 0, .int .i64 0] 88) fun vw56 =>
    St vw56 (⟨vw50.heap.size, 0, none⟩ : Addr) (.int .i64 x53) fun vw57 =>
    St vw57 ((⟨vw50.heap.size, 0, none⟩ : Addr).add 1) (.int .i64 x54) fun vw58 =>
    St vw58 ((⟨vw50.heap.size, 0, none⟩ : Addr).add 2) (.int .i64 x55) fun vw59 =>
    Ld vw59 (⟨vw50.heap.size, 0, none⟩ : Addr) (Value.int .i64) fun (x60 : Int) =>
    0 ≤ x60 ∧ x60 < (x31.len : Nat) ∧ Nn x31.p fun a61 =>
    Ld vw59 (a61.add ((x60).toNat * 1)) (Value.int .i64) fun (x62 : Int) =>
    0 ≤ x60 ∧ x60 < (x31.len : Nat) ∧ Nn x31.p fun a63 =>
    St vw59 (a63.add ((x60).toNat * 1)) (.int .i64 (IntKind.i64.wrap (x62 + 1))) fun vw64 =>
    I51 (IntKind.i64.wrap (s49 + 1)) vw64) (C45 x31 7 vw50 (fun r65 r66 vw67 =>
      C42 r65 vw67 fun r68 r69 vw70 =>
        C48 vw70 fun r82 vw83 =>
          Lp (σ := Slc × Int) (S24L3 l1 vw10 r20 r22 r29 r65 r68 r82 R) ((⟨none, 0, 0⟩ : Slc), 0) vw83) PR)
/-- foliant/deflate.own -/
def S24 (l1 : Slc) (w : World) (R : ByteArray → World → Prop) (PR : Value → World → Prop) : Prop :=
  C44 l1 w fun r2 r3 vw4 =>
    C45 r2 15 vw4 (fun r5 r6 vw7 =>
      C45 r3 15 vw7 (fun r8 r9 vw10 =>
        Nw vw10 (.cells #[.pointer none, .pointer none] 77) fun vw11 =>
        C42 r5 vw11 fun r12 r13 vw14 =>
          St vw14 (⟨vw10.heap.size, 0, none⟩ : Addr) (.pointer r12) fun vw15 =>
          C42 r8 vw15 fun r16 r17 vw18 =>
            St vw18 ((⟨vw10.heap.size, 0, none⟩ : Addr).add 1) (.pointer r16) fun vw19 =>
            C46 r5 257 vw19 fun r20 vw21 =>
              C46 r8 1 vw21 fun r22 vw23 =>
                Nw vw23 (.cells #[] 3) fun vw24 =>
                Rn Try.prog (Builtin.append_ #[72, 72] 72 #[Slc.v ((⟨some ⟨vw23.heap.size, 0, none⟩, 0, 0⟩ : Slc)), Slc.v r20]) vw24 Slc.v fun (x25 : Slc) vw26 =>
                Rn Try.prog (Builtin.append_ #[72, 72] 72 #[Slc.v x25, Slc.v r22]) vw26 Slc.v fun (x27 : Slc) vw28 =>
                C47 x27 vw28 fun r29 vw30 =>
                  Rn Try.prog (Instr.makeSlice 72 (.int .i64 19) (.int .i64 19)) vw30 Slc.v fun (x31 : Slc) vw32 =>
                  Lp (σ := Int) (S24L4 l1 vw10 r20 r22 r29 x31 R PR) 0 vw32) PR) PR
def pl24 : Plan := (.seq (.reg .seq) (.seq (.reg .seq) (.seq (.reg .seq) (.seq (.reg .seq) (.seq (.reg .seq) (.seq (.reg .seq) (.seq (.reg .seq) (.seq (.reg .seq) (.seq (.reg .seq) (.seq (.reg .seq) (.seq (.seq (.reg .seq) (.block (.loop [(66, (.one (.int .i64)))] [0, 5, 7, 9, 10, 11, 64, 65] (.seq (.reg .seq) (.seq (.cond .leaf .leaf) (.seq (.block (.seq (.reg .seq) (.reg .seq))) (.reg .seq))))))) (.seq (.reg .seq) (.seq (.reg .seq) (.seq (.reg .seq) (.seq (.seq (.reg .seq) (.block (.loop [(18, (.one .slc)), (89, (.one (.int .i64)))] [0, 5, 7, 9, 10, 14, 16, 88] (.seq (.reg .seq) (.seq (.cond .leaf .leaf) (.seq (.block (.seq (.reg .seq) (.reg .seq))) (.reg .seq))))))) (.seq (.reg .seq) (.seq (.reg .seq) (.seq (.reg .seq) (.seq (.reg .seq) (.seq (.reg .seq) (.seq (.reg .seq) (.seq (.reg .seq) (.seq (.seq (.reg .seq) (.block (.loop [(124, (.one (.int .i64)))] [0, 9, 10, 16, 21, 122, 123] (.seq (.reg .seq) (.seq (.cond .leaf .leaf) (.seq (.block (.seq (.reg .seq) (.reg .seq))) (.reg .seq))))))) (.seq (.seq (.reg .seq) (.block (.loop [(134, (.one (.int .i64)))] [0, 9, 16, 21, 132, 133] (.seq (.reg .seq) (.seq (.cond .leaf .leaf) (.seq (.block (.seq (.reg .seq) (.seq (.reg .seq) (.reg .seq)))) (.reg .seq))))))) (.seq (.reg .seq) (.seq (.reg .seq) .leaf))))))))))))))))))))))))))
set_option maxRecDepth 100000 in
theorem T24 (l1 : Slc) (w : World) (R : ByteArray → World → Prop) (PR : Value → World → Prop) (h : S24 l1 w R PR) : C24 l1 w R PR := by
  have e : fnT Try.prog ⟨FF, MAY, PR⟩ pl24 Try.f24 [Slc.v l1] w [(.one .str)] (fun s w => R s w) = S24 l1 w R PR := by kernel_rfl
  exact (fn_callsP okF okM Try.func24 (by kernel_rfl) (by kernel_rfl) (e.mpr h)).mono fun _ _ he => he.elim (fun ⟨s, he, hR⟩ => .inl ⟨s, he, hR⟩) .inr

/-- strings.Clone -/
def S25 (s1 : ByteArray) (w : World) (R : ByteArray → World → Prop) : Prop :=
  C50 s1 w fun r2 vw3 =>
    R r2 vw3
def pl25 : Plan := (.seq (.reg .seq) (.seq (.reg .seq) .leaf))
set_option maxRecDepth 100000 in
theorem T25 (s1 : ByteArray) (w : World) (R : ByteArray → World → Prop) (h : S25 s1 w R) : C25 s1 w R := by
  have e : fnT Try.prog ⟨FF, MAY, (fun _ _ => False)⟩ pl25 Try.f25 [.string s1] w [(.one .str)] (fun s w => R s w) = S25 s1 w R := by kernel_rfl
  exact (fn_calls okF okM Try.func25 (by kernel_rfl) (by kernel_rfl) (e.mpr h)).mono fun _ _ ⟨s, he, hR⟩ => ⟨s, he, hR⟩

/-- foliant/deflate.All -/
def S9 (s1 : ByteArray) (level2 : Int) (w : World) (R : ByteArray → Int → World → Prop) (PR : Value → World → Prop) : Prop :=
  Br (decide (level2 < 0)) (R (⟨#[]⟩ : ByteArray) 1 w) (Br (decide (level2 > 2)) (R (⟨#[]⟩ : ByteArray) 1 w) (Br (decide ((((s1).size : Nat) : Int) > 1048576)) (R (⟨#[]⟩ : ByteArray) 5 w) (C22 s1 w fun r3 vw4 =>
          Br (level2 == 0) (R r3 0 vw4) (C11 s1 vw4 fun r5 vw6 =>
              C23 r5 vw6 (fun r9 vw10 =>
                Br (decide ((((r9).size : Nat) : Int) < (((r3).size : Nat) : Int))) (Br (level2 == 2) (C24 r5 vw10 (fun r11 vw12 =>
                      Br (decide ((((r11).size : Nat) : Int) < (((r9).size : Nat) : Int))) (C25 r11 vw12 fun r13 vw14 =>
                          R r13 0 vw14) (C25 r9 vw12 fun r15 vw16 =>
                          R r15 0 vw16)) PR) (C25 r9 vw10 fun r17 vw18 =>
                      R r17 0 vw18)) (Br (level2 == 2) (C24 r5 vw10 (fun r19 vw20 =>
                      Br (decide ((((r19).size : Nat) : Int) < (((r3).size : Nat) : Int))) (C25 r19 vw20 fun r21 vw22 =>
                          R r21 0 vw22) (C25 r3 vw20 fun r23 vw24 =>
                          R r23 0 vw24)) PR) (C25 r3 vw10 fun r25 vw26 =>
                      R r25 0 vw26))) PR))))
def pl9 : Plan := (.seq (.reg .seq) (.seq (.block (.seq (.reg .seq) (.cond (.seq (.reg .seq) .leaf) (.seq (.reg .seq) (.cond (.seq (.reg .seq) .leaf) .leaf))))) (.seq (.reg .seq) (.seq (.seq (.reg .seq) (.cond (.seq (.reg .seq) .leaf) .leaf)) (.seq (.reg .seq) (.seq (.seq (.reg .seq) (.seq (.reg .seq) (.cond (.reg .seq) .leaf))) (.seq (.seq (.reg .seq) (.cond (.seq (.reg .seq) (.seq (.reg .seq) (.cond (.reg .seq) .leaf))) .leaf)) (.seq (.reg .seq) .leaf))))))))
set_option maxRecDepth 100000 in
theorem T9 (s1 : ByteArray) (level2 : Int) (w : World) (R : ByteArray → Int → World → Prop) (PR : Value → World → Prop) (h : S9 s1 level2 w R PR) : C9 s1 level2 w R PR := by
  have e : fnT Try.prog ⟨FF, MAY, PR⟩ pl9 Try.f9 [.string s1, .int .i64 level2] w [(.one .str), (.one (.int .i64))] (fun s w => R s.1 s.2 w) = S9 s1 level2 w R PR := by kernel_rfl
  exact (fn_callsP okF okM Try.func9 (by kernel_rfl) (by kernel_rfl) (e.mpr h)).mono fun _ _ he => he.elim (fun ⟨s, he, hR⟩ => .inl ⟨s.1, s.2, he, hR⟩) .inr

end Go.Proofs.Ytjkoafjnmkchdaa
