/- General lemmas: rows of equal elements, readings, branches. No condition. -/
import Derived.Test.YtpkadliieplblaaDoorEl
import Derived.Test.YtpkadliieplblaaDoorRdB
import Derived.Test.YtpkadliieplblaaDoorShT
namespace Go.Proofs.YtpkadliieplblaaDoor
namespace Sh
set_option linter.unusedVariables false
set_option linter.unusedSimpArgs false
set_option maxRecDepth 4000
set_option linter.unusedVariables false
set_option linter.unusedSimpArgs false
set_option maxRecDepth 4000
set_option maxHeartbeats 1000000
theorem Br.t {b : Bool} {A B : Prop} (h : b = true) (h1 : A) : Br b A B := by rw [h]; exact h1
theorem Br.f {b : Bool} {A B : Prop} (h : b = false) (h1 : B) : Br b A B := by rw [h]; exact h1
theorem eqL (a b : ByteArray) : (a.toList == b.toList) = decide (a.data.toList = b.data.toList) := by
  rw [ByteArray.toList_eq, ByteArray.toList_eq]
  by_cases h : a.data.toList = b.data.toList
  · rw [decide_eq_true h]
    simpa using h
  · rw [decide_eq_false h]
    simpa using h
set_option linter.unusedVariables false
set_option linter.unusedSimpArgs false
set_option maxRecDepth 4000
theorem rdB_elems {P : Program} {w : World} {n k b : Nat} {t e : TypeId} {cs : List Value} {α : Type} [Inhabited α] {Q : α → List Value → Nat → Prop} (hu : P.underlying t = some (.slice e)) (hk : P.cellsOf e = k) (h : RdB P w n t cs b)
    (hQ : ∀ m cs' x, cs'.length = k → RdB P w m e cs' x → ∃ q, Q q cs' x) : ∃ (s : Slc) (L : List α) (bs : List Nat), cs = [Slc.v s] ∧ s.len = L.length ∧ L.length ≤ b ∧ bs.length = L.length ∧ bs.sum ≤ b ∧ ∀ (i : Nat) (q : α), L[i]? = some q → ∃ a cs' x, bs[i]? = some x ∧ s.p = some a ∧ cs'.length = k ∧ (∀ j, j < k → w.cell? (a.add (i * k + j)) = cs'[j]?) ∧ Q q cs' x := by
  obtain ⟨s, m, h1, h2⟩ := rdB_slice hu h
  rcases h2 with rfl | ⟨a, bs, hp, g1, g2, g3, g4, g5, hc⟩
  · exact ⟨_, [], [], h1, rfl, Nat.zero_le _, rfl, Nat.zero_le _, fun i q hi => by cases hi⟩
  · rw [hk] at hc
    have h' : ∀ i, ∃ q : α, ∀ x, bs[i]? = some x → ∃ cs', cs'.length = k ∧ (∀ j, j < k → w.cell? (a.add (i * k + j)) = cs'[j]?) ∧ Q q cs' x := fun i => by
      cases hx : bs[i]? with
      | none => exact ⟨default, fun x h => by cases h⟩
      | some x =>
        obtain ⟨cs', hl, hc, hr⟩ := hc i x hx
        obtain ⟨q, hq⟩ := hQ m cs' x hl hr
        exact ⟨q, fun y hy => by cases hy; exact ⟨cs', hl, hc, hq⟩⟩
    refine ⟨s, (List.range s.len).map fun i => Classical.choose (h' i), bs, h1, by simp, by simp; omega, by simp [g3], by omega, fun i q hi => ?_⟩
    rw [List.getElem?_map] at hi
    obtain ⟨i', hi1, rfl⟩ := Option.map_eq_some_iff.1 hi
    obtain ⟨hlt, rfl⟩ := List.getElem?_eq_some_iff.1 hi1
    simp only [List.length_range] at hlt
    simp only [List.getElem_range]
    have hb : bs[i]? = some bs[i] := List.getElem?_eq_getElem (by omega)
    obtain ⟨cs', c0, c1, c2⟩ := Classical.choose_spec (h' i) _ hb
    exact ⟨a, cs', _, hb, hp, c0, c1, c2⟩
/-- Rows of equal length, one behind the other. -/
theorem flat_at {α : Type} {f : α → List Value} {k : Nat} (hk : ∀ x, (f x).length = k) : ∀ (L : List α) (i j : Nat) (x : α), L[i]? = some x → j < k → (L.flatMap f)[i * k + j]? = (f x)[j]?
  | [], i, j, x, h, _ => by simp at h
  | y :: L, 0, j, x, h, hj => by
    simp at h
    subst h
    rw [List.flatMap_cons, Nat.zero_mul, Nat.zero_add, List.getElem?_append_left (by rw [hk]; exact hj)]
  | y :: L, i + 1, j, x, h, hj => by
    rw [List.flatMap_cons, List.getElem?_append_right (by rw [hk, Nat.add_mul]; omega), hk, show (i + 1) * k + j - k = i * k + j by rw [Nat.add_mul]; omega]
    exact flat_at hk L i j x (by simpa using h) hj
theorem flat_len {α : Type} {f : α → List Value} {k : Nat} (hk : ∀ x, (f x).length = k) : ∀ L : List α, (L.flatMap f).length = L.length * k
  | [] => by simp
  | y :: L => by rw [List.flatMap_cons, List.length_append, hk, flat_len hk L, List.length_cons, Nat.add_mul]; omega
theorem flat_split {α : Type} {f : α → List Value} {k : Nat} (hk : ∀ x, (f x).length = k) (h0 : 0 < k) {L : List α} {j : Nat} (hj : j < L.length * k) : ∃ x, L[j / k]? = some x ∧ (L.flatMap f)[j]? = (f x)[j % k]? := by
  have hi : j / k < L.length := (Nat.div_lt_iff_lt_mul h0).2 hj
  refine ⟨L[j / k], List.getElem?_eq_getElem hi, ?_⟩
  have := flat_at hk L (j / k) (j % k) _ (List.getElem?_eq_getElem hi) (Nat.mod_lt _ h0)
  rw [Nat.mul_comm, Nat.div_add_mod] at this
  exact this
/-- A row whose elements are of k cells each. -/
theorem VRow.make {w : World} {s : Slc} {α : Type} {f : α → List Value} {k : Nat} {L : List α} (hk : ∀ x, (f x).length = k) (h0 : 0 < k) (hl : s.len = L.length) (h : ∀ (i : Nat) (x : α), L[i]? = some x → ∃ a, s.p = some a ∧ ∀ j, j < k → w.cell? (a.add (i * k + j)) = (f x)[j]?) : VRow w s k (L.flatMap f) := by
  refine ⟨by rw [flat_len hk, hl], fun j v hj => ?_⟩
  have hlt : j < L.length * k := by rw [← flat_len hk]; exact (List.getElem?_eq_some_iff.1 hj).1
  obtain ⟨x, hx, e⟩ := flat_split hk h0 hlt
  obtain ⟨a, ha, hc⟩ := h _ x hx
  refine ⟨a, ha, ?_⟩
  have := hc (j % k) (Nat.mod_lt _ h0)
  rw [show j / k * k + j % k = j by rw [Nat.mul_comm]; exact Nat.div_add_mod j k] at this
  rw [this, ← e, hj]
theorem VRow.elem {w : World} {s : Slc} {α : Type} {f : α → List Value} {k : Nat} {L : List α} (hk : ∀ x, (f x).length = k) (h : VRow w s k (L.flatMap f)) {i : Nat} {x : α} (hi : L[i]? = some x) (h0 : 0 < k) : ∃ a, s.p = some a ∧ ∀ j v, (f x)[j]? = some v → w.cell? (a.add (i * k + j)) = some v := by
  have hne : (f x)[0]? ≠ none := by rw [ne_eq, List.getElem?_eq_none_iff, hk]; omega
  obtain ⟨v0, hv0⟩ := Option.ne_none_iff_exists'.1 hne
  have e0 := flat_at hk L i 0 x hi h0
  obtain ⟨a, ha, _⟩ := h.2 (i * k + 0) v0 (by rw [e0, hv0])
  refine ⟨a, ha, fun j v hj => ?_⟩
  have hjk : j < k := by rw [← hk x]; exact (List.getElem?_eq_some_iff.1 hj).1
  obtain ⟨a', ha', hc⟩ := h.2 (i * k + j) v (by rw [flat_at hk L i j x hi hjk, hj])
  rw [ha] at ha'
  cases ha'
  exact hc
theorem VRow.count {w : World} {s : Slc} {α : Type} {f : α → List Value} {k : Nat} {L : List α} (hk : ∀ x, (f x).length = k) (h0 : 0 < k) (h : VRow w s k (L.flatMap f)) : s.len = L.length := by
  have := h.1
  rw [flat_len hk] at this
  exact (Nat.eq_of_mul_eq_mul_right h0 this).symm
/-! ### Glyphs -/
set_option linter.unusedVariables false
set_option linter.unusedSimpArgs false
set_option maxRecDepth 4000
set_option maxHeartbeats 2000000
theorem LdT.any {w : World} {a : Addr} : ∀ (ts : List Ty1) (i : Nat) (x : Sig ts) (K : Sig ts → Prop), (∀ j v, (Sig.cells ts x)[j]? = some v → w.cell? (a.add (i + j)) = some v) → K x → LdT w a i ts K
  | [], _, _, _, _, k => k
  | [t], i, x, K, h, k => Ld.mk (x := x) (h 0 (t.v x) rfl) k
  | t :: u :: r, i, x, K, h, k => Ld.mk (x := x.1) (h 0 (t.v x.1) rfl) (LdT.any (u :: r) (i + 1) x.2 (fun y => K (x.1, y)) (fun j v hj => by
      have := h (j + 1) v hj
      rw [show i + 1 + j = i + (j + 1) by omega]
      exact this) k)
set_option linter.unusedVariables false
set_option linter.unusedSimpArgs false
set_option maxRecDepth 4000
set_option maxHeartbeats 2000000
theorem ext_new {F : Nat → Prop} {a b c : World} (h : Ext (fun _ => False) a b) (k : Ext F b c) (hF : ∀ j, F j → a.heap.size ≤ j) : Ext (fun _ => False) a c :=
  h.trans k (fun _ h => h) fun j hj e => by have := hF j e; omega
theorem blk_ty {w : World} {b : Nat} {cs cs' : Array Value} {t t' : TypeId} (h : Blk w b cs t) (k : Blk w b cs' t') : t = t' := by
  unfold Blk at h k
  rw [h] at k
  cases k
  rfl
theorem own_blk {w : World} {s : Slc} {e : TypeId} {k : Nat} {xs : List Value} (h : Row w s e k xs) {j : Nat} (hj : s.own j) : ∃ cs, Blk w j cs e := by
  obtain ⟨a, ha, hb⟩ := hj
  rcases h.2 with rfl | ⟨g, cur, hp, hg, _⟩
  · cases ha
  · rw [hp] at ha
    cases ha
    exact ⟨cur, hb ▸ hg⟩
theorem no_own (j : Nat) : ¬ Slc.own ⟨none, 0, 0⟩ j := fun ⟨a, ha, _⟩ => by cases ha
set_option linter.unusedVariables false
set_option linter.unusedSimpArgs false
set_option maxRecDepth 4000
set_option maxHeartbeats 2000000
theorem ldS_mk {α : Type} {S : World → Prop} {V : α → Value} {K : α → Prop} {x : α} {a : Addr} (h : ∀ w, S w → w.cell? a = some (V x)) (k : K x) : LdS S a V K := ⟨x, h, k⟩
theorem take_succ {α : Type} {l : List α} {i : Nat} (h : i < l.length) : l.take (i + 1) = l.take i ++ [l[i]] := by rw [List.take_add_one, List.getElem?_eq_getElem h]; rfl
/-- The third loop: each row is sorted by X. -/
theorem ldS_ext {α : Type} {w0 : World} {V : α → Value} {K : α → Prop} {x : α} {a : Addr} (h : w0.cell? a = some (V x)) (k : K x) : LdS (Ext (fun _ => False) w0) a V K := ldS_mk (fun _ e => e.cell_same h) k
theorem LdST.at {S : World → Prop} {a : Addr} : ∀ (ts : List Ty1) (i : Nat) (x : Sig ts) (K : Sig ts → Prop), (∀ w, S w → ∀ j v, (Sig.cells ts x)[j]? = some v → w.cell? (a.add (i + j)) = some v) → K x → LdST S a i ts K
  | [], i, x, K, h, hk => hk
  | [t], i, x, K, h, hk => ldS_mk (x := x) (fun w hw => by have := h w hw 0 _ rfl; simpa using this) hk
  | t :: u :: r, i, x, K, h, hk => ldS_mk (x := x.1) (fun w hw => by have := h w hw 0 _ rfl; simpa using this) (LdST.at (u :: r) (i + 1) x.2 (fun y => K (x.1, y)) (fun w hw j v hj => by
      have := h w hw (j + 1) v (by simpa [Sig.cells] using hj)
      rw [show i + 1 + j = i + (j + 1) by omega]
      exact this) hk)
theorem ba_app (s t : ByteArray) : (s ++ t).data.toList = s.data.toList ++ t.data.toList := by
  rw [ByteArray.data_append, Array.toList_append]
theorem sum_le_of : ∀ {α : Type} {f : α → Nat} {L : List α} {bs : List Nat}, bs.length = L.length → (∀ (i : Nat) (q : α), L[i]? = some q → ∃ x, bs[i]? = some x ∧ f q ≤ x) → (L.map f).sum ≤ bs.sum
  | α, f, [], bs, _, _ => Nat.zero_le _
  | α, f, g :: L, [], h, _ => by cases h
  | α, f, g :: L, b :: bs, h, hq => by
    obtain ⟨x, hx, h0⟩ := hq 0 g rfl
    have hx : b = x := by simpa using hx
    have := sum_le_of (f := f) (L := L) (bs := bs) (by simpa using h) fun i q hi => hq (i + 1) q (by simpa using hi)
    simp only [List.map_cons, List.sum_cons]
    omega
theorem row_cap {w : World} {s : Slc} {e : TypeId} {k : Nat} {xs : List Value} (h : Row w s e k xs) : s.len ≤ s.cap := by
  rcases h.2 with rfl | ⟨g, cur, hp, hg, hle, _⟩
  · exact Nat.le_refl _
  · exact hle
theorem cut_own {s : Slc} {k l h m j : Nat} (hj : (s.cut k l h m).own j) : s.own j := by
  obtain ⟨a, ha, hb⟩ := hj
  have ha : (if m = l then s.p else s.p.map (·.add (l * k))) = some a := ha
  by_cases e : m = l
  · rw [if_pos e] at ha
    exact ⟨a, ha, hb⟩
  · rw [if_neg e] at ha
    obtain ⟨a0, h0, rfl⟩ := Option.map_eq_some_iff.1 ha
    exact ⟨a0, h0, by rw [← hb, add_block]⟩
/-- A cell of a row is written. -/
theorem row_st {w : World} {s : Slc} {e : TypeId} {k : Nat} {A B : List Value} {j : Nat} {v : Value} {K : World → Prop} (h : Row w s e k (A ++ B)) (hj : j < B.length) (kk : ∀ w', Row w' s e k (A ++ B.set j v) → Ext s.own w w' → K w') : ∃ g, s.p = some ⟨g, 0, none⟩ ∧ St w ⟨g, A.length + j, none⟩ v K := by
  have hl := h.1
  rw [List.length_append] at hl
  rcases h.2 with rfl | ⟨g, cur, hp, hg, hle, hsz, htk⟩
  · simp only at hl
    omega
  · refine ⟨g, hp, ?_⟩
    have hlt : A.length + j < cur.size := by
      have := congrArg List.length htk
      rw [List.length_take, Array.length_toList, List.length_append] at this
      omega
    unfold St
    refine ⟨hg.can hlt, kk _ ⟨by rw [List.length_append, List.length_set]; exact hl, .inr ⟨g, _, hp, hg.set _ _, hle, by simpa using hsz, ?_⟩⟩ ((Ext.refl s.own w).set (.inl ⟨_, hp, rfl⟩) _)⟩
    rw [Array.toList_setIfInBounds, List.take_set, htk, List.set_append_right _ _ (by omega), Nat.add_sub_cancel_left]
theorem itW_ext (w : World) (b : Nat) (s : ByteArray) (p : Nat) : Ext (· = b) w (itW w b s p) :=
  ⟨rfl, rfl, rfl, by simp [itW], fun k hk hn => by
    unfold itW
    simp only
    rw [Array.getElem?_setIfInBounds]
    rw [if_neg fun e => hn e.symm]⟩
theorem itW_at {w : World} {b : Nat} {s : ByteArray} {p : Nat} (h : b < w.heap.size) : (itW w b s p).heap[b]? = some (.stringIter s p) := by
  unfold itW
  simp [Array.getElem?_setIfInBounds, h]
theorem u8_wrap (z : Int) : IntKind.u8.wrap z = z % 256 := by
  unfold IntKind.wrap
  simp [IntKind.signed, IntKind.bits]
/-- A number as a byte. -/
def ub (z : Int) : UInt8 := UInt8.ofNat (z % 256).toNat
theorem ub_val (z : Int) : ((ub z).toNat : Int) = IntKind.u8.wrap z := by
  rw [u8_wrap]
  unfold ub
  rw [UInt8.toNat_ofNat']
  omega
end Sh
end Go.Proofs.YtpkadliieplblaaDoor
