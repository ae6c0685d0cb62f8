/- Rows of elements of any type: append, make, element by element. Conditions: sizes. -/
import Derived.Test.YtjbeembbnkmpeaaDoorQPDoes5
import Derived.Laws.MakeOwn
import Derived.Test.YtjbeembbnkmpeaaDoorQPDoes2
import Derived.Test.YtjbeembbnkmpeaaDoorQPDoes3
import Derived.OpenShut
import Derived.ChangeArms
import Derived.WideShapes
import Derived.Laws.Strings
import Derived.Laws.RangeString
namespace Go.Proofs.YtjbeembbnkmpeaaDoor
namespace Sh
set_option linter.unusedVariables false
set_option linter.unusedSimpArgs false

/-- A slice type t of elements e: k cells and B bytes each, zero value zs. -/
structure El (P : Program) (t e : TypeId) (k B : Nat) (z : Value) : Prop where
  und : P.underlying t = some (.slice e)
  size : (P.info? e).map (·.size) = some k
  bytes : (P.info? e).map (·.bytes) = some B
  zero : (P.info? e).bind (·.zero) = some z
  cells : z.cells.size = k
/-- The cells of a slice's elements can be read. -/
def VRow (w : World) (s : Slc) (k : Nat) (ys : List Value) : Prop := ys.length = s.len * k ∧ ∀ j v, ys[j]? = some v → ∃ a, s.p = some a ∧ w.cell? (a.add j) = some v
theorem VRow.keep {w w' : World} {s : Slc} {k : Nat} {ys : List Value} (h : VRow w s k ys) (he : Ext (fun _ => False) w w') : VRow w' s k ys :=
  ⟨h.1, fun j v hj => by obtain ⟨a, ha, hc⟩ := h.2 j v hj; exact ⟨a, ha, he.cell_same hc⟩⟩
theorem add_block (a : Addr) (n : Nat) : (a.add n).block = a.block := by unfold Addr.add; split <;> (try split) <;> rfl
theorem VRow.keepF {F : Nat → Prop} {w w' : World} {s : Slc} {k : Nat} {ys : List Value} (h : VRow w s k ys) (he : Ext F w w') (hF : ∀ j, s.own j → ¬ F j) : VRow w' s k ys :=
  ⟨h.1, fun j v hj => by
    obtain ⟨a, ha, hc⟩ := h.2 j v hj
    refine ⟨a, ha, ?_⟩
    rw [he.cell (cell_lt' hc) (by rw [add_block]; exact hF _ ⟨a, ha, rfl⟩)]
    exact hc⟩
theorem Row.view {w : World} {s : Slc} {e : TypeId} {k : Nat} {xs : List Value} (h : Row w s e k xs) : VRow w s k xs :=
  ⟨h.1, fun j v hj => by
    obtain ⟨g, hg, hc⟩ := h.cell hj
    exact ⟨_, hg, by rw [add_lit, Nat.zero_add]; exact hc⟩⟩
/-- A row that has just been written. -/
theorem VRow.of {w : World} {b n k : Nat} {cs : List Value} {t : TypeId} (hb : Blk w b cs.toArray t) (hn : cs.length = n * k) : VRow w ⟨some ⟨b, 0, none⟩, n, n⟩ k cs :=
  ⟨hn, fun j v hj => ⟨_, rfl, by rw [add_lit, hb.cell, Nat.zero_add]; simpa using hj⟩⟩
section
variable {P : Program} {t e : TypeId} {k B : Nat} {z : Value} {w : World} {s s2 : Slc} {ty : TypeId} {xs ys : List Value}
theorem El.info (h : El P t e k B z) : ∃ i, P.info? e = some i ∧ i.size = k ∧ i.bytes = B ∧ i.zero = some z := by
  cases hi : P.info? e with
  | none => have := h.size; rw [hi] at this; cases this
  | some i =>
    have h1 := h.size; have h2 := h.bytes; have h3 := h.zero
    rw [hi] at h1 h2 h3
    exact ⟨i, rfl, by simpa using h1, by simpa using h2, by simpa using h3⟩
/-- append(s, s2...). -/
theorem El.app (h : El P t e k B z) (own : Row w s e k xs) (h2 : VRow w s2 k ys) (h1 : ∀ v ∈ ys, v.oneCell' = true) (hb : (s.len + s2.len) * B ≤ 140737488355328) (h63 : s.len + s2.len ≤ 9223372036854775807) :
    ∃ s' w', RunV P (Builtin.append_ #[t, t] ty #[Slc.v s, Slc.v s2]) w (Slc.v s') w' ∧ Row w' s' e k (xs ++ ys) ∧ s'.len = s.len + s2.len ∧ Ext s.own w w' ∧ ∀ j, s'.own j → s.own j ∨ w.heap.size ≤ j := by
  obtain ⟨i, hi, rfl, rfl, hz⟩ := h.info
  refine append_any (P := P) (w := w) (s := s) (t := t) (u := t) (ty := ty) (e := e) (i := i) (z := z) (xs := xs) (news := ys) (x := Slc.v s2) (m := s2.len) h.und (.inl ⟨_, h.und⟩) hi hz h.cells rfl (fun w' hw' => ?_) h2.1 h1 own hb h63
  obtain ⟨p, len, cap⟩ := s2
  cases p with
  | none =>
    have hy : ys = [] := by
      cases ys with
      | nil => rfl
      | cons y r =>
        obtain ⟨a, ha, _⟩ := h2.2 0 y rfl
        cases ha
    subst hy
    have hl := h2.1
    simp only [List.length_nil] at hl
    exact run_firstCells_none (P := P) (w := w') _ _ _ _
  | some a =>
    refine run_firstCells_some w' i.size len a len cap ys h2.1 fun j v hj => ?_
    obtain ⟨a', ha, hc⟩ := h2.2 j v hj
    cases ha
    unfold World.cell? at hc ⊢
    rw [hw']
    exact hc
/-- append(s, x). -/
theorem El.app1 (h : El P t e k B z) {g : Nat} (own : Row w s e k xs) (hg : Blk w g ys.toArray e) (hl : ys.length = k) (h1 : ∀ v ∈ ys, v.oneCell' = true) (hb : (s.len + 1) * B ≤ 140737488355328) (h63 : s.len + 1 ≤ 9223372036854775807) :
    ∃ s' w', RunV P (Builtin.append_ #[t, t] ty #[Slc.v s, Slc.v ⟨some ⟨g, 0, none⟩, 1, 1⟩]) w (Slc.v s') w' ∧ Row w' s' e k (xs ++ ys) ∧ s'.len = s.len + 1 ∧ Ext s.own w w' ∧ ∀ j, s'.own j → s.own j ∨ w.heap.size ≤ j :=
  h.app (s2 := ⟨some ⟨g, 0, none⟩, 1, 1⟩) own (VRow.of hg (by omega)) h1 hb h63
theorem flat_get {zs : List Value} (hk : zs.length = k) : ∀ (c j : Nat), ((List.replicate c zs).flatten)[j]? = if j < c * k then zs[j % k]? else none
  | 0, j => by simp
  | c + 1, j => by
    rw [List.replicate_succ, List.flatten_cons]
    by_cases hj : j < k
    · rw [List.getElem?_append_left (by omega), if_pos (by rw [Nat.add_mul]; omega), Nat.mod_eq_of_lt hj]
    · rw [List.getElem?_append_right (by omega), flat_get hk c (j - zs.length), hk, Nat.add_mul, Nat.one_mul]
      by_cases h2 : j < c * k + k
      · have hm : j % k = (j - k) % k := by
          rw [← Nat.add_mod_right (j - k) k, Nat.sub_add_cancel (by omega)]
        rw [if_pos (by omega), if_pos h2, hm]
      · rw [if_neg (by omega), if_neg h2]
theorem made_list {zs : List Value} (hz : z.cells.toList = zs) (hk : zs.length = k) (c : Nat) : (madeCells z.cells (c * k)).toList = (List.replicate c zs).flatten := by
  have hsz : z.cells.size = k := by rw [← Array.length_toList, hz, hk]
  apply List.ext_getElem?
  intro j
  rw [flat_get hk]
  by_cases hj : j < c * k
  · have hk0 : 0 < k := by
      rcases Nat.eq_zero_or_pos k with h | h
      · subst h; omega
      · exact h
    have hm : j % k < k := Nat.mod_lt _ hk0
    rw [if_pos hj]
    unfold madeCells
    simp only [Array.toList_map, Array.toList_range, List.getElem?_map, List.getElem?_range hj, Option.map_some, hsz]
    rw [← hz, Array.getElem?_toList]
    have : j % k < z.cells.size := by omega
    rw [Array.getElem?_eq_getElem this]
    simp [Array.getElem!_eq_getD, Array.getD, this]
  · rw [if_neg hj, List.getElem?_eq_none]
    rw [Array.length_toList, size_madeCells]
    omega
/-- make. -/
theorem El.make (h : El P t e k B z) {zs : List Value} (hz : z.cells.toList = zs) (w : World) (n : Nat) (hb : B * n ≤ 281474976710656) (h63 : n ≤ 9223372036854775807) :
    ∃ w', RunV P (Instr.makeSlice t (.int .i64 (n : Int)) (.int .i64 (n : Int))) w (Slc.v ⟨some ⟨w.heap.size, 0, none⟩, n, n⟩) w' ∧ w' = w.alloc (.cells ((List.replicate n zs).flatten).toArray e) := by
  obtain ⟨i, hi, rfl, rfl, hzi⟩ := h.info
  have hr := run_make (P := P) w t e i z h.und hi hzi .i64 .i64 n n (by omega) (by omega) (by have h : ((i.bytes * n : Nat) : Int) ≤ 281474976710656 := (by omega); rwa [Int.natCast_mul] at h) (by omega)
  simp only [Int.toNat_natCast] at hr
  have hl := made_list (k := i.size) hz (by rw [← hz, Array.length_toList]; exact h.cells) n
  refine ⟨_, hr, ?_⟩
  rw [← hl]
end
/-- One cell after another of an element is stored. -/
def StL (b : Nat) : Nat → List Value → World → (World → Prop) → Prop
  | _, [], w, K => K w
  | o, v :: vs, w, K => St w ⟨b, o, none⟩ v fun w' => StL b (o + 1) vs w' K
theorem set_at {pre post : List Value} {c v : Value} : (pre ++ c :: post).set pre.length v = pre ++ v :: post := by
  rw [List.set_append_right _ _ (Nat.le_refl _), Nat.sub_self]
  rfl
theorem Hn.stL {w0 : World} {L : List (Nat × List Value × TypeId)} {b : Nat} {t : TypeId} {i : Nat} {K : World → Prop} : ∀ (vs zs pre post : List Value) (o : Nat) (w : World), Hn w0 w L → L[i]? = some (b, pre ++ (zs ++ post), t) → pre.length = o → zs.length = vs.length →
    (∀ w2, Hn w0 w2 (L.set i (b, pre ++ (vs ++ post), t)) → K w2) → StL b o vs w K
  | [], zs, pre, post, o, w, h, hi, ho, hz, k => by
    have : zs = [] := List.eq_nil_of_length_eq_zero hz
    subst this
    have e : L.set i (b, pre ++ ([] ++ post), t) = L := by
      apply List.ext_getElem?
      intro j
      rw [List.getElem?_set]
      split
      · rename_i hij
        subst hij
        rw [if_pos (List.getElem?_eq_some_iff.1 hi).1, hi]
      · rfl
    exact k w (by rw [e]; exact h)
  | v :: vs, [], pre, post, o, w, h, hi, ho, hz, k => by cases hz
  | v :: vs, z :: zs, pre, post, o, w, h, hi, ho, hz, k => by
    refine h.st i hi (by rw [← ho]; simp) fun w2 h2 => ?_
    have e : (pre ++ (z :: zs ++ post)).set o v = (pre ++ [v]) ++ (zs ++ post) := by
      rw [← ho, List.cons_append, set_at]
      simp
    rw [e] at h2
    have hlt : i < L.length := (List.getElem?_eq_some_iff.1 hi).1
    refine Hn.stL vs zs (pre ++ [v]) post (o + 1) w2 h2 (by rw [List.getElem?_set_self hlt]) (by simp [ho]) (by simpa using hz) fun w3 h3 => k w3 ?_
    rw [List.set_set] at h3
    simpa using h3
end Sh
end Go.Proofs.YtjbeembbnkmpeaaDoor

/- Sums of products in fixed point, of the program and of its reference. Condition: the list's cells lie in the world. -/
namespace Go.Proofs.YtjbeembbnkmpeaaDoor
namespace Fix
open Sh
set_option linter.unusedVariables false
set_option linter.unusedSimpArgs false

/-- Within the bounds of fixed point. -/
def inW (n : Int) : Bool := decide (-1073741824 ≤ n ∧ n ≤ 1073741824)
theorem inW_spec {n : Int} : inW n = true ↔ -1073741824 ≤ n ∧ n ≤ 1073741824 := by simp [inW]
theorem inW_no {n : Int} : inW n = false ↔ ¬ (-1073741824 ≤ n ∧ n ≤ 1073741824) := by
  unfold inW
  exact decide_eq_false_iff_not
/-- Rounded to nearest. -/
def near (n : Int) : Int := (n + 5000) / 10000
/-- The sum of the first k products. -/
def psum (l : List Int) : Nat → Int
  | 0 => 0
  | k + 1 => psum l k + l.getD (2 * k) 0 * l.getD (2 * k + 1) 0
def allW (l : List Int) : Prop := ∀ i, i < l.length → inW (l.getD i 0) = true
def dotP (l : List Int) : Option Int := if (l.all inW) = true ∧ inW (near (psum l (l.length / 2))) = true then some (near (psum l (l.length / 2))) else none
/-- What Dot answers. -/
def dotF (l : List Int) : Int × Int := if l.length % 2 ≠ 0 ∨ 8 < l.length then (0, 1) else match dotP l with
  | some n => (n, 0)
  | none => (0, 2)
theorem all_iff (l : List Int) : (l.all inW) = true ↔ allW l := by
  rw [List.all_eq_true]
  constructor
  · intro h i hi
    rw [List.getD_eq_getElem?_getD, List.getElem?_eq_getElem hi]
    exact h _ (List.getElem_mem hi)
  · intro h x hx
    obtain ⟨i, hi, rfl⟩ := List.mem_iff_getElem.1 hx
    have := h i hi
    rw [List.getD_eq_getElem?_getD, List.getElem?_eq_getElem hi] at this
    exact this
theorem mul_bd {a b : Int} (ha : -1073741824 ≤ a ∧ a ≤ 1073741824) (hb : -1073741824 ≤ b ∧ b ≤ 1073741824) : -1152921504606846976 ≤ a * b ∧ a * b ≤ 1152921504606846976 := by
  have h : (a * b).natAbs = a.natAbs * b.natAbs := Int.natAbs_mul a b
  have h2 : a.natAbs * b.natAbs ≤ 1073741824 * 1073741824 := Nat.mul_le_mul (by omega) (by omega)
  omega
theorem psum_bd {l : List Int} : ∀ (k : Nat), 2 * k ≤ l.length → (∀ i, i < 2 * k → inW (l.getD i 0) = true) → -(1152921504606846976 * (k : Int)) ≤ psum l k ∧ psum l k ≤ 1152921504606846976 * (k : Int)
  | 0, _, _ => by simp [psum]
  | k + 1, hk, h => by
    have ih := psum_bd k (by omega) fun i hi => h i (by omega)
    have h1 := inW_spec.1 (h (2 * k) (by omega))
    have h2 := inW_spec.1 (h (2 * k + 1) (by omega))
    have h3 := mul_bd h1 h2
    simp only [psum]
    generalize l.getD (2 * k) 0 * l.getD (2 * k + 1) 0 = p at h3 ⊢
    omega
/-- The numbers of a slice. -/
def IRow (w : World) (s : Slc) (l : List Int) : Prop := s.len = l.length ∧ ∀ i, i < l.length → ∃ a, s.p = some a ∧ w.cell? (a.add i) = some (.int .i64 (l.getD i 0))
theorem IRow.keep {w w' : World} {s : Slc} {l : List Int} (h : IRow w s l) (he : Ext (fun _ => False) w w') : IRow w' s l :=
  ⟨h.1, fun i hi => by obtain ⟨a, ha, hc⟩ := h.2 i hi; exact ⟨a, ha, he.cell_same hc⟩⟩
theorem IRow.keepF {F : Nat → Prop} {w w' : World} {s : Slc} {l : List Int} (h : IRow w s l) (he : Ext F w w') (hF : ∀ a, s.p = some a → ¬ F a.block) : IRow w' s l :=
  ⟨h.1, fun i hi => by
    obtain ⟨a, ha, hc⟩ := h.2 i hi
    refine ⟨a, ha, ?_⟩
    have hb : (a.add i).block = a.block := by unfold Addr.add; split <;> (try split) <;> rfl
    rw [he.cell (by rw [hb]; rw [← hb]; exact cell_lt' hc) (by rw [hb]; exact hF a ha)]
    exact hc⟩
/-- A row of numbers that has just been written. -/
theorem IRow.of {w : World} {b n : Nat} {cs : Array Value} {t : TypeId} {l : List Int} (hb : Blk w b cs t) (hn : n = l.length) (hc : ∀ i, i < l.length → cs[i]? = some (.int .i64 (l.getD i 0))) : IRow w ⟨some ⟨b, 0, none⟩, n, n⟩ l :=
  ⟨hn, fun i hi => ⟨_, rfl, by rw [add_lit, hb.cell, Nat.zero_add]; exact hc i hi⟩⟩
theorem c_within (n : Int) (w : World) : C201 n w fun r w1 => r = inW n ∧ w1 = w := by
  refine T201 _ _ _ ?_
  unfold S201
  refine Br.dec (fun h => ⟨?_, rfl⟩) fun h => ⟨?_, rfl⟩
  · unfold inW; exact decide_eq_decide.2 (by omega)
  · exact (inW_no.2 (by omega)).symm
theorem r_within (n : Int) (w : World) : C159 n w fun r w1 => r = inW n ∧ w1 = w := by
  refine T159 _ _ _ ?_
  unfold S159
  refine Br.dec (fun h => ⟨?_, rfl⟩) fun h => ⟨?_, rfl⟩
  · unfold inW; exact decide_eq_decide.2 (by omega)
  · exact (inW_no.2 (by omega)).symm
/-- The panic of this package. -/
def refused (e : Int) : Value := .iface 267 (.int .i64 e)
theorem c_bounded {s : Slc} {l : List Int} {w : World} (h : IRow w s l) (hl : l.length ≤ 1099511627776) : C177 s w (fun w1 => w1 = w ∧ allW l) fun v w1 => v = refused 2 ∧ w1 = w ∧ ¬ allW l := by
  refine T177 _ _ _ _ ?_
  unfold S177
  have hn := h.1
  refine ⟨fun n st w1 => ∃ i : Nat, st = (i : Int) ∧ i ≤ l.length ∧ n = l.length - i ∧ w1 = w ∧ ∀ j, j < i → inW (l.getD j 0) = true, l.length, ⟨0, rfl, by omega, rfl, rfl, fun j hj => by omega⟩, ?_⟩
  rintro n st w1 ⟨i, rfl, hi, rfl, rfl, hall⟩
  unfold S177L1
  rw [hn]
  refine Br.dec (fun e => ?_) fun e => ⟨rfl, fun j hj => hall j (by omega)⟩
  obtain ⟨a, ha, hc⟩ := h.2 i (by omega)
  rw [ha]
  refine ⟨by omega, by omega, Nn.of ⟨l.getD i 0, by rw [Int.toNat_natCast, Nat.mul_one]; exact hc, (c_within _ _).mono ?_⟩⟩
  rintro r _ ⟨rfl, rfl⟩
  cases hw : inW (l.getD i 0) with
  | true =>
    refine Br_of (fun h => by cases h) fun _ => ⟨l.length - (i + 1), by omega, i + 1, by rw [i64_id (by omega)]; rfl, by omega, rfl, rfl, fun j hj => ?_⟩
    by_cases hji : j = i
    · rw [hji]; exact hw
    · exact hall j (by omega)
  | false => exact Br_of (fun _ => ⟨rfl, rfl, fun h => by have := h i (by omega); rw [hw] at this; cases this⟩) fun h => by cases h
theorem c_answer (n : Int) (w : World) : C178 n w (fun r w1 => r = n ∧ inW n = true ∧ Ext (fun _ => False) w w1) fun v w1 => v = refused 2 ∧ inW n = false ∧ Ext (fun _ => False) w w1 := by
  refine T178 _ _ _ _ ?_
  unfold S178
  refine (Hx.start w (fun _ => False)).nw fun w2 H => ?_
  refine (c_bounded (l := [n]) (IRow.of (H.get 0 rfl) rfl fun i hi => ?_) (by simp)).mono (fun w3 h => ?_) fun v w3 h => ?_
  · have : i = 0 := by simp at hi; omega
    subst this; rfl
  · obtain ⟨rfl, ha⟩ := h
    exact ⟨rfl, ha 0 (by simp), H.ext⟩
  · obtain ⟨rfl, rfl, ha⟩ := h
    refine ⟨rfl, ?_, H.ext⟩
    cases hw : inW n with
    | false => rfl
    | true =>
      refine absurd (fun i hi => ?_) ha
      have : i = 0 := by simp at hi; omega
      subst this
      exact hw
theorem td (n : Int) : 10000 * Int.tdiv n 10000 + Int.tmod n 10000 = n ∧ -10000 < Int.tmod n 10000 ∧ Int.tmod n 10000 < 10000 ∧ (0 ≤ n → 0 ≤ Int.tmod n 10000) ∧ (n ≤ 0 → Int.tmod n 10000 ≤ 0) := by
  rcases Int.le_total 0 n with h | h
  · rw [tdiv_id h, tmod_id h]; omega
  · obtain ⟨m, rfl⟩ : ∃ m, n = -m := ⟨-n, by omega⟩
    rw [Int.neg_tdiv, Int.neg_tmod, tdiv_id (by omega), tmod_id (by omega)]; omega
theorem near_eq {n : Int} (hn : -5000000000000000000 ≤ n ∧ n ≤ 5000000000000000000) : (if Int.tmod n 10000 < 0 then (if Int.tmod n 10000 + 10000 ≥ 10000 - (Int.tmod n 10000 + 10000) then Int.tdiv n 10000 - 1 + 1 else Int.tdiv n 10000 - 1) else if Int.tmod n 10000 ≥ 10000 - Int.tmod n 10000 then Int.tdiv n 10000 + 1 else Int.tdiv n 10000) = near n := by
  unfold near
  have := td n
  split
  · split <;> omega
  · split <;> omega
theorem c_near {n : Int} (hn : -5000000000000000000 ≤ n ∧ n ≤ 5000000000000000000) (w : World) : C179 n 10000 w fun r w1 => r = near n ∧ Ext (fun _ => False) w w1 := by
  refine T179 _ _ _ _ ?_
  unfold S179
  have he : Ext (fun _ => False) w w.drew := (Ext.refl _ w).drew
  have e := near_eq hn
  have := td n
  refine ⟨by omega, by omega, Br.dec (fun h => ?_) fun h => ?_⟩
  · rw [if_pos h] at e
    rw [i64_id (n := Int.tmod n 10000 + 10000) (by omega), i64_id (n := 10000 - (Int.tmod n 10000 + 10000)) (by omega), i64_id (n := Int.tdiv n 10000) (by omega), i64_id (n := Int.tdiv n 10000 - 1) (by omega), i64_id (n := Int.tdiv n 10000 - 1 + 1) (by omega)]
    refine Lt.of (Br.dec (fun h2 => ⟨?_, he⟩) fun h2 => ⟨?_, he⟩)
    · rw [if_pos h2] at e; exact e
    · rw [if_neg h2] at e; exact e
  · rw [if_neg h] at e
    rw [i64_id (n := 10000 - Int.tmod n 10000) (by omega), i64_id (n := Int.tdiv n 10000) (by omega), i64_id (n := Int.tdiv n 10000 + 1) (by omega)]
    refine Br.dec (fun h2 => ⟨?_, he⟩) fun h2 => ⟨?_, he⟩
    · rw [if_pos h2] at e; exact e
    · rw [if_neg h2] at e; exact e
theorem r_near {n : Int} (hn : -5000000000000000000 ≤ n ∧ n ≤ 5000000000000000000) (w : World) : C161 n 10000 w fun r w1 => r = near n ∧ Ext (fun _ => False) w w1 := by
  refine T161 _ _ _ _ ?_
  unfold S161
  have he : Ext (fun _ => False) w w := (Ext.refl _ w)
  have e := near_eq hn
  have := td n
  refine ⟨by omega, by omega, Br.dec (fun h => ?_) fun h => ?_⟩
  · rw [if_pos h] at e
    rw [i64_id (n := Int.tmod n 10000 + 10000) (by omega), i64_id (n := 10000 - (Int.tmod n 10000 + 10000)) (by omega), i64_id (n := Int.tdiv n 10000) (by omega), i64_id (n := Int.tdiv n 10000 - 1) (by omega), i64_id (n := Int.tdiv n 10000 - 1 + 1) (by omega)]
    refine Lt.of (Br.dec (fun h2 => ⟨?_, he⟩) fun h2 => ⟨?_, he⟩)
    · rw [if_pos h2] at e; exact e
    · rw [if_neg h2] at e; exact e
  · rw [if_neg h] at e
    rw [i64_id (n := 10000 - Int.tmod n 10000) (by omega), i64_id (n := Int.tdiv n 10000) (by omega), i64_id (n := Int.tdiv n 10000 + 1) (by omega)]
    refine Br.dec (fun h2 => ⟨?_, he⟩) fun h2 => ⟨?_, he⟩
    · rw [if_pos h2] at e; exact e
    · rw [if_neg h2] at e; exact e
theorem near_bd {n : Int} (hn : -5000000000000000000 ≤ n ∧ n ≤ 5000000000000000000) : -500000000000001 ≤ near n ∧ near n ≤ 500000000000001 := by unfold near; omega
theorem dotP_yes {l : List Int} (ha : allW l) (hn : inW (near (psum l (l.length / 2))) = true) : dotP l = some (near (psum l (l.length / 2))) := if_pos ⟨(all_iff l).2 ha, hn⟩
theorem dotP_no {l : List Int} (h : ¬ allW l ∨ inW (near (psum l (l.length / 2))) = false) : dotP l = none := if_neg fun h2 => by
  rcases h with h | h
  · exact h ((all_iff l).1 h2.1)
  · rw [h2.2] at h; cases h
section
variable {w w0 : World} {s : Slc} {l : List Int}
/-- Dot of the program. -/
theorem c_dot (h : IRow w s l) (hl : l.length ≤ 1099511627776) : C125 s w fun r e w1 => (r, e) = dotF l ∧ Ext (fun _ => False) w w1 := by
  refine T125 _ _ _ ?_
  unfold S125
  have hn := h.1
  have hp : ∀ a, s.p = some a → l = [] ∨ a.block < w.heap.size := fun a ha => by
    rcases Nat.eq_zero_or_pos l.length with h0 | h0
    · exact .inl (List.eq_nil_of_length_eq_zero h0)
    · obtain ⟨b, hb, hc⟩ := h.2 0 h0
      rw [ha] at hb; cases hb
      have := cell_lt' hc
      refine .inr ?_
      have hb : (a.add 0).block = a.block := by unfold Addr.add; simp
      rw [hb] at this; exact this
  refine (Hx.start w (fun _ => False)).nw fun w2 H => ?_
  have hs := H.size
  have hlt := (H.get 0 rfl).lt
  refine H.nw fun w3 H => ?_
  -- the deferred call, with a panic and without
  have caught : ∀ (cs1 cs2 : Int) (w4 : World), Hx w (fun _ => False) w4 [(w.heap.size, #[.int .i64 cs1], 2), (w2.heap.size, #[.int .i64 cs2], 38)] → (dotF l = (0, 2)) →
      S125P w w2 (fun r e w1 => (r, e) = dotF l ∧ Ext (fun _ => False) w w1) (refused 2) w4 := fun cs1 cs2 w4 H hd => by
    unfold S125P
    refine T176_T267 _ _ 2 _ _ ?_
    unfold S176_T267
    refine Nn.of (H.st 0 rfl (by simp) (.inr (Nat.le_refl _)) fun w5 H => Nn.of (H.st 1 rfl (by simp) (.inr hs) fun w6 H => H.ld 0 rfl rfl (H.ld 1 rfl rfl ⟨hd.symm, H.ext⟩)))
  have done : ∀ (r e : Int) (w4 : World), Hx w (fun _ => False) w4 [(w.heap.size, #[.int .i64 r], 2), (w2.heap.size, #[.int .i64 e], 38)] → dotF l = (r, e) →
      CD176 (some (⟨w.heap.size, 0, none⟩ : Addr)) (some (⟨w2.heap.size, 0, none⟩ : Addr)) none w4 fun vw15 =>
        Ld vw15 (⟨w.heap.size, 0, none⟩ : Addr) (Value.int .i64) fun (x16 : Int) =>
        Ld vw15 (⟨w2.heap.size, 0, none⟩ : Addr) (Value.int .i64) fun (x17 : Int) =>
        (x16, x17) = dotF l ∧ Ext (fun _ => False) w vw15 := fun r e w4 H hd => by
    refine T176_nil _ _ _ _ ?_
    unfold S176_nil
    exact H.ld 0 rfl rfl (H.ld 1 rfl rfl ⟨hd.symm, H.ext⟩)
  rw [hn]
  have hodd : Int.tmod ((l.length : Nat) : Int) 2 = ((l.length % 2 : Nat) : Int) := by rw [tmod_id (by omega)]; rfl
  rw [hodd]
  refine Br.ne (fun e => ?_) fun e => Br.dec (fun e2 => ?_) fun e2 => ?_
  · exact H.st 0 rfl (by simp) (.inr (Nat.le_refl _)) fun w4 H => H.st 1 rfl (by simp) (.inr hs) fun w5 H => done 0 1 _ H (if_pos (.inl (by omega)))
  · exact H.st 0 rfl (by simp) (.inr (Nat.le_refl _)) fun w4 H => H.st 1 rfl (by simp) (.inr hs) fun w5 H => done 0 1 _ H (if_pos (.inr (by omega)))
  have hdF : dotF l = match dotP l with
    | some n => (n, 0)
    | none => (0, 2) := if_neg (by omega)
  refine (c_bounded (h.keep H.ext) hl).mono (fun w4 h4 => ?_) fun v w4 h4 => ?_
  case refine_2 =>
    obtain ⟨rfl, rfl, ha⟩ := h4
    exact caught _ _ _ H (by rw [hdF, dotP_no (.inl ha)])
  obtain ⟨rfl, ha⟩ := h4
  refine ⟨fun n st w5 => ∃ k : Nat, st = ((2 * k : Nat) : Int) ∧ 2 * k ≤ l.length ∧ n = l.length - 2 * k ∧ Hx w (fun _ => False) w5 [(w.heap.size, #[.int .i64 (psum l k)], 2), (w2.heap.size, #[.int .i64 0], 38)], l.length, ⟨0, rfl, by omega, rfl, H⟩, ?_⟩
  rintro n st w5 ⟨k, rfl, hk, rfl, H⟩
  unfold S125L1
  rw [hn]
  have hbd := psum_bd k hk fun i hi => ha i (by omega)
  refine Br.dec (fun e3 => ?_) fun e3 => ?_
  · have HD := H.drew
    have hrow := h.keep HD.ext
    obtain ⟨a, haa, hc1⟩ := hrow.2 (2 * k) (by omega)
    obtain ⟨b, hbb, hc2⟩ := hrow.2 (2 * k + 1) (by omega)
    rw [haa] at hbb
    cases hbb
    rw [haa, i64_id (n := ((2 * k : Nat) : Int) + 1) (by omega)]
    have h1 := inW_spec.1 (ha (2 * k) (by omega))
    have h2 := inW_spec.1 (ha (2 * k + 1) (by omega))
    have h3 := mul_bd h1 h2
    have e1 : (((2 * k : Nat) : Int) + 1).toNat = 2 * k + 1 := by omega
    refine HD.ld 0 rfl rfl ⟨by omega, by omega, Nn.of ⟨l.getD (2 * k) 0, by rw [Int.toNat_natCast, Nat.mul_one]; exact hc1, by omega, by omega, Nn.of ⟨l.getD (2 * k + 1) 0, by rw [e1, Nat.mul_one]; exact hc2, ?_⟩⟩⟩
    dsimp only
    rw [i64_id (n := l.getD (2 * k) 0 * l.getD (2 * k + 1) 0) (by omega), i64_id (n := psum l k + l.getD (2 * k) 0 * l.getD (2 * k + 1) 0) (by omega)]
    exact HD.st 0 rfl (by simp) (.inr (Nat.le_refl _)) fun w6 H => ⟨l.length - 2 * (k + 1), by omega, k + 1, by rw [i64_id (by omega)]; omega, by omega, rfl, H⟩
  · have hk2 : l.length / 2 = k := by omega
    have hbd' : -5000000000000000000 ≤ psum l k ∧ psum l k ≤ 5000000000000000000 := by omega
    refine H.ld 0 rfl rfl ((c_near hbd' _).mono ?_)
    rintro r w6 ⟨rfl, he⟩
    have H := H.keep he
    refine (c_answer _ _).mono (fun r w7 h7 => ?_) fun v w7 h7 => ?_
    · obtain ⟨rfl, hw, he⟩ := h7
      have H := H.keep he
      exact H.st 0 rfl (by simp) (.inr (Nat.le_refl _)) fun w8 H => H.st 1 rfl (by simp) (.inr hs) fun w9 H => done _ 0 _ H (by rw [hdF, dotP_yes ha (by rw [hk2]; exact hw), hk2])
    · obtain ⟨rfl, hw, he⟩ := h7
      exact caught _ _ _ (H.keep he) (by rw [hdF, dotP_no (.inr (by rw [hk2]; exact hw))])
theorem r_told (n : Int) (w : World) : C160 n w fun r e w1 => (r, e) = (if inW n = true then (n, 0) else (0, 2)) ∧ w1 = w := by
  refine T160 _ _ _ ?_
  unfold S160
  refine (r_within _ _).mono ?_
  rintro r _ ⟨rfl, rfl⟩
  cases hw : inW n with
  | true => exact Br_of (fun h => by cases h) fun _ => ⟨rfl, rfl⟩
  | false => exact Br_of (fun _ => ⟨rfl, rfl⟩) fun h => by cases h
/-- Dot of the reference. -/
theorem r_dot (h : IRow w s l) (hl : l.length ≤ 1099511627776) : C107 s w fun r e w1 => (r, e) = dotF l ∧ Ext (fun _ => False) w w1 := by
  refine T107 _ _ _ ?_
  unfold S107
  have hn := h.1
  rw [hn]
  have hodd : Int.tmod ((l.length : Nat) : Int) 2 = ((l.length % 2 : Nat) : Int) := by rw [tmod_id (by omega)]; rfl
  rw [hodd]
  refine Br.eq (fun e => ⟨(if_pos (.inl (by omega))).symm, Ext.refl _ _⟩) fun e => Br.dec (fun e2 => ⟨(if_pos (.inr (by omega))).symm, Ext.refl _ _⟩) fun e2 => ?_
  have hdF : dotF l = match dotP l with
    | some n => (n, 0)
    | none => (0, 2) := if_neg (by omega)
  refine ⟨fun n st w5 => ∃ k : Nat, st = (psum l k, ((2 * k : Nat) : Int)) ∧ 2 * k ≤ l.length ∧ n = l.length - 2 * k ∧ Ext (fun _ => False) w w5 ∧ ∀ i, i < 2 * k → inW (l.getD i 0) = true, l.length, ⟨0, rfl, by omega, rfl, Ext.refl _ _, fun i hi => by omega⟩, ?_⟩
  rintro n st w5 ⟨k, rfl, hk, rfl, he, hall⟩
  unfold S107L1
  dsimp only
  rw [hn, i64_id (n := ((2 * k : Nat) : Int) + 1) (by omega)]
  have hbd := psum_bd k hk hall
  refine Br.dec (fun e3 => ?_) fun e3 => ?_
  · have hrow := h.keep he
    have hrowD := h.keep he.drew
    obtain ⟨a, haa, hc1⟩ := hrow.2 (2 * k) (by omega)
    obtain ⟨b, hbb, hc2⟩ := hrow.2 (2 * k + 1) (by omega)
    rw [haa] at hbb
    cases hbb
    have e1 : (((2 * k : Nat) : Int) + 1).toNat = 2 * k + 1 := by omega
    rw [haa]
    have hno : ∀ i, i < l.length → inW (l.getD i 0) = false → ((0, 2) : Int × Int) = dotF l := fun i hi hw => by
      rw [hdF, dotP_no (.inl fun ha => by have := ha i hi; rw [hw] at this; cases this)]
    refine ⟨by omega, by omega, Nn.of ⟨l.getD (2 * k) 0, by rw [Int.toNat_natCast, Nat.mul_one]; exact hc1, (r_within _ _).mono ?_⟩⟩
    rintro r _ ⟨rfl, rfl⟩
    refine Br_of (fun hw => ⟨hno (2 * k) (by omega) (by simpa using hw), he⟩) fun hw1 => ⟨by omega, by omega, Nn.of ⟨l.getD (2 * k + 1) 0, by rw [e1, Nat.mul_one]; exact hc2, (r_within _ _).mono ?_⟩⟩
    rintro r w6 ⟨rfl, rfl⟩
    refine Br_of (fun hw => ⟨hno (2 * k + 1) (by omega) (by simpa using hw), he⟩) fun hw2 => ?_
    have hw1 : inW (l.getD (2 * k) 0) = true := by simpa using hw1
    have hw2 : inW (l.getD (2 * k + 1) 0) = true := by simpa using hw2
    have h3 := mul_bd (inW_spec.1 hw1) (inW_spec.1 hw2)
    refine ⟨by omega, by omega, Nn.of ⟨l.getD (2 * k) 0, by rw [Int.toNat_natCast, Nat.mul_one]; exact (Ext.refl (fun _ => False) _).drew.cell_same hc1, by omega, by omega, Nn.of ⟨l.getD (2 * k + 1) 0, by rw [e1, Nat.mul_one]; exact (Ext.refl (fun _ => False) _).drew.cell_same hc2, ?_⟩⟩⟩
    dsimp only
    rw [i64_id (n := l.getD (2 * k) 0 * l.getD (2 * k + 1) 0) (by omega), i64_id (n := psum l k + l.getD (2 * k) 0 * l.getD (2 * k + 1) 0) (by omega)]
    refine ⟨l.length - 2 * (k + 1), by omega, k + 1, Prod.ext rfl (by dsimp only; rw [i64_id (by omega)]; omega), by omega, rfl, he.drew, fun i hi => ?_⟩
    by_cases h1 : i = 2 * k
    · rw [h1]; exact hw1
    · by_cases h2 : i = 2 * k + 1
      · rw [h2]; exact hw2
      · exact hall i (by omega)
  · have hk2 : l.length / 2 = k := by omega
    have ha : allW l := fun i hi => hall i (by omega)
    have hbd' : -5000000000000000000 ≤ psum l k ∧ psum l k ≤ 5000000000000000000 := by omega
    refine (r_near hbd' _).mono ?_
    rintro r w6 ⟨rfl, he6⟩
    refine (r_told _ _).mono ?_
    rintro r e w7 ⟨h7, rfl⟩
    refine ⟨?_, he.tr he6⟩
    rw [h7, hdF]
    by_cases hw : inW (near (psum l k)) = true
    · rw [if_pos hw, dotP_yes ha (by rw [hk2]; exact hw), hk2]
    · rw [if_neg hw, dotP_no (.inr (by rw [hk2]; simpa using hw))]
end
end Fix
end Go.Proofs.YtjbeembbnkmpeaaDoor

/- Package matrix: products, images, lengths and boxes, of the program. No condition. -/
namespace Go.Proofs.YtjbeembbnkmpeaaDoor
namespace Mat
open Sh Fix
set_option linter.unusedVariables false
set_option linter.unusedSimpArgs false
set_option maxRecDepth 4000

abbrev Mx := Int × Int × Int × Int × Int × Int
def comps (m : Mx) : List Int := [m.1, m.2.1, m.2.2.1, m.2.2.2.1, m.2.2.2.2.1, m.2.2.2.2.2]
def okM (m : Mx) : Bool := (comps m).all inW
def mrow (m : Mx) : List Value := [.int .i64 m.1, .int .i64 m.2.1, .int .i64 m.2.2.1, .int .i64 m.2.2.2.1, .int .i64 m.2.2.2.2.1, .int .i64 m.2.2.2.2.2]
/-- The product: a, then b. -/
def mulP (a b : Mx) : Option Mx := if okM a = true ∧ okM b = true then
    (dotP [a.1, b.1, a.2.1, b.2.2.1]).bind fun p => (dotP [a.1, b.2.1, a.2.1, b.2.2.2.1]).bind fun q => (dotP [a.2.2.1, b.1, a.2.2.2.1, b.2.2.1]).bind fun r => (dotP [a.2.2.1, b.2.1, a.2.2.2.1, b.2.2.2.1]).bind fun s =>
    (dotP [a.2.2.2.2.1, b.1, a.2.2.2.2.2, b.2.2.1, b.2.2.2.2.1, 10000]).bind fun t => (dotP [a.2.2.2.2.1, b.2.1, a.2.2.2.2.2, b.2.2.2.1, b.2.2.2.2.2, 10000]).bind fun u => some (p, q, r, s, t, u)
  else none
def resM : Option Mx → Mx × Int
  | some m => (m, 0)
  | none => ((0, 0, 0, 0, 0, 0), 2)
def applyP (m : Mx) (p : Int × Int) : Option (Int × Int) := if okM m = true ∧ inW p.1 = true ∧ inW p.2 = true then
    (dotP [p.1, m.1, p.2, m.2.2.1, m.2.2.2.2.1, 10000]).bind fun x => (dotP [p.1, m.2.1, p.2, m.2.2.2.1, m.2.2.2.2.2, 10000]).bind fun y => some (x, y)
  else none
def resP : Option (Int × Int) → (Int × Int) × Int
  | some p => (p, 0)
  | none => ((0, 0), 2)
theorem row4 {w : World} {b : Nat} {t : TypeId} {x0 x1 x2 x3 : Int} (h : Blk w b #[.int .i64 x0, .int .i64 x1, .int .i64 x2, .int .i64 x3] t) : IRow w ⟨some ⟨b, 0, none⟩, 4, 4⟩ [x0, x1, x2, x3] :=
  IRow.of h rfl fun i hi => by
    have : i = 0 ∨ i = 1 ∨ i = 2 ∨ i = 3 := by simp at hi; omega
    rcases this with rfl | rfl | rfl | rfl <;> rfl
theorem row6 {w : World} {b : Nat} {t : TypeId} {x0 x1 x2 x3 x4 x5 : Int} (h : Blk w b #[.int .i64 x0, .int .i64 x1, .int .i64 x2, .int .i64 x3, .int .i64 x4, .int .i64 x5] t) : IRow w ⟨some ⟨b, 0, none⟩, 6, 6⟩ [x0, x1, x2, x3, x4, x5] :=
  IRow.of h rfl fun i hi => by
    have : i = 0 ∨ i = 1 ∨ i = 2 ∨ i = 3 ∨ i = 4 ∨ i = 5 := by simp at hi; omega
    rcases this with rfl | rfl | rfl | rfl | rfl | rfl <;> rfl
theorem dotP_in {l : List Int} {n : Int} (h : dotP l = some n) : inW n = true := by
  unfold dotP at h
  split at h
  · rename_i h2; cases h; exact h2.2
  · cases h
theorem c_out (n : Int) (w : World) : C66 n w fun r w1 => r = (!inW n) ∧ w1 = w := by
  refine T66 _ _ _ ?_
  unfold S66
  refine Br.dec (fun h => ⟨?_, rfl⟩) fun h => ⟨?_, rfl⟩
  · rw [inW_no.2 (by omega)]; rfl
  · by_cases h2 : n > 1073741824
    · rw [inW_no.2 (by omega), decide_eq_true h2]; rfl
    · rw [inW_spec.2 (by omega), decide_eq_false h2]; rfl
/-- The panic of this package. -/
def gup (e : Int) : Value := .iface 197 (.agg #[.int .i64 e])
theorem c_need (e : Int) (w : World) : C63 e w (fun w1 => e = 0 ∧ w1 = w) fun v w1 => v = gup e ∧ e ≠ 0 ∧ w1 = w := by
  refine T63 _ _ _ _ ?_
  unfold S63
  exact Br.ne (fun h => ⟨rfl, h, rfl⟩) fun h => ⟨h, rfl⟩
theorem c_dot {s : Slc} {l : List Int} {w : World} (h : IRow w s l) (hl : l.length = 4 ∨ l.length = 6) : C64 s w (fun r w1 => dotP l = some r ∧ Ext (fun _ => False) w w1) fun v w1 => v = gup 2 ∧ dotP l = none ∧ Ext (fun _ => False) w w1 := by
  refine T64 _ _ _ _ ?_
  unfold S64
  refine (Fix.c_dot h (by omega)).mono ?_
  rintro r e w1 ⟨h1, he⟩
  have hd : dotF l = match dotP l with
    | some n => (n, 0)
    | none => (0, 2) := if_neg (by omega)
  rw [hd] at h1
  cases hp : dotP l with
  | none =>
    rw [hp] at h1
    cases h1
    refine (c_need _ _).mono (fun w2 h => absurd h.1 (by omega)) fun v w2 h => ⟨h.1, rfl, ?_⟩
    obtain ⟨_, _, rfl⟩ := h
    exact he
  | some n =>
    rw [hp] at h1
    cases h1
    refine (c_need _ _).mono (fun w2 h => ?_) fun v w2 h => absurd rfl h.2.1
    obtain ⟨_, rfl⟩ := h
    refine (c_out _ _).mono ?_
    rintro b _ ⟨rfl, rfl⟩
    rw [dotP_in hp]
    exact ⟨rfl, he⟩
theorem c_parts {w0 w : World} {L : List (Nat × List Value × TypeId)} {b : Nat} (h : Hn w0 w L) : C87 (some (⟨b, 0, none⟩ : Addr)) w fun r w1 => r = (some (⟨b, 0, none⟩ : Addr), some (⟨b, 1, none⟩ : Addr), some (⟨b, 2, none⟩ : Addr), some (⟨b, 3, none⟩ : Addr), some (⟨b, 4, none⟩ : Addr), some (⟨b, 5, none⟩ : Addr)) ∧ Ext (fun _ => False) w w1 := by
  refine T87 _ _ _ ?_
  unfold S87
  refine (Hn.start w).nw fun w2 H => ?_
  have H := H.drew
  simp only [add_lit]
  refine Nn.of (Nn.of (Nn.of (Nn.of (Nn.of (Nn.of ?_)))))
  simp only [add_lit, Nat.zero_add]
  refine H.st 0 rfl (by simp) fun _ H => ?_
  refine H.st 0 rfl (by simp) fun _ H => ?_
  refine H.st 0 rfl (by simp) fun _ H => ?_
  refine H.st 0 rfl (by simp) fun _ H => ?_
  refine H.st 0 rfl (by simp) fun _ H => ?_
  refine H.st 0 rfl (by simp) fun _ H => ?_
  refine H.ld 0 rfl rfl ?_
  refine H.ld 0 rfl rfl ?_
  refine H.ld 0 rfl rfl ?_
  refine H.ld 0 rfl rfl ?_
  refine H.ld 0 rfl rfl ?_
  refine H.ld 0 rfl rfl ?_
  exact ⟨rfl, H.ext⟩
theorem c_check (m : Mx) (w : World) : C26 m w fun r w1 => r = (if okM m = true then 0 else 2) ∧ Ext (fun _ => False) w w1 := by
  refine T26 _ _ _ ?_
  unfold S26
  refine (Hn.start w).nw fun w2 H => (c_parts H).mono ?_
  rintro r w3 ⟨rfl, he⟩
  have H := H.keep he
  refine ⟨fun n st w4 => ∃ i : Nat, st = (i : Int) ∧ i ≤ 6 ∧ n = 6 - i ∧ w4 = w3 ∧ ∀ j, j < i → inW ((comps m).getD j 0) = true, 6, ⟨0, rfl, by omega, rfl, rfl, fun j hj => by omega⟩, ?_⟩
  rintro n st w4 ⟨i, rfl, hi, rfl, rfl, hall⟩
  unfold S26L1
  refine Br.dec (fun e => ⟨by omega, by omega, ?_⟩) fun e => ⟨?_, H.ext⟩
  · have fin : ∀ x : Int, (comps m).getD i 0 = x → C66 x w4 fun r11 vw12 => Br r11 ((2 : Int) = (if okM m = true then 0 else 2) ∧ Ext (fun _ => False) w vw12) (∃ n', n' < 6 - i ∧ ∃ i' : Nat, IntKind.i64.wrap ((i : Int) + 1) = (i' : Int) ∧ i' ≤ 6 ∧ n' = 6 - i' ∧ vw12 = w4 ∧ ∀ j, j < i' → inW ((comps m).getD j 0) = true) := fun x hx => by
      refine (c_out _ _).mono ?_
      rintro r _ ⟨rfl, rfl⟩
      cases hw : inW x with
      | true =>
        refine ⟨6 - (i + 1), by omega, i + 1, by rw [i64_id (by omega)]; rfl, by omega, rfl, rfl, fun j hj => ?_⟩
        by_cases hji : j = i
        · rw [hji, hx]; exact hw
        · exact hall j (by omega)
      | false =>
        refine ⟨?_, H.ext⟩
        rw [if_neg]
        intro hm
        have := (all_iff _).1 hm i (by show i < 6; omega)
        rw [hx, hw] at this
        cases this
    have hc : i = 0 ∨ i = 1 ∨ i = 2 ∨ i = 3 ∨ i = 4 ∨ i = 5 := by omega
    rcases hc with rfl | rfl | rfl | rfl | rfl | rfl <;> exact ⟨_, rfl, Nn.of (H.ld 0 rfl rfl (fin _ (by rfl)))⟩
  · rw [if_pos]
    exact (all_iff _).2 fun j hj => hall j (by have : j < 6 := hj; omega)
theorem c_caught_nil (a : Option Addr) (w : World) : C62 Value.nilIface a w (fun w1 => w1 = w) fun _ _ => False := by
  refine T62_nil _ _ _ _ ?_
  unfold S62_nil
  rfl
theorem c_caught {w0 w : World} {L : List (Nat × List Value × TypeId)} {b o : Nat} {cs : List Value} {t : TypeId} (H : Hn w0 w L) (e : Int) (i : Nat) (hi : L[i]? = some (b, cs, t)) (ho : o < cs.length) :
    C62 (gup e) (some ⟨b, o, none⟩) w (fun w1 => Hn w0 w1 (L.set i (b, cs.set o (.int .i64 e), t))) fun _ _ => False := by
  refine T62_T197 _ _ _ _ _ ?_
  unfold S62_T197
  have hi' : (L ++ [(w.heap.size, [.int .i64 0], 197)])[i]? = some (b, cs, t) := by
    rw [List.getElem?_append_left (List.getElem?_eq_some_iff.1 hi).1]; exact hi
  have hl : (L ++ [(w.heap.size, [.int .i64 0], 197)])[L.length]? = some (w.heap.size, [.int .i64 0], 197) := by simp
  refine H.nw' fun w2 H2 he2 => ?_
  refine H2.st' L.length hl (by simp) fun w3 H3 he3 => ?_
  have hlen : L.length < (L ++ [(w.heap.size, [Value.int .i64 0], 197)]).length := by simp
  refine H3.ld L.length (by rw [List.getElem?_set_self hlen]) rfl (Nn.of ?_)
  have H4 := H.keep he2
  have H5 := H4.other he3 (fun j hj => ⟨by rw [hj]; exact H.size, fun hm => by
    have := H.all_lt hm
    omega⟩)
  exact H5.st i hi ho fun w4 H6 => H6
section
variable {w0 w : World}
/-- What Mul's deferred call leaves. -/
theorem c_mulD (a b p : Mx) (e : Int) {L : List (Nat × List Value × TypeId)} {b1 b2 : Nat} {t1 t2 : TypeId} {R : World → Prop}
    (H : Hn w0 w L) (i j : Nat) (hi : L[i]? = some (b2, mrow p, t2)) (hj : L[j]? = some (b1, [.int .i64 e], t1)) (he : e = 0)
    (k : R w) : CD61 (⟨b1, 0, none⟩ : Addr) (⟨b2, 0, none⟩ : Addr) none w R := by
  refine T61_nil _ _ _ _ ?_
  unfold S61_nil
  refine (c_caught_nil _ _).mono (fun w1 h => ?_) fun _ _ h => h.elim
  subst h
  refine H.ld j hj rfl ?_
  exact Br.ne (fun h => absurd he h) fun _ => k
theorem c_mul (a b : Mx) (w : World) : C18 a b w fun r e w1 => (r, e) = resM (mulP a b) ∧ Ext (fun _ => False) w w1 := by
  refine T18 _ _ _ _ ?_
  unfold S18
  refine (Hn.start w).nw fun w3 H => H.nw fun w4 H => H.nw fun w5 H => H.nw fun w6 H => ?_
  have caught : ∀ (p : Mx) (c : Int) (v : Value) (w7 : World), Hn w w7 [(w.heap.size, mrow a, 23), (w3.heap.size, mrow b, 23), (w4.heap.size, mrow p, 23), (w5.heap.size, [.int .i64 c], 38)] → v = gup 2 → mulP a b = none →
      S18P w4 w5 (fun r e w1 => (r, e) = resM (mulP a b) ∧ Ext (fun _ => False) w w1) v w7 := fun p c v w7 H hv hm => by
    subst hv
    unfold S18P
    refine T61_T197 _ _ 2 _ _ ?_
    unfold S61_T197
    refine (c_caught H 2 3 rfl (by simp)).mono (fun w8 H => ?_) fun _ _ h => h.elim
    refine H.ld 3 rfl rfl (Br.ne (fun _ => ?_) fun h => by cases h)
    refine H.st 2 rfl (by simp [mrow]) fun _ H => H.st 2 rfl (by simp [mrow]) fun _ H => H.st 2 rfl (by simp [mrow]) fun _ H => H.st 2 rfl (by simp [mrow]) fun _ H => H.st 2 rfl (by simp [mrow]) fun _ H => H.st 2 rfl (by simp [mrow]) fun _ H => ?_
    refine H.ld 2 rfl rfl (H.ld 2 rfl rfl (H.ld 2 rfl rfl (H.ld 2 rfl rfl (H.ld 2 rfl rfl (H.ld 2 rfl rfl (H.ld 3 rfl rfl ⟨?_, H.ext⟩))))))
    rw [hm]
    rfl
  have no : ∀ {w7 : World} {v : Value}, Ext (fun _ => False) w6 w7 → v = gup 2 → mulP a b = none → S18P w4 w5 (fun r e w1 => (r, e) = resM (mulP a b) ∧ Ext (fun _ => False) w w1) v w7 := fun he hv hm => caught (0, 0, 0, 0, 0, 0) 0 _ _ (H.keep he) hv hm
  repeat (first | refine H.ld 0 rfl rfl ?_ | refine H.ld 1 rfl rfl ?_ | refine H.ld 2 rfl rfl ?_ | refine H.ld 3 rfl rfl ?_ | refine H.ld 4 rfl rfl ?_ | refine H.ld 5 rfl rfl ?_)
  refine (c_check a _).mono ?_
  rintro r w7 ⟨rfl, he⟩
  have e7 := he
  have H := H.keep he
  refine (c_need _ _).mono (fun w8 h8 => ?_) fun v w8 h8 => ?_
  case refine_2 =>
    obtain ⟨hv, hne, rfl⟩ := h8
    have hka : ¬ okM a = true := fun h => hne (if_pos h)
    rw [if_neg hka] at hv
    exact no e7 hv (if_neg fun h => hka h.1)
  obtain ⟨hz, rfl⟩ := h8
  have hka : okM a = true := by
    refine Decidable.byContradiction fun h => ?_
    rw [if_neg h] at hz
    cases hz
  repeat (first | refine H.ld 0 rfl rfl ?_ | refine H.ld 1 rfl rfl ?_ | refine H.ld 2 rfl rfl ?_ | refine H.ld 3 rfl rfl ?_ | refine H.ld 4 rfl rfl ?_ | refine H.ld 5 rfl rfl ?_)
  refine (c_check b _).mono ?_
  rintro r w9 ⟨rfl, he⟩
  have e9 := e7.tr he
  have H := H.keep he
  refine (c_need _ _).mono (fun w10 h8 => ?_) fun v w10 h8 => ?_
  case refine_2 =>
    obtain ⟨hv, hne, rfl⟩ := h8
    have hkb : ¬ okM b = true := fun h => hne (if_pos h)
    rw [if_neg hkb] at hv
    exact no e9 hv (if_neg fun h => hkb h.2)
  obtain ⟨hz, rfl⟩ := h8
  have hkb : okM b = true := by
    refine Decidable.byContradiction fun h => ?_
    rw [if_neg h] at hz
    cases hz
  have HD := H.drew
  have eD := e9.drew
  have hmul : mulP a b = (dotP [a.1, b.1, a.2.1, b.2.2.1]).bind fun p => (dotP [a.1, b.2.1, a.2.1, b.2.2.2.1]).bind fun q => (dotP [a.2.2.1, b.1, a.2.2.2.1, b.2.2.1]).bind fun r => (dotP [a.2.2.1, b.2.1, a.2.2.2.1, b.2.2.2.1]).bind fun s =>
    (dotP [a.2.2.2.2.1, b.1, a.2.2.2.2.2, b.2.2.1, b.2.2.2.2.1, 10000]).bind fun t => (dotP [a.2.2.2.2.1, b.2.1, a.2.2.2.2.2, b.2.2.2.1, b.2.2.2.2.2, 10000]).bind fun u => some (p, q, r, s, t, u) := if_pos ⟨hka, hkb⟩
  have bnone : ∀ {α β : Type} (x : Option α), (x.bind fun _ => (none : Option β)) = none := fun x => by cases x <;> rfl
  have no' : ∀ {w11 w12 : World} {v : Value}, Ext (fun _ => False) w10.drew w11 → Ext (fun _ => False) w11 w12 → v = gup 2 → mulP a b = none → S18P w4 w5 (fun r e w1 => (r, e) = resM (mulP a b) ∧ Ext (fun _ => False) w w1) v w12 := fun h1 h2 hv hm => no ((eD.tr h1).tr h2) hv hm
  have hS0 : ∀ w11, Ext (fun _ => False) w10.drew w11 → Blk w11 w.heap.size (mrow a).toArray 23 := fun w11 h => (HD.keep h).get 0 rfl
  have hS1 : ∀ w11, Ext (fun _ => False) w10.drew w11 → Blk w11 w3.heap.size (mrow b).toArray 23 := fun w11 h => (HD.keep h).get 1 rfl
  refine ⟨fun w11 => Ext (fun _ => False) w10.drew w11, Ext.refl _ _, ?_⟩
  repeat (first | refine LdS.of hS0 rfl ?_ | refine LdS.of hS1 rfl ?_)
  have eN : ∀ (w11 : World) (o : Obj), Ext (fun _ => False) w11 (w11.alloc o) := fun w11 o => (Ext.refl _ _).alloc o
  refine ⟨fun a b => Ext (fun _ => False) a b, fun _ => True, trivial,
    fun x w' => IRow w' x [a.1, b.1, a.2.1, b.2.2.1], fun x _ _ h h2 => h2.keep h, fun x _ => dotP [a.1, b.1, a.2.1, b.2.2.1] = some x, fun _ _ _ _ h => h,
    fun x w' => IRow w' x [a.1, b.2.1, a.2.1, b.2.2.2.1], fun x _ _ h h2 => h2.keep h, fun x _ => dotP [a.1, b.2.1, a.2.1, b.2.2.2.1] = some x, fun _ _ _ _ h => h,
    fun x w' => IRow w' x [a.2.2.1, b.1, a.2.2.2.1, b.2.2.1], fun x _ _ h h2 => h2.keep h, fun x _ => dotP [a.2.2.1, b.1, a.2.2.2.1, b.2.2.1] = some x, fun _ _ _ _ h => h,
    fun x w' => IRow w' x [a.2.2.1, b.2.1, a.2.2.2.1, b.2.2.2.1], fun x _ _ h h2 => h2.keep h, fun x _ => dotP [a.2.2.1, b.2.1, a.2.2.2.1, b.2.2.2.1] = some x, fun _ _ _ _ h => h,
    fun x w' => IRow w' x [a.2.2.2.2.1, b.1, a.2.2.2.2.2, b.2.2.1, b.2.2.2.2.1, 10000], fun x _ _ h h2 => h2.keep h, fun x _ => dotP [a.2.2.2.2.1, b.1, a.2.2.2.2.2, b.2.2.1, b.2.2.2.2.1, 10000] = some x, fun _ _ _ _ h => h,
    fun x w' => IRow w' x [a.2.2.2.2.1, b.2.1, a.2.2.2.2.2, b.2.2.2.1, b.2.2.2.2.2, 10000], fun x _ _ h h2 => h2.keep h, ⟨?n1, ?c1, ?n2, ?c2, ?n3, ?c3, ?n4, ?c4, ?n5, ?c5, ?n6, trivial⟩, ?fin⟩
  case n1 => exact fun w11 h _ => ⟨h.tr (eN _ _), trivial, eN _ _, _, rfl, row4 (Blk.new _ _ _)⟩
  case n2 => exact fun w11 h _ => ⟨h.tr (eN _ _), trivial, eN _ _, _, rfl, row4 (Blk.new _ _ _)⟩
  case n3 => exact fun w11 h _ => ⟨h.tr (eN _ _), trivial, eN _ _, _, rfl, row4 (Blk.new _ _ _)⟩
  case n4 => exact fun w11 h _ => ⟨h.tr (eN _ _), trivial, eN _ _, _, rfl, row4 (Blk.new _ _ _)⟩
  case n5 => exact fun w11 h _ => ⟨h.tr (eN _ _), trivial, eN _ _, _, rfl, row6 (Blk.new _ _ _)⟩
  case n6 => exact fun w11 h _ => ⟨h.tr (eN _ _), trivial, eN _ _, _, rfl, row6 (Blk.new _ _ _)⟩
  case c1 => exact fun w11 h _ x hx => (c_dot hx (.inl rfl)).mono (fun r w12 h2 => ⟨h.tr h2.2, trivial, h2.2, r, rfl, h2.1⟩) fun v w12 h2 => no' h h2.2.2 h2.1 (by rw [hmul, h2.2.1]; rfl)
  case c2 => exact fun w11 h _ x hx => (c_dot hx (.inl rfl)).mono (fun r w12 h2 => ⟨h.tr h2.2, trivial, h2.2, r, rfl, h2.1⟩) fun v w12 h2 => no' h h2.2.2 h2.1 (by rw [hmul, h2.2.1]; simp [bnone])
  case c3 => exact fun w11 h _ x hx => (c_dot hx (.inl rfl)).mono (fun r w12 h2 => ⟨h.tr h2.2, trivial, h2.2, r, rfl, h2.1⟩) fun v w12 h2 => no' h h2.2.2 h2.1 (by rw [hmul, h2.2.1]; simp [bnone])
  case c4 => exact fun w11 h _ x hx => (c_dot hx (.inl rfl)).mono (fun r w12 h2 => ⟨h.tr h2.2, trivial, h2.2, r, rfl, h2.1⟩) fun v w12 h2 => no' h h2.2.2 h2.1 (by rw [hmul, h2.2.1]; simp [bnone])
  case c5 => exact fun w11 h _ x hx => (c_dot hx (.inr rfl)).mono (fun r w12 h2 => ⟨h.tr h2.2, trivial, h2.2, r, rfl, h2.1⟩) fun v w12 h2 => no' h h2.2.2 h2.1 (by rw [hmul, h2.2.1]; simp [bnone])
  case fin =>
    intro w11 h _ _ _ x1 h1 _ _ x2 h2 _ _ x3 h3 _ _ x4 h4 _ _ x5 h5 _ hx6
    refine (c_dot hx6 (.inr rfl)).mono (fun x6 w12 h12 => ?_) fun v w12 h12 => no' h h12.2.2 h12.1 (by rw [hmul, h12.2.1]; simp [bnone])
    have H := HD.keep (h.tr h12.2)
    refine H.st 2 rfl (by simp) fun _ H => H.st 2 rfl (by simp) fun _ H => H.st 2 rfl (by simp) fun _ H => H.st 2 rfl (by simp) fun _ H => H.st 2 rfl (by simp) fun _ H => H.st 2 rfl (by simp) fun _ H => H.st 3 rfl (by simp) fun w14 H => ?_
    refine c_mulD a b (x1, x2, x3, x4, x5, x6) 0 H 2 3 rfl rfl rfl ?_
    refine H.ld 2 rfl rfl (H.ld 2 rfl rfl (H.ld 2 rfl rfl (H.ld 2 rfl rfl (H.ld 2 rfl rfl (H.ld 2 rfl rfl (H.ld 3 rfl rfl ⟨?_, H.ext⟩))))))
    rw [hmul, h1, h2, h3, h4, h5, h12.1]
    rfl
end
end Mat
end Go.Proofs.YtjbeembbnkmpeaaDoor

/- Package matrix: images, lengths and boxes, of the program. No condition. -/
namespace Go.Proofs.YtjbeembbnkmpeaaDoor
namespace Mat
open Sh Fix
set_option linter.unusedVariables false
set_option linter.unusedSimpArgs false
set_option maxRecDepth 4000
set_option maxHeartbeats 1000000
attribute [local irreducible] Ld St Nw Nn Lt LdS

theorem bnone {α β : Type} (x : Option α) : (x.bind fun _ => (none : Option β)) = none := by cases x <;> rfl
theorem c_apply (m : Mx) (p : Int × Int) (w : World) : C19 m p w fun r e w1 => (r, e) = resP (applyP m p) ∧ Ext (fun _ => False) w w1 := by
  refine T19 _ _ _ _ ?_
  unfold S19
  refine (Hn.start w).nw fun w3 H => H.nw fun w4 H => H.nw fun w5 H => H.nw fun w6 H => ?_
  have caught : ∀ (q : Int × Int) (c : Int) (v : Value) (w7 : World), Hn w w7 [(w.heap.size, mrow m, 23), (w3.heap.size, [.int .i64 p.1, .int .i64 p.2], 43), (w4.heap.size, [.int .i64 q.1, .int .i64 q.2], 43), (w5.heap.size, [.int .i64 c], 38)] → v = gup 2 → applyP m p = none →
      S19P w4 w5 (fun r e w1 => (r, e) = resP (applyP m p) ∧ Ext (fun _ => False) w w1) v w7 := fun q c v w7 H hv hm => by
    subst hv
    unfold S19P
    refine T65_T197 _ _ 2 _ _ ?_
    unfold S65_T197
    refine (c_caught H 2 3 rfl (by simp)).mono (fun w8 H => ?_) fun _ _ h => h.elim
    refine H.ld 3 rfl rfl (Br.ne (fun _ => ?_) fun h => by cases h)
    repeat (first | refine Lt.of ?_ | refine Nn.of ?_ | refine H.ld 0 rfl rfl ?_ | refine H.ld 1 rfl rfl ?_ | refine H.ld 2 rfl rfl ?_ | refine H.ld 3 rfl rfl ?_ | refine H.ld 4 rfl rfl ?_ | refine H.ld 5 rfl rfl ?_ | (refine H.st 0 rfl (by simp) fun _ H => ?_; simp only [List.nil_append, List.cons_append, List.set_cons_zero, List.set_cons_succ, Nat.zero_add] at H) | (refine H.st 1 rfl (by simp) fun _ H => ?_; simp only [List.nil_append, List.cons_append, List.set_cons_zero, List.set_cons_succ, Nat.zero_add] at H) | (refine H.st 2 rfl (by simp) fun _ H => ?_; simp only [List.nil_append, List.cons_append, List.set_cons_zero, List.set_cons_succ, Nat.zero_add] at H) | (refine H.st 3 rfl (by simp) fun _ H => ?_; simp only [List.nil_append, List.cons_append, List.set_cons_zero, List.set_cons_succ, Nat.zero_add] at H) | (refine H.st 4 rfl (by simp) fun _ H => ?_; simp only [List.nil_append, List.cons_append, List.set_cons_zero, List.set_cons_succ, Nat.zero_add] at H) | (refine H.st 5 rfl (by simp) fun _ H => ?_; simp only [List.nil_append, List.cons_append, List.set_cons_zero, List.set_cons_succ, Nat.zero_add] at H))
    refine ⟨?_, H.ext⟩
    rw [hm]
    rfl
  have no : ∀ {w7 : World} {v : Value}, Ext (fun _ => False) w6 w7 → v = gup 2 → applyP m p = none → S19P w4 w5 (fun r e w1 => (r, e) = resP (applyP m p) ∧ Ext (fun _ => False) w w1) v w7 := fun he hv hm => caught (0, 0) 0 _ _ (H.keep he) hv hm
  repeat (first | refine H.ld 0 rfl rfl ?_ | refine H.ld 1 rfl rfl ?_ | refine H.ld 2 rfl rfl ?_ | refine H.ld 3 rfl rfl ?_ | refine H.ld 4 rfl rfl ?_ | refine H.ld 5 rfl rfl ?_)
  refine (c_check m _).mono ?_
  rintro r w7 ⟨rfl, he⟩
  have e7 := he
  have H := H.keep he
  refine (c_need _ _).mono (fun w8 h8 => ?_) fun v w8 h8 => ?_
  case refine_2 =>
    obtain ⟨hv, hne, rfl⟩ := h8
    have hka : ¬ okM m = true := fun h => hne (if_pos h)
    rw [if_neg hka] at hv
    exact no e7 hv (if_neg fun h => hka h.1)
  obtain ⟨hz, rfl⟩ := h8
  have hka : okM m = true := by
    refine Decidable.byContradiction fun h => ?_
    rw [if_neg h] at hz
    cases hz
  refine ⟨fun _ w9 => w9 = w8 ∧ inW p.1 = true ∧ inW p.2 = true, ?_, ?_⟩
  case refine_2 =>
    have two : ∀ {Q : World → Prop}, (¬ (inW p.1 = true ∧ inW p.2 = true)) → C63 2 w8 Q (S19P w4 w5 (fun r e w1 => (r, e) = resP (applyP m p) ∧ Ext (fun _ => False) w w1)) := fun hn => (c_need _ _).mono (fun w9 h => absurd h.1 (by omega)) fun v w9 h => by
      obtain ⟨hv, _, rfl⟩ := h
      exact no e7 hv (if_neg fun h => hn h.2)
    refine H.ld 1 rfl rfl ((c_out _ _).mono ?_)
    rintro b _ ⟨rfl, rfl⟩
    refine Br_of (fun h => two fun h2 => by rw [h2.1] at h; cases h) fun h1 => H.ld 1 rfl rfl ((c_out _ _).mono ?_)
    rintro b _ ⟨rfl, rfl⟩
    exact Br_of (fun h => two fun h2 => by rw [h2.2] at h; cases h) fun h2 => ⟨rfl, by simpa using h1, by simpa using h2⟩
  rintro _ w9 ⟨rfl, hi1, hi2⟩
  unfold S19J1
  have HD := H.drew
  have eD := e7.drew
  have happ : applyP m p = (dotP [p.1, m.1, p.2, m.2.2.1, m.2.2.2.2.1, 10000]).bind fun x => (dotP [p.1, m.2.1, p.2, m.2.2.2.1, m.2.2.2.2.2, 10000]).bind fun y => some (x, y) := if_pos ⟨hka, hi1, hi2⟩
  have no' : ∀ {w11 w12 : World} {v : Value}, Ext (fun _ => False) w9.drew w11 → Ext (fun _ => False) w11 w12 → v = gup 2 → applyP m p = none → S19P w4 w5 (fun r e w1 => (r, e) = resP (applyP m p) ∧ Ext (fun _ => False) w w1) v w12 := fun h1 h2 hv hm => no ((eD.tr h1).tr h2) hv hm
  have hS0 : ∀ w11, Ext (fun _ => False) w9.drew w11 → Blk w11 w.heap.size (mrow m).toArray 23 := fun w11 h => (HD.keep h).get 0 rfl
  have hS1 : ∀ w11, Ext (fun _ => False) w9.drew w11 → Blk w11 w3.heap.size #[.int .i64 p.1, .int .i64 p.2] 43 := fun w11 h => (HD.keep h).get 1 rfl
  have eN : ∀ (w11 : World) (o : Obj), Ext (fun _ => False) w11 (w11.alloc o) := fun w11 o => (Ext.refl _ _).alloc o
  have fin : ∀ (x y : Int) (w12 : World), Ext (fun _ => False) w9.drew w12 → dotP [p.1, m.1, p.2, m.2.2.1, m.2.2.2.2.1, 10000] = some x → dotP [p.1, m.2.1, p.2, m.2.2.2.1, m.2.2.2.2.2, 10000] = some y →
      St w12 (⟨w4.heap.size, 0, none⟩ : Addr) (.int .i64 x) fun vw49 =>
          St vw49 ((⟨w4.heap.size, 0, none⟩ : Addr).add 1) (.int .i64 y) fun vw50 =>
          St vw50 (⟨w5.heap.size, 0, none⟩ : Addr) (.int .i64 0) fun vw51 =>
          CD65 (⟨w5.heap.size, 0, none⟩ : Addr) (⟨w4.heap.size, 0, none⟩ : Addr) none vw51 fun vw52 =>
            Ld vw52 (⟨w4.heap.size, 0, none⟩ : Addr) (Value.int .i64) fun (x53 : Int) =>
            Ld vw52 ((⟨w4.heap.size, 0, none⟩ : Addr).add 1) (Value.int .i64) fun (x54 : Int) =>
            Ld vw52 (⟨w5.heap.size, 0, none⟩ : Addr) (Value.int .i64) fun (x55 : Int) =>
            ((x53, x54), x55) = resP (applyP m p) ∧ Ext (fun _ => False) w vw52 := fun x y w12 he hx hy => by
    have H := HD.keep he
    repeat (first | refine Lt.of ?_ | refine Nn.of ?_ | refine H.ld 0 rfl rfl ?_ | refine H.ld 1 rfl rfl ?_ | refine H.ld 2 rfl rfl ?_ | refine H.ld 3 rfl rfl ?_ | refine H.ld 4 rfl rfl ?_ | refine H.ld 5 rfl rfl ?_ | (refine H.st 0 rfl (by simp) fun _ H => ?_; simp only [List.nil_append, List.cons_append, List.set_cons_zero, List.set_cons_succ, Nat.zero_add] at H) | (refine H.st 1 rfl (by simp) fun _ H => ?_; simp only [List.nil_append, List.cons_append, List.set_cons_zero, List.set_cons_succ, Nat.zero_add] at H) | (refine H.st 2 rfl (by simp) fun _ H => ?_; simp only [List.nil_append, List.cons_append, List.set_cons_zero, List.set_cons_succ, Nat.zero_add] at H) | (refine H.st 3 rfl (by simp) fun _ H => ?_; simp only [List.nil_append, List.cons_append, List.set_cons_zero, List.set_cons_succ, Nat.zero_add] at H) | (refine H.st 4 rfl (by simp) fun _ H => ?_; simp only [List.nil_append, List.cons_append, List.set_cons_zero, List.set_cons_succ, Nat.zero_add] at H) | (refine H.st 5 rfl (by simp) fun _ H => ?_; simp only [List.nil_append, List.cons_append, List.set_cons_zero, List.set_cons_succ, Nat.zero_add] at H))
    refine T65_nil _ _ _ _ ?_
    unfold S65_nil
    refine (c_caught_nil _ _).mono (fun w1 h => ?_) fun _ _ h => h.elim
    subst h
    refine H.ld 3 rfl rfl (Br.ne (fun h => absurd rfl h) fun _ => ?_)
    repeat (first | refine H.ld 0 rfl rfl ?_ | refine H.ld 1 rfl rfl ?_ | refine H.ld 2 rfl rfl ?_ | refine H.ld 3 rfl rfl ?_ | refine H.ld 4 rfl rfl ?_ | refine H.ld 5 rfl rfl ?_)
    refine ⟨?_, H.ext⟩
    rw [happ, hx, hy]
    rfl
  refine ⟨fun w11 => Ext (fun _ => False) w9.drew w11, Ext.refl _ _, ?_⟩
  repeat (first | refine LdS.of hS0 rfl ?_ | refine LdS.of hS1 rfl ?_)
  refine ⟨Nw.of ⟨eN _ _, ?_, Nw.of ?_⟩, Nw.of ⟨eN _ _, Nw.of ⟨(eN _ _).tr (eN _ _), ?_⟩⟩⟩
  · refine (c_dot (row6 (Blk.new _ _ _)) (.inr rfl)).mono (fun r w12 h12 => ?_) fun v w12 h12 => no' (eN _ _) h12.2.2 h12.1 (by rw [happ, h12.2.1]; rfl)
    refine ⟨(eN _ _).tr h12.2, Nw.of ⟨((eN _ _).tr h12.2).tr (eN _ _), ?_⟩⟩
    refine (c_dot (row6 (Blk.new _ _ _)) (.inr rfl)).mono (fun r2 w13 h13 => ?_) fun v w13 h13 => no' (((eN _ _).tr h12.2).tr (eN _ _)) h13.2.2 h13.1 (by rw [happ, h13.2.1]; simp [bnone])
    exact fin _ _ _ ((((eN _ _).tr h12.2).tr (eN _ _)).tr h13.2) h12.1 h13.1
  · refine ⟨(eN _ _).tr (eN _ _), (c_dot (row6 ((eN _ _).blk (Blk.new _ _ _) id)) (.inr rfl)).mono (fun r w12 h12 => ?_) fun v w12 h12 => no' ((eN _ _).tr (eN _ _)) h12.2.2 h12.1 (by rw [happ, h12.2.1]; rfl)⟩
    refine ⟨((eN _ _).tr (eN _ _)).tr h12.2, (c_dot (row6 (h12.2.blk (Blk.new _ _ _) id)) (.inr rfl)).mono (fun r2 w13 h13 => ?_) fun v w13 h13 => no' (((eN _ _).tr (eN _ _)).tr h12.2) h13.2.2 h13.1 (by rw [happ, h13.2.1]; simp [bnone])⟩
    exact fin _ _ _ ((((eN _ _).tr (eN _ _)).tr h12.2).tr h13.2) h12.1 h13.1
  · refine (c_dot (row6 (Blk.new _ _ _)) (.inr rfl)).mono (fun r w12 h12 => ?_) fun v w12 h12 => no' ((eN _ _).tr (eN _ _)) h12.2.2 h12.1 (by rw [happ, h12.2.1]; rfl)
    refine ⟨((eN _ _).tr (eN _ _)).tr h12.2, (c_dot (row6 (h12.2.blk ((eN _ _).blk (Blk.new _ _ _) id) id)) (.inr rfl)).mono (fun r2 w13 h13 => ?_) fun v w13 h13 => no' (((eN _ _).tr (eN _ _)).tr h12.2) h13.2.2 h13.1 (by rw [happ, h13.2.1]; simp [bnone])⟩
    exact fin _ _ _ ((((eN _ _).tr (eN _ _)).tr h12.2).tr h13.2) h12.1 h13.1
/-- The integer square root. -/
def isRoot (n s : Int) : Prop := 0 ≤ s ∧ s * s ≤ n ∧ n < (s + 1) * (s + 1)
theorem isRoot_eq {n s t : Int} (hs : isRoot n s) (ht : isRoot n t) : s = t := by
  obtain ⟨h1, h2, h3⟩ := hs
  obtain ⟨g1, g2, g3⟩ := ht
  rcases Int.lt_trichotomy s t with h | h | h
  · have := Int.mul_le_mul (show s + 1 ≤ t by omega) (show s + 1 ≤ t by omega) (by omega) (by omega)
    omega
  · exact h
  · have := Int.mul_le_mul (show t + 1 ≤ s by omega) (show t + 1 ≤ s by omega) (by omega) (by omega)
    omega
theorem le_div {t n : Int} (ht : 0 < t) (hn : 0 ≤ n) : (t ≤ n / t) ↔ t * t ≤ n := Int.le_ediv_iff_mul_le ht
def flat (m : Mx) : Mx := (m.1, m.2.1, m.2.2.1, m.2.2.2.1, 0, 0)
/-- The length of a vector's image: what Length answers. -/
def IsLen (m : Mx) (p : Int × Int) (x : Int × Int) : Prop := match applyP (flat m) p with
  | none => x = (0, 2)
  | some q => ∃ s, isRoot (q.1 * q.1 + q.2 * q.2) s ∧ x = if 1073741824 < s then (0, 2) else (s, 0)
theorem isLen_eq {m : Mx} {p : Int × Int} {x y : Int × Int} (hx : IsLen m p x) (hy : IsLen m p y) : x = y := by
  unfold IsLen at hx hy
  split at hx
  · rename_i h; rw [h] at hy; rw [hx, hy]
  · rename_i q h
    rw [h] at hy
    obtain ⟨s, h1, h2⟩ := hx
    obtain ⟨t, h3, h4⟩ := hy
    rw [h2, h4, isRoot_eq h1 h3]
theorem applyP_in {m : Mx} {p q : Int × Int} (h : applyP m p = some q) : inW q.1 = true ∧ inW q.2 = true := by
  unfold applyP at h
  split at h
  · obtain ⟨x, h1, h⟩ := Option.bind_eq_some_iff.1 h
    obtain ⟨y, h2, h⟩ := Option.bind_eq_some_iff.1 h
    cases h
    exact ⟨dotP_in h1, dotP_in h2⟩
  · cases h
theorem sq_bd {q : Int × Int} (h1 : inW q.1 = true) (h2 : inW q.2 = true) : 0 ≤ q.1 * q.1 ∧ q.1 * q.1 ≤ 1152921504606846976 ∧ 0 ≤ q.2 * q.2 ∧ q.2 * q.2 ≤ 1152921504606846976 := by
  have h1 := inW_spec.1 h1
  have h2 := inW_spec.1 h2
  exact ⟨by rw [← Int.natAbs_mul_self]; omega, (mul_bd h1 h1).2, by rw [← Int.natAbs_mul_self]; omega, (mul_bd h2 h2).2⟩
def one : Mx := (10000, 0, 0, 10000, 0, 0)
def moveM (x y : Int) : Mx := (10000, 0, 0, 10000, x, y)
def scaleM (x y : Int) : Mx := (x, 0, 0, y, 0, 0)
theorem c_one (w : World) : C14 w fun r w1 => r = one ∧ Ext (fun _ => False) w w1 := by
  refine T14 _ _ ?_
  unfold S14
  refine (Hn.start w).nw fun w3 H => ?_
  repeat (first | refine Lt.of ?_ | refine Nn.of ?_ | refine H.ld 0 rfl rfl ?_ | refine H.ld 1 rfl rfl ?_ | refine H.ld 2 rfl rfl ?_ | refine H.ld 3 rfl rfl ?_ | refine H.ld 4 rfl rfl ?_ | refine H.ld 5 rfl rfl ?_ | (refine H.st 0 rfl (by simp) fun _ H => ?_; simp only [List.nil_append, List.cons_append, List.set_cons_zero, List.set_cons_succ, Nat.zero_add] at H) | (refine H.st 1 rfl (by simp) fun _ H => ?_; simp only [List.nil_append, List.cons_append, List.set_cons_zero, List.set_cons_succ, Nat.zero_add] at H) | (refine H.st 2 rfl (by simp) fun _ H => ?_; simp only [List.nil_append, List.cons_append, List.set_cons_zero, List.set_cons_succ, Nat.zero_add] at H) | (refine H.st 3 rfl (by simp) fun _ H => ?_; simp only [List.nil_append, List.cons_append, List.set_cons_zero, List.set_cons_succ, Nat.zero_add] at H) | (refine H.st 4 rfl (by simp) fun _ H => ?_; simp only [List.nil_append, List.cons_append, List.set_cons_zero, List.set_cons_succ, Nat.zero_add] at H) | (refine H.st 5 rfl (by simp) fun _ H => ?_; simp only [List.nil_append, List.cons_append, List.set_cons_zero, List.set_cons_succ, Nat.zero_add] at H))
  exact ⟨rfl, H.ext⟩
/-- The corners of a rectangle. -/
def corner (r : Int × Int × Int × Int) (i : Nat) : Int × Int := if i = 0 then (r.1, r.2.1) else if i = 1 then (r.2.2.1, r.2.1) else if i = 2 then (r.1, r.2.2.2) else (r.2.2.1, r.2.2.2)
/-- The box of the first k + 1 images. -/
def boxK (m : Mx) (r : Int × Int × Int × Int) : Nat → Option (Int × Int × Int × Int)
  | 0 => (applyP m (corner r 0)).map fun q => (q.1, q.2, q.1, q.2)
  | k + 1 => (boxK m r k).bind fun b => (applyP m (corner r (k + 1))).map fun q =>
      ((if q.1 < b.1 then q.1 else b.1), (if q.2 < b.2.1 then q.2 else b.2.1), (if q.1 > b.2.2.1 then q.1 else b.2.2.1), (if q.2 > b.2.2.2 then q.2 else b.2.2.2))
def resB : Option (Int × Int × Int × Int) → (Int × Int × Int × Int) × Int
  | some b => (b, 0)
  | none => ((0, 0, 0, 0), 2)
def rrow (b : Int × Int × Int × Int) : List Value := [.int .i64 b.1, .int .i64 b.2.1, .int .i64 b.2.2.1, .int .i64 b.2.2.2]
@[simp] theorem rrow_len (b : Int × Int × Int × Int) : (rrow b).length = 4 := rfl
@[simp] theorem mrow_len (m : Mx) : (mrow m).length = 6 := rfl
theorem boxK_none {m : Mx} {r : Int × Int × Int × Int} {i : Nat} (h : applyP m (corner r i) = none) : ∀ k, i ≤ k → boxK m r k = none
  | 0, hk => by
    have : i = 0 := by omega
    subst this
    rw [boxK, h]; rfl
  | k + 1, hk => by
    rw [boxK]
    by_cases hi : i = k + 1
    · subst hi
      rw [h]
      cases boxK m r k <;> rfl
    · rw [boxK_none h k (by omega)]
      rfl
end Mat
end Go.Proofs.YtjbeembbnkmpeaaDoor

/- The reference of package matrix answers the same. No condition. -/
namespace Go.Proofs.YtjbeembbnkmpeaaDoor
namespace Mat
open Sh Fix
set_option linter.unusedVariables false
set_option linter.unusedSimpArgs false
set_option maxRecDepth 4000
set_option maxHeartbeats 1000000

theorem row2 {w : World} {b : Nat} {t : TypeId} {x0 x1 : Int} (h : Blk w b #[.int .i64 x0, .int .i64 x1] t) : IRow w ⟨some ⟨b, 0, none⟩, 2, 2⟩ [x0, x1] :=
  IRow.of h rfl fun i hi => by
    have : i = 0 ∨ i = 1 := by simp at hi; omega
    rcases this with rfl | rfl <;> rfl
theorem r_within {s : Slc} {l : List Int} {w : World} (h : IRow w s l) (hl : l.length ≤ 1000) : C106 s w fun r w1 => r = l.all inW ∧ w1 = w := by
  refine T106 _ _ _ ?_
  unfold S106
  have hn := h.1
  refine ⟨fun n st w1 => ∃ i : Nat, st = (i : Int) ∧ i ≤ l.length ∧ n = l.length - i ∧ w1 = w ∧ ∀ j, j < i → inW (l.getD j 0) = true, l.length, ⟨0, rfl, by omega, rfl, rfl, fun j hj => by omega⟩, ?_⟩
  rintro n st w1 ⟨i, rfl, hi, rfl, rfl, hall⟩
  unfold S106L1
  rw [hn]
  refine Br.dec (fun e => ?_) fun e => ⟨((all_iff l).2 fun j hj => hall j (by omega)).symm, rfl⟩
  obtain ⟨a, ha, hc⟩ := h.2 i (by omega)
  rw [ha]
  have hno : inW (l.getD i 0) = false → false = l.all inW := fun hw => by
    cases hx : l.all inW with
    | false => rfl
    | true => have := (all_iff l).1 hx i (by omega); rw [hw] at this; cases this
  refine ⟨by omega, by omega, Nn.of ⟨l.getD i 0, by rw [Int.toNat_natCast, Nat.mul_one]; exact hc, Br.dec (fun h2 => ⟨hno (inW_no.2 (by omega)), rfl⟩) fun h2 => Br.dec (fun h3 => ⟨hno (inW_no.2 (by omega)), rfl⟩) fun h3 => ?_⟩⟩
  refine ⟨l.length - (i + 1), by omega, i + 1, by rw [i64_id (by omega)]; rfl, by omega, rfl, rfl, fun j hj => ?_⟩
  by_cases hji : j = i
  · rw [hji]; exact inW_spec.2 (by omega)
  · exact hall j (by omega)
attribute [local irreducible] Ld St Nw Nn Lt LdS
theorem r_check (m : Mx) (w : World) : C49 m w fun r w1 => r = (if okM m = true then 0 else 2) ∧ Ext (fun _ => False) w w1 := by
  refine T49 _ _ _ ?_
  unfold S49
  refine (Hn.start w).nw fun w2 H => ?_
  iterate 6 refine H.ld 0 rfl rfl ?_
  refine H.nw fun w3 H => ?_
  refine (r_within (l := comps m) (row6 (H.get 1 rfl)) (by show 6 ≤ 1000; decide)).mono ?_
  rintro r w4 ⟨rfl, rfl⟩
  show Br (!okM m) _ _
  cases okM m <;> exact ⟨rfl, H.ext⟩
theorem r_dot {s : Slc} {l : List Int} {w : World} (h : IRow w s l) (hl : l.length = 4 ∨ l.length = 6) : C107 s w fun r e w1 => (r, e) = (match dotP l with
    | some n => (n, 0)
    | none => (0, 2)) ∧ Ext (fun _ => False) w w1 := by
  refine (Fix.r_dot h (by omega)).mono ?_
  rintro r e w1 ⟨h1, he⟩
  refine ⟨?_, he⟩
  rw [h1]
  exact if_neg (by omega)
theorem r_mul (a b : Mx) (w : World) : C172 a b w fun r e w1 => (r, e) = resM (mulP a b) ∧ Ext (fun _ => False) w w1 := by
  refine T172 _ _ _ _ ?_
  unfold S172
  refine (Hn.start w).nw fun w3 H => H.nw fun w4 H => H.nw fun w5 H => ?_
  iterate 6 refine H.ld 0 rfl rfl ?_
  refine (r_check a _).mono ?_
  rintro r w6 ⟨rfl, he⟩
  have H := H.keep he
  have hbad : mulP a b = none → ((0, 0, 0, 0, 0, 0), 2) = resM (mulP a b) := fun h => by rw [h]; rfl
  by_cases hka : okM a = true
  case neg =>
    rw [if_neg hka]
    refine Br.ne (fun _ => ?_) fun h => by cases h
    iterate 6 (refine H.st 2 rfl (by simp) fun _ H => ?_; simp only [List.nil_append, List.cons_append, List.set_cons_zero, List.set_cons_succ, Nat.zero_add] at H)
    iterate 6 refine H.ld 2 rfl rfl ?_
    exact ⟨hbad (if_neg fun h => hka h.1), H.ext⟩
  rw [if_pos hka]
  refine Br.ne (fun h => absurd rfl h) fun _ => ?_
  iterate 6 refine H.ld 1 rfl rfl ?_
  refine (r_check b _).mono ?_
  rintro r w7 ⟨rfl, he⟩
  have H := H.keep he
  by_cases hkb : okM b = true
  case neg =>
    rw [if_neg hkb]
    refine Br.ne (fun _ => ?_) fun h => by cases h
    iterate 6 (refine H.st 2 rfl (by simp) fun _ H => ?_; simp only [List.nil_append, List.cons_append, List.set_cons_zero, List.set_cons_succ, Nat.zero_add] at H)
    iterate 6 refine H.ld 2 rfl rfl ?_
    exact ⟨hbad (if_neg fun h => hkb h.2), H.ext⟩
  rw [if_pos hkb]
  refine Br.ne (fun h => absurd rfl h) fun _ => ?_
  have hmul : mulP a b = (dotP [a.1, b.1, a.2.1, b.2.2.1]).bind fun p => (dotP [a.1, b.2.1, a.2.1, b.2.2.2.1]).bind fun q => (dotP [a.2.2.1, b.1, a.2.2.2.1, b.2.2.1]).bind fun r => (dotP [a.2.2.1, b.2.1, a.2.2.2.1, b.2.2.2.1]).bind fun s =>
    (dotP [a.2.2.2.2.1, b.1, a.2.2.2.2.2, b.2.2.1, b.2.2.2.2.1, 10000]).bind fun t => (dotP [a.2.2.2.2.1, b.2.1, a.2.2.2.2.2, b.2.2.2.1, b.2.2.2.2.2, 10000]).bind fun u => some (p, q, r, s, t, u) := if_pos ⟨hka, hkb⟩
  repeat (first | refine H.ld 0 rfl rfl ?_ | refine H.ld 1 rfl rfl ?_ | refine H.ld 2 rfl rfl ?_ | refine H.ld 3 rfl rfl ?_ | refine H.ld 4 rfl rfl ?_ | refine H.ld 5 rfl rfl ?_)
  refine H.nw fun w8 H => (r_dot (row4 (H.get 3 rfl)) (.inl rfl)).mono ?_
  rintro p1 e1 w9 ⟨h1, he⟩
  have H := (H.keep he).left (L := [_, _, _]) (M := [_])
  repeat (first | refine H.ld 0 rfl rfl ?_ | refine H.ld 1 rfl rfl ?_ | refine H.ld 2 rfl rfl ?_ | refine H.ld 3 rfl rfl ?_ | refine H.ld 4 rfl rfl ?_ | refine H.ld 5 rfl rfl ?_)
  refine H.nw fun w8 H => (r_dot (row4 (H.get 3 rfl)) (.inl rfl)).mono ?_
  rintro p2 e2 w10 ⟨h2, he⟩
  have H := (H.keep he).left (L := [_, _, _]) (M := [_])
  repeat (first | refine H.ld 0 rfl rfl ?_ | refine H.ld 1 rfl rfl ?_ | refine H.ld 2 rfl rfl ?_ | refine H.ld 3 rfl rfl ?_ | refine H.ld 4 rfl rfl ?_ | refine H.ld 5 rfl rfl ?_)
  refine H.nw fun w8 H => (r_dot (row4 (H.get 3 rfl)) (.inl rfl)).mono ?_
  rintro p3 e3 w11 ⟨h3, he⟩
  have H := (H.keep he).left (L := [_, _, _]) (M := [_])
  repeat (first | refine H.ld 0 rfl rfl ?_ | refine H.ld 1 rfl rfl ?_ | refine H.ld 2 rfl rfl ?_ | refine H.ld 3 rfl rfl ?_ | refine H.ld 4 rfl rfl ?_ | refine H.ld 5 rfl rfl ?_)
  refine H.nw fun w8 H => (r_dot (row4 (H.get 3 rfl)) (.inl rfl)).mono ?_
  rintro p4 e4 w12 ⟨h4, he⟩
  have H := (H.keep he).left (L := [_, _, _]) (M := [_])
  repeat (first | refine H.ld 0 rfl rfl ?_ | refine H.ld 1 rfl rfl ?_ | refine H.ld 2 rfl rfl ?_ | refine H.ld 3 rfl rfl ?_ | refine H.ld 4 rfl rfl ?_ | refine H.ld 5 rfl rfl ?_)
  refine H.nw fun w8 H => (r_dot (row6 (H.get 3 rfl)) (.inr rfl)).mono ?_
  rintro p5 e5 w13 ⟨h5, he⟩
  have H := (H.keep he).left (L := [_, _, _]) (M := [_])
  repeat (first | refine H.ld 0 rfl rfl ?_ | refine H.ld 1 rfl rfl ?_ | refine H.ld 2 rfl rfl ?_ | refine H.ld 3 rfl rfl ?_ | refine H.ld 4 rfl rfl ?_ | refine H.ld 5 rfl rfl ?_)
  refine H.nw fun w8 H => (r_dot (row6 (H.get 3 rfl)) (.inr rfl)).mono ?_
  rintro p6 e6 w14 ⟨h6, he⟩
  have H := (H.keep he).left (L := [_, _, _]) (M := [_])
  -- the sums one by one
  cases d1 : dotP [a.1, b.1, a.2.1, b.2.2.1] with
  | none =>
    rw [d1] at h1 hmul
    obtain ⟨rfl, rfl⟩ := Prod.mk.inj h1
    refine Br.ne (fun _ => ?_) fun h => by cases h
    iterate 6 (refine H.st 2 rfl (by simp) fun _ H => ?_; simp only [List.nil_append, List.cons_append, List.set_cons_zero, List.set_cons_succ, Nat.zero_add] at H)
    iterate 6 refine H.ld 2 rfl rfl ?_
    exact ⟨hbad hmul, H.ext⟩
  | some n1 =>
  rw [d1] at h1 hmul
  obtain ⟨rfl, rfl⟩ := Prod.mk.inj h1
  refine Br.ne (fun h => absurd rfl h) fun _ => ?_
  cases d2 : dotP [a.1, b.2.1, a.2.1, b.2.2.2.1] with
  | none =>
    rw [d2] at h2 hmul
    obtain ⟨rfl, rfl⟩ := Prod.mk.inj h2
    refine Br.ne (fun _ => ?_) fun h => by cases h
    iterate 6 (refine H.st 2 rfl (by simp) fun _ H => ?_; simp only [List.nil_append, List.cons_append, List.set_cons_zero, List.set_cons_succ, Nat.zero_add] at H)
    iterate 6 refine H.ld 2 rfl rfl ?_
    exact ⟨hbad hmul, H.ext⟩
  | some n2 =>
  rw [d2] at h2 hmul
  obtain ⟨rfl, rfl⟩ := Prod.mk.inj h2
  refine Br.ne (fun h => absurd rfl h) fun _ => ?_
  cases d3 : dotP [a.2.2.1, b.1, a.2.2.2.1, b.2.2.1] with
  | none =>
    rw [d3] at h3 hmul
    obtain ⟨rfl, rfl⟩ := Prod.mk.inj h3
    refine Br.ne (fun _ => ?_) fun h => by cases h
    iterate 6 (refine H.st 2 rfl (by simp) fun _ H => ?_; simp only [List.nil_append, List.cons_append, List.set_cons_zero, List.set_cons_succ, Nat.zero_add] at H)
    iterate 6 refine H.ld 2 rfl rfl ?_
    exact ⟨hbad hmul, H.ext⟩
  | some n3 =>
  rw [d3] at h3 hmul
  obtain ⟨rfl, rfl⟩ := Prod.mk.inj h3
  refine Br.ne (fun h => absurd rfl h) fun _ => ?_
  cases d4 : dotP [a.2.2.1, b.2.1, a.2.2.2.1, b.2.2.2.1] with
  | none =>
    rw [d4] at h4 hmul
    obtain ⟨rfl, rfl⟩ := Prod.mk.inj h4
    refine Br.ne (fun _ => ?_) fun h => by cases h
    iterate 6 (refine H.st 2 rfl (by simp) fun _ H => ?_; simp only [List.nil_append, List.cons_append, List.set_cons_zero, List.set_cons_succ, Nat.zero_add] at H)
    iterate 6 refine H.ld 2 rfl rfl ?_
    exact ⟨hbad hmul, H.ext⟩
  | some n4 =>
  rw [d4] at h4 hmul
  obtain ⟨rfl, rfl⟩ := Prod.mk.inj h4
  refine Br.ne (fun h => absurd rfl h) fun _ => ?_
  cases d5 : dotP [a.2.2.2.2.1, b.1, a.2.2.2.2.2, b.2.2.1, b.2.2.2.2.1, 10000] with
  | none =>
    rw [d5] at h5 hmul
    obtain ⟨rfl, rfl⟩ := Prod.mk.inj h5
    refine Br.ne (fun _ => ?_) fun h => by cases h
    iterate 6 (refine H.st 2 rfl (by simp) fun _ H => ?_; simp only [List.nil_append, List.cons_append, List.set_cons_zero, List.set_cons_succ, Nat.zero_add] at H)
    iterate 6 refine H.ld 2 rfl rfl ?_
    exact ⟨hbad hmul, H.ext⟩
  | some n5 =>
  rw [d5] at h5 hmul
  obtain ⟨rfl, rfl⟩ := Prod.mk.inj h5
  refine Br.ne (fun h => absurd rfl h) fun _ => ?_
  cases d6 : dotP [a.2.2.2.2.1, b.2.1, a.2.2.2.2.2, b.2.2.2.1, b.2.2.2.2.2, 10000] with
  | none =>
    rw [d6] at h6 hmul
    obtain ⟨rfl, rfl⟩ := Prod.mk.inj h6
    refine Br.ne (fun _ => ?_) fun h => by cases h
    iterate 6 (refine H.st 2 rfl (by simp) fun _ H => ?_; simp only [List.nil_append, List.cons_append, List.set_cons_zero, List.set_cons_succ, Nat.zero_add] at H)
    iterate 6 refine H.ld 2 rfl rfl ?_
    exact ⟨hbad hmul, H.ext⟩
  | some n6 =>
  rw [d6] at h6 hmul
  obtain ⟨rfl, rfl⟩ := Prod.mk.inj h6
  refine Br.ne (fun h => absurd rfl h) fun _ => ?_
  refine H.nw fun w15 H => (r_within (row6 (H.get 3 rfl)) (by simp)).mono ?_
  rintro r w16 ⟨rfl, rfl⟩
  have hin : ([p1, p2, p3, p4, p5, p6].all inW) = true := by
    simp only [List.all_cons, List.all_nil, dotP_in d1, dotP_in d2, dotP_in d3, dotP_in d4, dotP_in d5, dotP_in d6]
    rfl
  rw [hin]
  refine Br_of (fun h => by cases h) fun _ => ?_
  iterate 6 (refine H.st 2 rfl (by simp) fun _ H => ?_; simp only [List.nil_append, List.cons_append, List.set_cons_zero, List.set_cons_succ, Nat.zero_add] at H)
  iterate 6 refine H.ld 2 rfl rfl ?_
  refine ⟨?_, H.ext⟩
  rw [hmul]
  rfl
theorem r_apply (m : Mx) (p : Int × Int) (w : World) : C45 m p w fun r e w1 => (r, e) = resP (applyP m p) ∧ Ext (fun _ => False) w w1 := by
  refine T45 _ _ _ _ ?_
  unfold S45
  refine (Hn.start w).nw fun w3 H => H.nw fun w4 H => H.nw fun w5 H => ?_
  iterate 6 refine H.ld 0 rfl rfl ?_
  refine (r_check m _).mono ?_
  rintro r w6 ⟨rfl, he⟩
  have H := H.keep he
  have hbad : applyP m p = none → (((0, 0), 2) : (Int × Int) × Int) = resP (applyP m p) := fun h => by rw [h]; rfl
  by_cases hka : okM m = true
  case neg =>
    rw [if_neg hka]
    refine Br.ne (fun _ => ?_) fun h => by cases h
    iterate 2 (refine H.st 2 rfl (by simp) fun _ H => ?_; simp only [List.nil_append, List.cons_append, List.set_cons_zero, List.set_cons_succ, Nat.zero_add] at H)
    iterate 2 refine H.ld 2 rfl rfl ?_
    exact ⟨hbad (if_neg fun h => hka h.1), H.ext⟩
  rw [if_pos hka]
  refine Br.ne (fun h => absurd rfl h) fun _ => ?_
  iterate 2 refine H.ld 1 rfl rfl ?_
  refine H.nw fun w7 H => (r_within (row2 (H.get 3 rfl)) (by simp)).mono ?_
  rintro r w8 ⟨rfl, rfl⟩
  have H := H.left (L := [_, _, _]) (M := [_])
  by_cases hi : ([p.1, p.2].all inW) = true
  case neg =>
    have : ([p.1, p.2].all inW) = false := by simpa using hi
    rw [this]
    refine Br_of (fun _ => ?_) fun h => by cases h
    iterate 2 (refine H.st 2 rfl (by simp) fun _ H => ?_; simp only [List.nil_append, List.cons_append, List.set_cons_zero, List.set_cons_succ, Nat.zero_add] at H)
    iterate 2 refine H.ld 2 rfl rfl ?_
    refine ⟨hbad (if_neg fun h => hi ?_), H.ext⟩
    simp only [List.all_cons, List.all_nil, h.2.1, h.2.2]
    rfl
  rw [hi]
  refine Br_of (fun h => by cases h) fun _ => ?_
  have hi2 : inW p.1 = true ∧ inW p.2 = true := by simpa using hi
  have happ : applyP m p = (dotP [p.1, m.1, p.2, m.2.2.1, m.2.2.2.2.1, 10000]).bind fun x => (dotP [p.1, m.2.1, p.2, m.2.2.2.1, m.2.2.2.2.2, 10000]).bind fun y => some (x, y) := if_pos ⟨hka, hi2⟩
  repeat (first | refine H.ld 0 rfl rfl ?_ | refine H.ld 1 rfl rfl ?_ | refine H.ld 2 rfl rfl ?_ | refine H.ld 3 rfl rfl ?_ | refine H.ld 4 rfl rfl ?_ | refine H.ld 5 rfl rfl ?_)
  refine H.nw fun w9 H => (r_dot (row6 (H.get 3 rfl)) (.inr rfl)).mono ?_
  rintro p1 e1 w10 ⟨h1, he⟩
  have H := (H.keep he).left (L := [_, _, _]) (M := [_])
  repeat (first | refine H.ld 0 rfl rfl ?_ | refine H.ld 1 rfl rfl ?_ | refine H.ld 2 rfl rfl ?_ | refine H.ld 3 rfl rfl ?_ | refine H.ld 4 rfl rfl ?_ | refine H.ld 5 rfl rfl ?_)
  refine H.nw fun w9 H => (r_dot (row6 (H.get 3 rfl)) (.inr rfl)).mono ?_
  rintro p2 e2 w11 ⟨h2, he⟩
  have H := (H.keep he).left (L := [_, _, _]) (M := [_])
  cases d1 : dotP [p.1, m.1, p.2, m.2.2.1, m.2.2.2.2.1, 10000] with
  | none =>
    rw [d1] at h1 happ
    obtain ⟨rfl, rfl⟩ := Prod.mk.inj h1
    refine Br.ne (fun _ => ?_) fun h => by cases h
    iterate 2 (refine H.st 2 rfl (by simp) fun _ H => ?_; simp only [List.nil_append, List.cons_append, List.set_cons_zero, List.set_cons_succ, Nat.zero_add] at H)
    iterate 2 refine H.ld 2 rfl rfl ?_
    exact ⟨hbad happ, H.ext⟩
  | some n1 =>
  rw [d1] at h1 happ
  obtain ⟨rfl, rfl⟩ := Prod.mk.inj h1
  refine Br.ne (fun h => absurd rfl h) fun _ => ?_
  cases d2 : dotP [p.1, m.2.1, p.2, m.2.2.2.1, m.2.2.2.2.2, 10000] with
  | none =>
    rw [d2] at h2 happ
    obtain ⟨rfl, rfl⟩ := Prod.mk.inj h2
    refine Br.ne (fun _ => ?_) fun h => by cases h
    iterate 2 (refine H.st 2 rfl (by simp) fun _ H => ?_; simp only [List.nil_append, List.cons_append, List.set_cons_zero, List.set_cons_succ, Nat.zero_add] at H)
    iterate 2 refine H.ld 2 rfl rfl ?_
    exact ⟨hbad happ, H.ext⟩
  | some n2 =>
  rw [d2] at h2 happ
  obtain ⟨rfl, rfl⟩ := Prod.mk.inj h2
  refine Br.ne (fun h => absurd rfl h) fun _ => ?_
  refine H.nw fun w15 H => (r_within (row2 (H.get 3 rfl)) (by simp)).mono ?_
  rintro r w16 ⟨rfl, rfl⟩
  have hin : ([p1, p2].all inW) = true := by
    simp only [List.all_cons, List.all_nil, dotP_in d1, dotP_in d2]
    rfl
  rw [hin]
  refine Br_of (fun h => by cases h) fun _ => ?_
  iterate 2 (refine H.st 2 rfl (by simp) fun _ H => ?_; simp only [List.nil_append, List.cons_append, List.set_cons_zero, List.set_cons_succ, Nat.zero_add] at H)
  iterate 2 refine H.ld 2 rfl rfl ?_
  refine ⟨?_, H.ext⟩
  rw [happ]
  rfl
theorem r_one (w : World) : C44 w fun r w1 => r = one ∧ Ext (fun _ => False) w w1 := by
  refine T44 _ _ ?_
  unfold S44
  refine (Hn.start w).nw fun w3 H => ?_
  repeat (first | refine Lt.of ?_ | refine Nn.of ?_ | refine H.ld 0 rfl rfl ?_ | refine H.ld 1 rfl rfl ?_ | refine H.ld 2 rfl rfl ?_ | refine H.ld 3 rfl rfl ?_ | refine H.ld 4 rfl rfl ?_ | refine H.ld 5 rfl rfl ?_ | (refine H.st 0 rfl (by simp) fun _ H => ?_; simp only [List.nil_append, List.cons_append, List.set_cons_zero, List.set_cons_succ, Nat.zero_add] at H) | (refine H.st 1 rfl (by simp) fun _ H => ?_; simp only [List.nil_append, List.cons_append, List.set_cons_zero, List.set_cons_succ, Nat.zero_add] at H) | (refine H.st 2 rfl (by simp) fun _ H => ?_; simp only [List.nil_append, List.cons_append, List.set_cons_zero, List.set_cons_succ, Nat.zero_add] at H) | (refine H.st 3 rfl (by simp) fun _ H => ?_; simp only [List.nil_append, List.cons_append, List.set_cons_zero, List.set_cons_succ, Nat.zero_add] at H) | (refine H.st 4 rfl (by simp) fun _ H => ?_; simp only [List.nil_append, List.cons_append, List.set_cons_zero, List.set_cons_succ, Nat.zero_add] at H) | (refine H.st 5 rfl (by simp) fun _ H => ?_; simp only [List.nil_append, List.cons_append, List.set_cons_zero, List.set_cons_succ, Nat.zero_add] at H))
  exact ⟨rfl, H.ext⟩
theorem r_scale (x y : Int) (w : World) : C96 x y w fun r w1 => r = scaleM x y ∧ Ext (fun _ => False) w w1 := by
  refine T96 _ _ _ _ ?_
  unfold S96
  refine (Hn.start w).nw fun w3 H => ?_
  repeat (first | refine Lt.of ?_ | refine Nn.of ?_ | refine H.ld 0 rfl rfl ?_ | refine H.ld 1 rfl rfl ?_ | refine H.ld 2 rfl rfl ?_ | refine H.ld 3 rfl rfl ?_ | refine H.ld 4 rfl rfl ?_ | refine H.ld 5 rfl rfl ?_ | (refine H.st 0 rfl (by simp) fun _ H => ?_; simp only [List.nil_append, List.cons_append, List.set_cons_zero, List.set_cons_succ, Nat.zero_add] at H) | (refine H.st 1 rfl (by simp) fun _ H => ?_; simp only [List.nil_append, List.cons_append, List.set_cons_zero, List.set_cons_succ, Nat.zero_add] at H) | (refine H.st 2 rfl (by simp) fun _ H => ?_; simp only [List.nil_append, List.cons_append, List.set_cons_zero, List.set_cons_succ, Nat.zero_add] at H) | (refine H.st 3 rfl (by simp) fun _ H => ?_; simp only [List.nil_append, List.cons_append, List.set_cons_zero, List.set_cons_succ, Nat.zero_add] at H) | (refine H.st 4 rfl (by simp) fun _ H => ?_; simp only [List.nil_append, List.cons_append, List.set_cons_zero, List.set_cons_succ, Nat.zero_add] at H) | (refine H.st 5 rfl (by simp) fun _ H => ?_; simp only [List.nil_append, List.cons_append, List.set_cons_zero, List.set_cons_succ, Nat.zero_add] at H))
  exact ⟨rfl, H.ext⟩
end Mat
end Go.Proofs.YtjbeembbnkmpeaaDoor

/- What an argument's reading tells: its cells, kind by kind. No condition. -/
namespace Go.Proofs.YtjbeembbnkmpeaaDoor
namespace Sh
set_option linter.unusedVariables false

/-- The cells of a value of type t, read to depth n. -/
def RdC (P : Program) (w : World) : Nat → TypeId → List Value → Prop
  | 0, _, _ => False
  | n + 1, t, cs => match P.underlying t with
    | some (.int k) => ∃ x, cs = [.int k x] ∧ (Lit.int k x).wf = true
    | some .bool => ∃ b, cs = [.bool b]
    | some .string => ∃ s : ByteArray, cs = [.string s] ∧ s.size ≤ maxLen
    | some (.slice e) => ∃ s : Slc, cs = [Slc.v s] ∧ (s = ⟨none, 0, 0⟩ ∨ ∃ a, s.p = some a ∧ s.len ≤ s.cap ∧ s.cap ≤ maxLen ∧
        ∀ i, i < s.len → ∃ cs', cs'.length = P.cellsOf e ∧ (∀ j, j < P.cellsOf e → w.cell? (a.add (i * P.cellsOf e + j)) = cs'[j]?) ∧ RdC P w n e cs')
    | some (.struct fs) => cs.length = P.cellsOf t ∧ ∀ (i : Nat) (f : Field), fs[i]? = some f → RdC P w n f.type ((cs.drop f.offset).take (P.cellsOf f.type))
    | some (.array m e) => cs.length = P.cellsOf t ∧ ∀ i, i < m → RdC P w n e ((cs.drop (i * P.cellsOf e)).take (P.cellsOf e))
    | some (.pointer e) => ∃ p : Option Addr, cs = [.pointer p] ∧ ∀ a, p = some a → ∃ cs', cs'.length = P.cellsOf e ∧ (∀ j, j < P.cellsOf e → w.cell? (a.add j) = cs'[j]?) ∧ RdC P w n e cs'
    | _ => True

theorem list4 {α : Type} {l : List α} (h : l.length = 4) : ∃ a b c d, l = [a, b, c, d] := by
  match l, h with
  | [a, b, c, d], _ => exact ⟨a, b, c, d, rfl⟩
theorem add_add' (a : Addr) (i j : Nat) : (a.add i).add j = a.add (i + j) := by
  unfold Addr.add
  split
  · rename_i h; subst h; simp
  · split
    · rename_i h; subst h; simp_all
    · split
      · omega
      · simp [Nat.add_assoc]
theorem rdC_of {H : Type} {enc : TypeId × Value → H} {P : Program} {w : World} {spare : Nat → Bool} {held : Bool} : ∀ (n : Nat) (t : TypeId) (cs : List Value) (x : DataW H × List MemPlace),
    DataW.trod enc P w 0 spare held n t cs = some x → RdC P w n t cs
  | 0, t, cs, x, h => by simp [DataW.trod] at h
  | n + 1, t, cs, x, h => by
    unfold RdC
    split
    · rename_i k ht
      obtain ⟨y, h1, _, h2⟩ := DataW.trod_int ht h
      exact ⟨y, h1, h2⟩
    · rename_i ht
      obtain ⟨y, h1, _⟩ := DataW.trod_bool ht h
      exact ⟨y, h1⟩
    · rename_i ht
      obtain ⟨y, h1, _, h2⟩ := DataW.trod_string ht h
      exact ⟨y, h1, h2⟩
    · rename_i e ht
      rcases DataW.trod_slice ht h with ⟨h0, _⟩ | ⟨a, len, cap, elems, rest, m, hm, hcs, _, _, hl, hc, hel, hi, _⟩
      · exact ⟨⟨none, 0, 0⟩, h0, .inl rfl⟩
      · cases hm
        refine ⟨⟨some a, len, cap⟩, hcs, .inr ⟨a, rfl, hl, hc, fun i hil => ?_⟩⟩
        have hg : elems[i]? = some (elems[i]'(by rw [hel]; exact hil)) := List.getElem?_eq_getElem _
        have h2 := (hi i hil).trans hg
        obtain ⟨cs', h3, h4⟩ := Option.bind_eq_some_iff.1 h2
        obtain ⟨_, h5, h6⟩ := World.cells?_some h3
        exact ⟨cs', h5, fun j hj => by rw [← add_add']; exact h6 j hj, rdC_of n e cs' _ h4⟩
    · rename_i fs ht
      obtain ⟨xs, m, hm, _, hl, hxl, hf⟩ := DataW.trod_struct ht h
      cases hm
      refine ⟨hl, fun i f hfi => ?_⟩
      have hlt : i < fs.size := (Array.getElem?_eq_some_iff.1 hfi).1
      exact rdC_of n f.type _ _ ((hf i f hfi).trans (List.getElem?_eq_getElem (by rw [hxl]; exact hlt)))
    · rename_i m e ht
      obtain ⟨xs, m', hm, _, hl, hxl, hf⟩ := DataW.trod_array ht h
      cases hm
      exact ⟨hl, fun i hi => rdC_of n e _ _ ((hf i hi).trans (List.getElem?_eq_getElem (by rw [hxl]; exact hi)))⟩
    · rename_i e ht
      rcases DataW.trod_pointer ht h with ⟨h0, _⟩ | ⟨a, cs', y, m, hm, hcs, _, hc, hy⟩
      · exact ⟨none, h0, fun a ha => by cases ha⟩
      · cases hm
        refine ⟨some a, hcs, fun a' ha => ?_⟩
        cases ha
        obtain ⟨_, h5, h6⟩ := World.cells?_some hc
        exact ⟨cs', h5, h6, rdC_of n e cs' y hy⟩
    · trivial
theorem rdC_Trod {H : Type} {enc : TypeId × Value → H} {P : Program} {w : World} {spare : Nat → Bool} {held : Bool} {t : TypeId} {v : Value} {d : DataW H} {ps : List MemPlace}
    (h : DataW.Trod enc P w 0 spare held t v d ps) : ∃ n, RdC P w n t v.cells.toList := by
  obtain ⟨n, hn⟩ := h
  exact ⟨n, rdC_of n t _ _ hn⟩
/-- Offset and type of each field of a struct type. -/
def fieldsAt (P : Program) (t : TypeId) : Option (List (Nat × TypeId)) := match P.underlying t with
  | some (.struct fs) => some (fs.toList.map fun f => (f.offset, f.type))
  | _ => none
section
variable {P : Program} {w : World} {n : Nat} {t : TypeId} {cs : List Value}
theorem rdC_struct {L : List (Nat × TypeId)} (hL : fieldsAt P t = some L) (h : RdC P w n t cs) : cs.length = P.cellsOf t ∧ ∃ m, ∀ (i o : Nat) (u : TypeId), L[i]? = some (o, u) → RdC P w m u ((cs.drop o).take (P.cellsOf u)) := by
  cases n with
  | zero => exact h.elim
  | succ n =>
    unfold RdC at h
    unfold fieldsAt at hL
    split at hL
    · rename_i fs hu
      rw [hu] at h
      cases hL
      refine ⟨h.1, n, fun i o u hi => ?_⟩
      rw [List.getElem?_map] at hi
      obtain ⟨f, h1, h2⟩ := Option.map_eq_some_iff.1 hi
      cases h2
      exact h.2 i f (by simpa using h1)
    · cases hL
theorem rdC_int {k : IntKind} (hu : P.underlying t = some (.int k)) (h : RdC P w n t cs) : ∃ x, cs = [.int k x] ∧ (Lit.int k x).wf = true := by
  cases n with
  | zero => exact h.elim
  | succ n => unfold RdC at h; rw [hu] at h; exact h
theorem rdC_bool (hu : P.underlying t = some .bool) (h : RdC P w n t cs) : ∃ b, cs = [.bool b] := by
  cases n with
  | zero => exact h.elim
  | succ n => unfold RdC at h; rw [hu] at h; exact h
theorem rdC_string (hu : P.underlying t = some .string) (h : RdC P w n t cs) : ∃ s : ByteArray, cs = [.string s] ∧ s.size ≤ maxLen := by
  cases n with
  | zero => exact h.elim
  | succ n => unfold RdC at h; rw [hu] at h; exact h
theorem rdC_slice {e : TypeId} (hu : P.underlying t = some (.slice e)) (h : RdC P w n t cs) : ∃ (s : Slc) (m : Nat), cs = [Slc.v s] ∧ (s = ⟨none, 0, 0⟩ ∨ ∃ a, s.p = some a ∧ s.len ≤ s.cap ∧ s.cap ≤ maxLen ∧
    ∀ i, i < s.len → ∃ cs', cs'.length = P.cellsOf e ∧ (∀ j, j < P.cellsOf e → w.cell? (a.add (i * P.cellsOf e + j)) = cs'[j]?) ∧ RdC P w m e cs') := by
  cases n with
  | zero => exact h.elim
  | succ n =>
    unfold RdC at h
    rw [hu] at h
    obtain ⟨s, h1, h2⟩ := h
    exact ⟨s, n, h1, h2⟩
/-- A slice whose elements are of k cells each: what an element's cells are is told by Q. -/
theorem rdC_elems {e : TypeId} {k : Nat} {α : Type} [Inhabited α] {Q : α → List Value → Prop} (hu : P.underlying t = some (.slice e)) (hk : P.cellsOf e = k) (hQ : ∀ m cs', RdC P w m e cs' → ∃ q, Q q cs') (h : RdC P w n t cs) :
    ∃ (s : Slc) (f : Nat → α), cs = [Slc.v s] ∧ s.len ≤ maxLen ∧ ∀ i, i < s.len → ∃ a cs', s.p = some a ∧ cs'.length = k ∧ (∀ j, j < k → w.cell? (a.add (i * k + j)) = cs'[j]?) ∧ Q (f i) cs' := by
  obtain ⟨s, m, hv, h⟩ := rdC_slice hu h
  rw [hk] at h
  rcases h with rfl | ⟨a, hp, h1, h2, h⟩
  · exact ⟨_, fun _ => default, hv, Nat.zero_le _, fun i hi => by cases hi⟩
  · have h' : ∀ i, ∃ q : α, i < s.len → ∃ cs', cs'.length = k ∧ (∀ j, j < k → w.cell? (a.add (i * k + j)) = cs'[j]?) ∧ Q q cs' := fun i => by
      by_cases hi : i < s.len
      · obtain ⟨cs', hl, hc, hr⟩ := h i hi
        obtain ⟨q, hq⟩ := hQ m cs' hr
        exact ⟨q, fun _ => ⟨cs', hl, hc, hq⟩⟩
      · exact ⟨default, fun hh => absurd hh hi⟩
    refine ⟨s, fun i => Classical.choose (h' i), hv, Nat.le_trans h1 h2, fun i hi => ?_⟩
    obtain ⟨cs', g1, g2, g3⟩ := Classical.choose_spec (h' i) hi
    exact ⟨a, cs', hp, g1, g2, g3⟩
end
theorem rdC_arg_slice {H : Type} {enc : TypeId × Value → H} {P : Program} {W : World} {spare : Nat → Bool} {held : Bool} {t e : TypeId} {v : Value} {d : DataW H} {ps : List MemPlace} {rr : Reach} {b0 : Nat}
    (hu : P.underlying t = some (.slice e)) (h0 : Value.okWide P W rr b0 t v) (h : DataW.Trod enc P W 0 spare held t v d ps) : ∃ n, RdC P W n t [v] := by
  obtain ⟨n, hn⟩ := rdC_Trod h
  obtain ⟨a, len, cap, rfl⟩ := Go.WideShapes.okWide_slice hu h0
  exact ⟨n, hn⟩
theorem cell_lt {w : World} {a : Addr} {v : Value} (h : w.cell? a = some v) : a.block < w.heap.size := by
  unfold World.cell? at h
  rcases Nat.lt_or_ge a.block w.heap.size with h' | h'
  · exact h'
  · rw [Array.getElem?_eq_none h'] at h
    cases h
theorem Ext.cellOf {F : Nat → Prop} {a w : World} (h : Ext F a w) {p : Addr} {v : Value} (hc : a.cell? p = some v) (hn : ¬ F p.block) : w.cell? p = some v := by
  rw [h.cell (cell_lt hc) hn]; exact hc

/-! ### The cells of a struct or an array -/

def isLeaf : TypeDesc → Bool
  | .int _ | .bool | .string | .slice _ | .pointer _ => true
  | _ => false
/-- The type of cell i of a value of type t. -/
def leafAt (P : Program) : Nat → TypeId → Nat → Option TypeId
  | 0, _, _ => none
  | k + 1, t, i => match P.underlying t with
    | some (.struct fs) => match fs.toList.find? (fun f => Nat.ble f.offset i && Nat.blt i (f.offset + P.cellsOf f.type)) with
      | some f => leafAt P k f.type (i - f.offset)
      | none => none
    | some (.array m e) => match Nat.blt (i / P.cellsOf e) m && Nat.blt (i % P.cellsOf e) (P.cellsOf e) with
      | true => leafAt P k e (i % P.cellsOf e)
      | false => none
    | some d => match isLeaf d, i with
      | true, 0 => some t
      | _, _ => none
    | none => none
theorem take_drop_one {α : Type} (l : List α) {o s j : Nat} (hj : j < s) : (((l.drop o).take s).drop j).take 1 = (l.drop (o + j)).take 1 := by
  rw [List.drop_take, List.take_take, List.drop_drop, Nat.min_eq_left (by omega)]
theorem rdC_one {P : Program} {w : World} {n : Nat} {t : TypeId} {cs : List Value} {d : TypeDesc} (hu : P.underlying t = some d) (hd : isLeaf d = true) (h : RdC P w n t cs) : (cs.drop 0).take 1 = cs := by
  cases n with
  | zero => exact h.elim
  | succ n =>
    unfold RdC at h
    rw [hu] at h
    cases d <;> simp only [isLeaf, Bool.false_eq_true] at hd
    all_goals
      obtain ⟨x, h1⟩ := h
      first
        | (subst h1; rfl)
        | (rw [h1.1]; rfl)
theorem rdC_leaf {P : Program} {w : World} : ∀ (k n : Nat) (t : TypeId) (cs : List Value) (i : Nat) (u : TypeId), RdC P w n t cs → leafAt P k t i = some u → ∃ m, RdC P w m u ((cs.drop i).take 1)
  | 0, _, _, _, _, _, _, h => by cases h
  | k + 1, 0, t, cs, i, u, h0, h => h0.elim
  | k + 1, n + 1, t, cs, i, u, h0, h => by
    unfold leafAt at h
    have h1 := h0
    unfold RdC at h1
    split at h
    · rename_i fs hu
      rw [hu] at h1
      split at h
      · rename_i f hf
        obtain ⟨hp, asx, bs, hfs, _⟩ := List.find?_eq_some_iff_append.1 hf
        simp only [Bool.and_eq_true] at hp
        have h2 := Nat.le_of_ble_eq_true hp.1
        have h3 : i < f.offset + P.cellsOf f.type := Nat.le_of_ble_eq_true hp.2
        have hget : fs[asx.length]? = some f := by
          have : fs.toList[asx.length]? = some f := by rw [hfs]; simp
          simpa using this
        obtain ⟨m, hm⟩ := rdC_leaf k n f.type _ (i - f.offset) u (h1.2 _ f hget) h
        rw [take_drop_one _ (by omega), show f.offset + (i - f.offset) = i by omega] at hm
        exact ⟨m, hm⟩
      · cases h
    · rename_i m e hu
      rw [hu] at h1
      split at h
      · rename_i hb
        simp only [Bool.and_eq_true] at hb
        have h2 : i / P.cellsOf e < m := Nat.le_of_ble_eq_true hb.1
        have h3 : i % P.cellsOf e < P.cellsOf e := Nat.le_of_ble_eq_true hb.2
        obtain ⟨m', hm⟩ := rdC_leaf k n e _ (i % P.cellsOf e) u (h1.2 _ h2) h
        rw [take_drop_one _ h3, Nat.div_add_mod' i (P.cellsOf e)] at hm
        exact ⟨m', hm⟩
      · cases h
    · rename_i d _ _ hu
      split at h
      · rename_i hd
        cases h
        exact ⟨n + 1, by rw [rdC_one hu hd h0]; exact h0⟩
      · cases h
    · cases h
theorem take_one {α : Type} {l : List α} {i : Nat} {c : α} (h : l[i]? = some c) : (l.drop i).take 1 = [c] := by
  rw [List.getElem?_eq_some_iff] at h
  obtain ⟨hi, rfl⟩ := h
  rw [List.drop_eq_getElem_cons hi]
  rfl
theorem rdC_len {P : Program} {w : World} {n : Nat} {t : TypeId} {cs : List Value} (ha : isAggD (P.underlying t) = true) (h : RdC P w n t cs) : cs.length = P.cellsOf t := by
  cases n with
  | zero => exact h.elim
  | succ n =>
    unfold RdC at h
    unfold isAggD at ha
    split at ha
    · rename_i fs hu
      rw [hu] at h
      exact h.1
    · rename_i m e hu
      rw [hu] at h
      exact h.1
    · cases ha
section
variable {P : Program} {w : World} {n k i : Nat} {t u : TypeId} {cs : List Value} {c : Value}
theorem leaf_int {q : IntKind} (hl : leafAt P k t i = some u) (hu : P.underlying u = some (.int q)) (h : RdC P w n t cs) (hc : cs[i]? = some c) : ∃ x, c = .int q x ∧ (Lit.int q x).wf = true := by
  obtain ⟨m, hm⟩ := rdC_leaf k n t cs i u h hl
  obtain ⟨x, h1, h2⟩ := rdC_int hu hm
  refine ⟨x, ?_, h2⟩
  rw [take_one hc] at h1
  simpa using h1
theorem leaf_bool (hl : leafAt P k t i = some u) (hu : P.underlying u = some .bool) (h : RdC P w n t cs) (hc : cs[i]? = some c) : ∃ x, c = .bool x := by
  obtain ⟨m, hm⟩ := rdC_leaf k n t cs i u h hl
  obtain ⟨x, h1⟩ := rdC_bool hu hm
  refine ⟨x, ?_⟩
  rw [take_one hc] at h1
  simpa using h1
theorem leaf_string (hl : leafAt P k t i = some u) (hu : P.underlying u = some .string) (h : RdC P w n t cs) (hc : cs[i]? = some c) : ∃ x : ByteArray, c = .string x ∧ x.size ≤ maxLen := by
  obtain ⟨m, hm⟩ := rdC_leaf k n t cs i u h hl
  obtain ⟨x, h1, h2⟩ := rdC_string hu hm
  refine ⟨x, ?_, h2⟩
  rw [take_one hc] at h1
  simpa using h1
/-- A leaf that is a slice. -/
theorem leaf_slice {e : TypeId} (hl : leafAt P k t i = some u) (hu : P.underlying u = some (.slice e)) (h : RdC P w n t cs) (hc : cs[i]? = some c) : ∃ x : Slc, c = Slc.v x ∧ ∃ m, RdC P w m u [c] := by
  obtain ⟨m, hm⟩ := rdC_leaf k n t cs i u h hl
  obtain ⟨x, _, h1, _⟩ := rdC_slice hu hm
  rw [take_one hc] at h1 hm
  exact ⟨x, by simpa using h1, m, hm⟩
end
theorem wf_i64 {n : Int} (h : (Lit.int .i64 n).wf = true) : -9223372036854775808 ≤ n ∧ n ≤ 9223372036854775807 := by
  simpa [Lit.wf, show IntKind.i64.min = -9223372036854775808 by decide, show IntKind.i64.max = 9223372036854775807 by decide] using h
theorem wf_u8 {n : Int} (h : (Lit.int .u8 n).wf = true) : 0 ≤ n ∧ n ≤ 255 := by
  simpa [Lit.wf, show IntKind.u8.min = 0 by decide, show IntKind.u8.max = 255 by decide] using h
theorem wf_u32 {n : Int} (h : (Lit.int .u32 n).wf = true) : 0 ≤ n ∧ n ≤ 4294967295 := by
  simpa [Lit.wf, show IntKind.u32.min = 0 by decide, show IntKind.u32.max = 4294967295 by decide] using h
theorem wf_i32 {n : Int} (h : (Lit.int .i32 n).wf = true) : -2147483648 ≤ n ∧ n ≤ 2147483647 := by
  simpa [Lit.wf, show IntKind.i32.min = -2147483648 by decide, show IntKind.i32.max = 2147483647 by decide] using h
/-- A struct or an array as an argument. -/
theorem rdC_arg_agg {H : Type} {enc : TypeId × Value → H} {P : Program} {W : World} {spare : Nat → Bool} {held : Bool} {t : TypeId} {v : Value} {d : DataW H} {ps : List MemPlace} {rr : Reach} {b0 : Nat}
    (ha : isAggD (P.underlying t) = true) (h0 : Value.okWide P W rr b0 t v) (h : DataW.Trod enc P W 0 spare held t v d ps) : ∃ cs : List Value, v = .agg cs.toArray ∧ cs.length = P.cellsOf t ∧ ∃ n, RdC P W n t cs := by
  obtain ⟨n, hn⟩ := rdC_Trod h
  have hv : ∃ cs : Array Value, v = .agg cs := by
    unfold isAggD at ha
    split at ha
    · rename_i fs hu
      simp only [Value.okWide, hu] at h0
      obtain ⟨cs, h1, _⟩ := h0
      exact ⟨cs, h1⟩
    · rename_i m e hu
      simp only [Value.okWide, hu] at h0
      obtain ⟨cs, h1, _⟩ := h0
      exact ⟨cs, h1⟩
    · cases ha
  obtain ⟨cs, rfl⟩ := hv
  exact ⟨cs.toList, by simp, rdC_len ha hn, n, hn⟩
end Sh
end Go.Proofs.YtjbeembbnkmpeaaDoor

/- Objects: rows of them, numbers among them, copies of an array of numbers. Conditions: sizes. -/
namespace Go.Proofs.YtjbeembbnkmpeaaDoor
namespace Mat
open Sh Fix
set_option linter.unusedVariables false
set_option linter.unusedSimpArgs false
set_option maxRecDepth 4000
set_option maxHeartbeats 1000000

abbrev Ob := Int × Int × Int × ByteArray × Slc × Slc
abbrev nilS : Slc := ⟨none, 0, 0⟩
def obrow (o : Ob) : List Value := [.int .i64 o.1, .int .i64 o.2.1, .int .i64 o.2.2.1, .string o.2.2.2.1, Slc.v o.2.2.2.2.1, Slc.v o.2.2.2.2.2]
def ob0 : Ob := (0, 0, 0, ⟨#[]⟩, nilS, nilS)
theorem elOb : El Tryd.prog 60 81 6 88 (.agg (obrow ob0).toArray) := ⟨by kernel_rfl, by kernel_rfl, by kernel_rfl, by kernel_rfl, rfl⟩
theorem ob_one (o : Ob) : ∀ v ∈ obrow o, v.oneCell' = true := by
  intro v hv
  simp only [obrow, List.mem_cons, List.not_mem_nil, or_false] at hv
  rcases hv with rfl | rfl | rfl | rfl | rfl | rfl <;> rfl
theorem obs_one (L : List Ob) : ∀ v ∈ L.flatMap obrow, v.oneCell' = true := by
  intro v hv
  obtain ⟨o, _, h⟩ := List.mem_flatMap.1 hv
  exact ob_one o v h
theorem obs_len (L : List Ob) : (L.flatMap obrow).length = L.length * 6 := by
  induction L with
  | nil => rfl
  | cons o L ih => rw [List.flatMap_cons, List.length_append, ih, List.length_cons]; simp [obrow]; omega
theorem obs_get {L : List Ob} {i j : Nat} {o : Ob} (hi : L[i]? = some o) (hj : j < 6) : (L.flatMap obrow)[i * 6 + j]? = (obrow o)[j]? := by
  induction L generalizing i with
  | nil => cases hi
  | cons p L ih =>
    rw [List.flatMap_cons]
    cases i with
    | zero =>
      cases hi
      rw [Nat.zero_mul, Nat.zero_add, List.getElem?_append_left (by simp [obrow]; omega)]
    | succ i =>
      rw [List.getElem?_append_right (by simp [obrow]; omega), ← ih (by simpa using hi)]
      congr 1
      simp only [obrow, List.length_cons, List.length_nil]
      omega
/-- The objects of a slice. -/
def OV (w : World) (s : Slc) (L : List Ob) : Prop := s.len = L.length ∧ VRow w s 6 (L.flatMap obrow)
/-- A whole block as a slice. -/
abbrev rowS (g n : Nat) : Slc := ⟨some ⟨g, 0, none⟩, n, n⟩
theorem OV.of {w : World} {g : Nat} {L : List Ob} {t : TypeId} (h : Blk w g (L.flatMap obrow).toArray t) : OV w (rowS g L.length) L := ⟨rfl, VRow.of h (obs_len L)⟩
theorem OV.keep {w w' : World} {s : Slc} {L : List Ob} (h : OV w s L) (he : Ext (fun _ => False) w w') : OV w' s L := ⟨h.1, h.2.keep he⟩
theorem OV.get {w : World} {s : Slc} {L : List Ob} (h : OV w s L) {i : Nat} {o : Ob} (hi : L[i]? = some o) : ∃ a, s.p = some a ∧ w.cell? (a.add (i * 6)) = some (.int .i64 o.1) ∧ w.cell? ((a.add (i * 6)).add 1) = some (.int .i64 o.2.1) ∧ w.cell? ((a.add (i * 6)).add 2) = some (.int .i64 o.2.2.1) ∧
    w.cell? ((a.add (i * 6)).add 3) = some (.string o.2.2.2.1) ∧ w.cell? ((a.add (i * 6)).add 4) = some (Slc.v o.2.2.2.2.1) ∧ w.cell? ((a.add (i * 6)).add 5) = some (Slc.v o.2.2.2.2.2) := by
  have g : ∀ j v, j < 6 → (obrow o)[j]? = some v → ∃ a, s.p = some a ∧ w.cell? ((a.add (i * 6)).add j) = some v := fun j v hj hv => by
    obtain ⟨a, ha, hc⟩ := h.2.2 (i * 6 + j) v (by rw [obs_get hi hj]; exact hv)
    exact ⟨a, ha, by rw [add_add']; exact hc⟩
  obtain ⟨a, ha, c0⟩ := g 0 _ (by omega) rfl
  obtain ⟨a1, ha1, c1⟩ := g 1 _ (by omega) rfl
  obtain ⟨a2, ha2, c2⟩ := g 2 _ (by omega) rfl
  obtain ⟨a3, ha3, c3⟩ := g 3 _ (by omega) rfl
  obtain ⟨a4, ha4, c4⟩ := g 4 _ (by omega) rfl
  obtain ⟨a5, ha5, c5⟩ := g 5 _ (by omega) rfl
  rw [ha] at ha1 ha2 ha3 ha4 ha5
  cases ha1; cases ha2; cases ha3; cases ha4; cases ha5
  exact ⟨a, ha, by rw [add_add'] at c0; exact c0, c1, c2, c3, c4, c5⟩
/-- A number as an object. -/
def numO (n : Int) : Ob := if Int.tmod n 10000 = 0 then (2, Int.tdiv n 10000, 0, ⟨#[]⟩, nilS, nilS) else (3, n, 0, ⟨#[]⟩, nilS, nilS)
/-- The number of an object. -/
def numV (o : Ob) : Option Int := if o.1 = 2 then (if -107374 ≤ o.2.1 ∧ o.2.1 ≤ 107374 then some (o.2.1 * 10000) else none) else if o.1 = 3 then (if inW o.2.1 = true then some o.2.1 else none) else none
def resN : Option Int → Int × Bool
  | some n => (n, true)
  | none => (0, false)
attribute [local irreducible] Ld St Nw Nn Lt LdS
theorem c_within2 (n a b : Int) (w : World) : C191 n a b w fun r w1 => r = decide (a ≤ n ∧ n ≤ b) ∧ w1 = w := by
  refine T191 _ _ _ _ _ ?_
  unfold S191
  refine Br.dec (fun h => ⟨decide_eq_decide.2 (by omega), rfl⟩) fun h => ⟨(decide_eq_false (by omega)).symm, rfl⟩
theorem c_number (o : Ob) (w : World) : C143 o w fun r b w1 => (r, b) = resN (numV o) ∧ Ext (fun _ => False) w w1 := by
  refine T143 _ _ _ ?_
  unfold S143
  refine (Hn.start w).nw fun w2 H => ?_
  repeat (first | refine H.ld 0 rfl rfl ?_ | refine H.ld 1 rfl rfl ?_ | refine H.ld 2 rfl rfl ?_ | refine H.ld 3 rfl rfl ?_ | refine H.ld 4 rfl rfl ?_ | refine H.ld 5 rfl rfl ?_)
  unfold numV
  refine Br.eq (fun h => (c_within2 _ _ _ _).mono ?_) fun h => Br.eq (fun h2 => (c_within2 _ _ _ _).mono ?_) fun h2 => ?_
  · rintro r _ ⟨rfl, rfl⟩
    rw [if_pos h]
    by_cases hb : -107374 ≤ o.2.1 ∧ o.2.1 ≤ 107374
    · rw [if_pos hb, decide_eq_true hb]
      refine Br_of (fun h => by cases h) fun _ => (c_within2 _ _ _ _).mono ?_
      rintro r _ ⟨rfl, rfl⟩
      rw [i64_id (by omega), decide_eq_true (by omega)]
      exact Br_of (fun h => by cases h) fun _ => ⟨rfl, H.ext⟩
    · rw [if_neg hb, decide_eq_false hb]
      exact Br_of (fun _ => ⟨rfl, H.ext⟩) fun h => by cases h
  · rintro r _ ⟨rfl, rfl⟩
    rw [if_neg h, if_pos h2]
    show Br (!inW o.2.1) _ _
    cases inW o.2.1 with
    | true => exact Br_of (fun h => by cases h) fun _ => ⟨rfl, H.ext⟩
    | false => exact Br_of (fun _ => ⟨rfl, H.ext⟩) fun h => by cases h
  · rw [if_neg h, if_neg h2]
    exact ⟨rfl, H.ext⟩
theorem r_number (o : Ob) (w : World) : C157 o w fun r b w1 => (r, b) = resN (numV o) ∧ Ext (fun _ => False) w w1 := by
  refine T157 _ _ _ ?_
  unfold S157
  refine (Hn.start w).nw fun w2 H => ?_
  refine ⟨fun _ w3 => w3 = w2 ∧ ¬ (o.1 = 3 ∧ inW o.2.1 = true), ?_, ?_⟩
  case refine_2 =>
    repeat (first | refine H.ld 0 rfl rfl ?_ | refine H.ld 1 rfl rfl ?_ | refine H.ld 2 rfl rfl ?_ | refine H.ld 3 rfl rfl ?_ | refine H.ld 4 rfl rfl ?_ | refine H.ld 5 rfl rfl ?_)
    refine Br.eq (fun h => ?_) fun h => ⟨rfl, fun h2 => h h2.1⟩
    repeat (first | refine H.ld 0 rfl rfl ?_ | refine H.ld 1 rfl rfl ?_ | refine H.ld 2 rfl rfl ?_ | refine H.ld 3 rfl rfl ?_ | refine H.ld 4 rfl rfl ?_ | refine H.ld 5 rfl rfl ?_)
    refine Br.dec (fun h2 => ?_) fun h2 => ⟨rfl, fun h3 => by have := inW_spec.1 h3.2; omega⟩
    repeat (first | refine H.ld 0 rfl rfl ?_ | refine H.ld 1 rfl rfl ?_ | refine H.ld 2 rfl rfl ?_ | refine H.ld 3 rfl rfl ?_ | refine H.ld 4 rfl rfl ?_ | refine H.ld 5 rfl rfl ?_)
    refine Br.dec (fun h3 => ?_) fun h3 => ⟨rfl, fun h4 => by have := inW_spec.1 h4.2; omega⟩
    repeat (first | refine H.ld 0 rfl rfl ?_ | refine H.ld 1 rfl rfl ?_ | refine H.ld 2 rfl rfl ?_ | refine H.ld 3 rfl rfl ?_ | refine H.ld 4 rfl rfl ?_ | refine H.ld 5 rfl rfl ?_)
    refine ⟨?_, H.ext⟩
    unfold numV
    rw [if_neg (by omega), if_pos h, if_pos (inW_spec.2 (by omega))]
    rfl
  rintro _ w3 ⟨rfl, hn⟩
  unfold S157J1
  have h3 : o.1 ≠ 2 → numV o = none := fun h => by
    unfold numV
    rw [if_neg h]
    split
    · rename_i h4
      exact if_neg fun h5 => hn ⟨h4, h5⟩
    · rfl
  repeat (first | refine H.ld 0 rfl rfl ?_ | refine H.ld 1 rfl rfl ?_ | refine H.ld 2 rfl rfl ?_ | refine H.ld 3 rfl rfl ?_ | refine H.ld 4 rfl rfl ?_ | refine H.ld 5 rfl rfl ?_)
  refine Br.eq (fun h => ?_) fun h => ⟨by rw [h3 h]; rfl, H.ext⟩
  have hno : ¬ (-107374 ≤ o.2.1 ∧ o.2.1 ≤ 107374) → ((0, false) : Int × Bool) = resN (numV o) := fun hb => by
    unfold numV
    rw [if_pos h, if_neg hb]
    rfl
  repeat (first | refine H.ld 0 rfl rfl ?_ | refine H.ld 1 rfl rfl ?_ | refine H.ld 2 rfl rfl ?_ | refine H.ld 3 rfl rfl ?_ | refine H.ld 4 rfl rfl ?_ | refine H.ld 5 rfl rfl ?_)
  refine Br.dec (fun h2 => ?_) fun h2 => ⟨hno (by omega), H.ext⟩
  repeat (first | refine H.ld 0 rfl rfl ?_ | refine H.ld 1 rfl rfl ?_ | refine H.ld 2 rfl rfl ?_ | refine H.ld 3 rfl rfl ?_ | refine H.ld 4 rfl rfl ?_ | refine H.ld 5 rfl rfl ?_)
  refine Br.dec (fun h3 => ?_) fun h3 => ⟨hno (by omega), H.ext⟩
  repeat (first | refine H.ld 0 rfl rfl ?_ | refine H.ld 1 rfl rfl ?_ | refine H.ld 2 rfl rfl ?_ | refine H.ld 3 rfl rfl ?_ | refine H.ld 4 rfl rfl ?_ | refine H.ld 5 rfl rfl ?_)
  refine ⟨?_, H.ext⟩
  unfold numV
  rw [if_pos h, if_pos (by omega), i64_id (by omega), Int.mul_comm]
  rfl
/-- An object without keys and kids. -/
def leaf (o : Ob) : Prop := o.2.2.2.2.1 = nilS ∧ o.2.2.2.2.2 = nilS
end Mat
end Go.Proofs.YtjbeembbnkmpeaaDoor

/- Sums of numbers: fix.Sum and the reference's. Conditions: sizes. -/
namespace Go.Proofs.YtjbeembbnkmpeaaDoor
namespace Pat
open Sh Mat Fix
set_option linter.unusedVariables false
set_option linter.unusedSimpArgs false
set_option maxRecDepth 4000
set_option maxHeartbeats 2000000
/-- The sum of the first k numbers. -/
def ps (l : List Int) : Nat → Int
  | 0 => 0
  | k + 1 => ps l k + l.getD k 0
def sumF (l : List Int) : Int × Int := if l.all inW = true ∧ inW (ps l l.length) = true then (ps l l.length, 0) else (0, 2)
theorem sumF_yes {l : List Int} (ha : allW l) (hn : inW (ps l l.length) = true) : sumF l = (ps l l.length, 0) := if_pos ⟨(all_iff l).2 ha, hn⟩
theorem sumF_no {l : List Int} (h : ¬ allW l ∨ inW (ps l l.length) = false) : sumF l = (0, 2) := if_neg fun h2 => by
  rcases h with h | h
  · exact h ((all_iff l).1 h2.1)
  · rw [h] at h2
    cases h2.2
theorem ps_bd {l : List Int} : ∀ (k : Nat), k ≤ l.length → (∀ i, i < k → inW (l.getD i 0) = true) → -(1073741824 * (k : Int)) ≤ ps l k ∧ ps l k ≤ 1073741824 * (k : Int)
  | 0, _, _ => by simp [ps]
  | k + 1, hk, h => by
    have h1 := ps_bd k (by omega) fun i hi => h i (by omega)
    have h2 := inW_spec.1 (h k (by omega))
    simp only [ps]
    omega
section
variable {w : World} {s : Slc} {l : List Int}
attribute [local irreducible] Ld St Nw Nn Lt LdS
theorem c_sum (h : IRow w s l) (hl : l.length ≤ 1000000) : C132 s w fun r e w1 => (r, e) = sumF l ∧ Ext (fun _ => False) w w1 := by
  refine T132 _ _ _ ?_
  unfold S132
  have hn := h.1
  refine (Hx.start w (fun _ => False)).nw fun w2 H => ?_
  have hs := H.size
  refine H.nw fun w3 H => ?_
  have caught : ∀ (cs1 cs2 : Int) (w4 : World), Hx w (fun _ => False) w4 [(w.heap.size, #[.int .i64 cs1], 2), (w2.heap.size, #[.int .i64 cs2], 38)] → (sumF l = (0, 2)) →
      S132P w w2 (fun r e w1 => (r, e) = sumF l ∧ Ext (fun _ => False) w w1) (refused 2) w4 := fun cs1 cs2 w4 H hd => by
    unfold S132P
    refine T176_T267 _ _ 2 _ _ ?_
    unfold S176_T267
    refine Nn.of (H.st 0 rfl (by simp) (.inr (Nat.le_refl _)) fun w5 H => Nn.of (H.st 1 rfl (by simp) (.inr hs) fun w6 H => H.ld 0 rfl rfl (H.ld 1 rfl rfl ⟨hd.symm, H.ext⟩)))
  have done : ∀ (r e : Int) (w4 : World), Hx w (fun _ => False) w4 [(w.heap.size, #[.int .i64 r], 2), (w2.heap.size, #[.int .i64 e], 38)] → sumF l = (r, e) →
      CD176 (some (⟨w.heap.size, 0, none⟩ : Addr)) (some (⟨w2.heap.size, 0, none⟩ : Addr)) none w4 fun vw15 =>
        Ld vw15 (⟨w.heap.size, 0, none⟩ : Addr) (Value.int .i64) fun (x16 : Int) =>
        Ld vw15 (⟨w2.heap.size, 0, none⟩ : Addr) (Value.int .i64) fun (x17 : Int) =>
        (x16, x17) = sumF l ∧ Ext (fun _ => False) w vw15 := fun r e w4 H hd => by
    refine T176_nil _ _ _ _ ?_
    unfold S176_nil
    exact H.ld 0 rfl rfl (H.ld 1 rfl rfl ⟨hd.symm, H.ext⟩)
  refine (c_bounded (h.keep H.ext) (by omega)).mono (fun w4 h4 => ?_) fun v w4 h4 => ?_
  case refine_2 =>
    obtain ⟨rfl, rfl, ha⟩ := h4
    exact caught _ _ _ H (sumF_no (.inl ha))
  obtain ⟨rfl, ha⟩ := h4
  refine ⟨fun n st w5 => ∃ k : Nat, st = (k : Int) ∧ k ≤ l.length ∧ n = l.length - k ∧ Hx w (fun _ => False) w5 [(w.heap.size, #[.int .i64 (ps l k)], 2), (w2.heap.size, #[.int .i64 0], 38)], l.length, ⟨0, rfl, by omega, rfl, H⟩, ?_⟩
  rintro n st w5 ⟨k, rfl, hk, rfl, H⟩
  unfold S132L1
  rw [hn]
  have hbd := ps_bd k hk fun i hi => ha i (by omega)
  refine Br.dec (fun e3 => ?_) fun e3 => ?_
  · obtain ⟨a, haa, hc1⟩ := (h.keep H.ext).2 k (by omega)
    rw [haa, Int.toNat_natCast, Nat.mul_one]
    have h1 := inW_spec.1 (ha k (by omega))
    refine ⟨by omega, by omega, Nn.of (Ld.mk hc1 (H.ld 0 rfl rfl ?_))⟩
    rw [i64_id (n := ps l k + l.getD k 0) (by omega)]
    exact H.st 0 rfl (by simp) (.inr (Nat.le_refl _)) fun w6 H => ⟨l.length - (k + 1), by omega, k + 1, by rw [i64_id (by omega)]; rfl, by omega, rfl, H⟩
  · have hk2 : k = l.length := by omega
    refine H.ld 0 rfl rfl ?_
    refine (c_answer _ _).mono (fun r w7 h7 => ?_) fun v w7 h7 => ?_
    · obtain ⟨rfl, hw, he⟩ := h7
      have H := H.keep he
      exact H.st 0 rfl (by simp) (.inr (Nat.le_refl _)) fun w8 H => H.st 1 rfl (by simp) (.inr hs) fun w9 H => done _ 0 _ H (by rw [hk2] at hw ⊢; exact sumF_yes ha hw)
    · obtain ⟨rfl, hw, he⟩ := h7
      exact caught _ _ _ (H.keep he) (sumF_no (.inr (by rw [← hk2]; exact hw)))
theorem r_sum (h : IRow w s l) (hl : l.length ≤ 1000000) : C158 s w fun r e w1 => (r, e) = sumF l ∧ w1 = w := by
  refine T158 _ _ _ ?_
  unfold S158
  have hn := h.1
  refine ⟨fun n st w5 => ∃ k : Nat, st = (ps l k, (k : Int)) ∧ k ≤ l.length ∧ n = l.length - k ∧ w5 = w ∧ ∀ i, i < k → inW (l.getD i 0) = true, l.length, ⟨0, rfl, by omega, rfl, rfl, fun i hi => by omega⟩, ?_⟩
  rintro n st w5 ⟨k, rfl, hk, rfl, rfl, hall⟩
  unfold S158L1
  dsimp only
  rw [hn]
  have hbd := ps_bd k hk hall
  refine Br.dec (fun e3 => ?_) fun e3 => ?_
  · obtain ⟨a, haa, hc1⟩ := h.2 k (by omega)
    rw [haa, Int.toNat_natCast, Nat.mul_one]
    refine ⟨by omega, by omega, Nn.of (Ld.mk hc1 ((Fix.r_within _ _).mono ?_))⟩
    rintro r w6 ⟨rfl, rfl⟩
    cases hw : inW (l.getD k 0) with
    | false =>
      refine Br_of (fun _ => ⟨?_, rfl⟩) fun h => by cases h
      rw [sumF_no (.inl fun ha => by rw [ha k (by omega)] at hw; cases hw)]
    | true =>
      refine Br_of (fun h => by cases h) fun _ => ⟨by omega, by omega, Nn.of (Ld.mk hc1 ?_)⟩
      have h1 := inW_spec.1 hw
      refine ⟨l.length - (k + 1), by omega, k + 1, ?_, by omega, rfl, rfl, fun i hi => ?_⟩
      · rw [i64_id (by omega), i64_id (by omega)]
        rfl
      · by_cases hik : i = k
        · rw [hik]
          exact hw
        · exact hall i (by omega)
  · have hk2 : k = l.length := by omega
    refine (r_told _ _).mono ?_
    rintro r e w6 ⟨hr, rfl⟩
    refine ⟨?_, rfl⟩
    rw [hr, hk2]
    have ha : allW l := fun i hi => hall i (by omega)
    cases hw : inW (ps l l.length) with
    | false => rw [sumF_no (.inr hw), if_neg (by decide)]
    | true => rw [sumF_yes ha hw, if_pos rfl]
end
end Pat
end Go.Proofs.YtjbeembbnkmpeaaDoor

/- Numbers read bit by bit: plain laws, no program in sight. No condition. -/
namespace Go.Proofs.YtjbeembbnkmpeaaDoor
namespace Bit
open Sh
set_option linter.unusedVariables false

/-- Byte i of a string, as a number. -/
def byt (s : ByteArray) (i : Nat) : Int := ((s.data.getD i 0).toNat : Int)
theorem byt_bd (s : ByteArray) (i : Nat) : 0 ≤ byt s i ∧ byt s i ≤ 255 := by
  unfold byt
  have := (s.data.getD i 0).toNat_lt
  omega
theorem bAt_byt (s : ByteArray) (i : Nat) : bAt s (i : Int) = byt s i := by
  unfold bAt byt
  rw [Int.toNat_natCast]
/-- Bit p of a string, in the order 'way' (1: least significant first). -/
def bt (s : ByteArray) (way : Int) (p : Nat) : Int := if way = 1 then byt s (p / 8) / 2 ^ (p % 8) % 2 else byt s (p / 8) / 2 ^ (7 - p % 8) % 2
theorem bt_bd (s : ByteArray) (way : Int) (p : Nat) : 0 ≤ bt s way p ∧ bt s way p ≤ 1 := by
  unfold bt
  split <;> omega
/-- The number in i bits from p on. -/
def tk (s : ByteArray) (way : Int) (p : Nat) : Nat → Int
  | 0 => 0
  | i + 1 => if way = 1 then tk s way p i + bt s way (p + i) * 2 ^ i else 2 * tk s way p i + bt s way (p + i)
theorem two_pow_pos (i : Nat) : (0 : Int) < 2 ^ i := Int.pow_pos (by decide)
theorem two_pow_succ (i : Nat) : (2 : Int) ^ (i + 1) = 2 * 2 ^ i := by rw [Int.pow_succ]; omega
theorem two_pow_le {i j : Nat} (h : i ≤ j) : (2 : Int) ^ i ≤ 2 ^ j := by
  obtain ⟨d, rfl⟩ := Nat.exists_eq_add_of_le h
  induction d with
  | zero => exact Int.le_refl _
  | succ d ih => have := ih (by omega); rw [← Nat.add_assoc, two_pow_succ]; have := two_pow_pos (i + d); omega
theorem two_pow_24 {i : Nat} (h : i ≤ 24) : (2 : Int) ^ i ≤ 16777216 := by
  have := two_pow_le h
  have e : (2 : Int) ^ 24 = 16777216 := by decide
  omega
theorem tk_bd (s : ByteArray) (way : Int) (p : Nat) : ∀ i, 0 ≤ tk s way p i ∧ tk s way p i < 2 ^ i
  | 0 => by simp [tk]
  | i + 1 => by
    have ih := tk_bd s way p i
    have hb := bt_bd s way (p + i)
    have hp := two_pow_pos i
    rw [two_pow_succ]
    unfold tk
    split
    · have h1 : bt s way (p + i) = 0 ∨ bt s way (p + i) = 1 := by omega
      rcases h1 with h1 | h1 <;> rw [h1] <;> omega
    · omega
/-- Reading i bits, then j bits. -/
theorem tk_low (s : ByteArray) (p i : Nat) : ∀ j, tk s 1 p (i + j) = tk s 1 (p + i) j * 2 ^ i + tk s 1 p i
  | 0 => by simp [tk]
  | j + 1 => by
    have ih := tk_low s p i j
    rw [← Nat.add_assoc]
    simp only [tk, if_true]
    rw [ih, ← Nat.add_assoc, Int.pow_add, Int.add_mul, Int.mul_assoc, Int.mul_comm ((2 : Int) ^ i)]
    omega
theorem tk_high (s : ByteArray) (p i : Nat) : ∀ j, tk s 2 p (i + j) = tk s 2 p i * 2 ^ j + tk s 2 (p + i) j
  | 0 => by simp [tk]
  | j + 1 => by
    have ih := tk_high s p i j
    rw [← Nat.add_assoc]
    simp only [tk, show ¬ ((2 : Int) = 1) by decide, if_false]
    rw [ih, two_pow_succ, Int.mul_add, ← Nat.add_assoc]
    have : tk s 2 p i * (2 * 2 ^ j) = 2 * (tk s 2 p i * 2 ^ j) := by rw [Int.mul_left_comm]
    omega

/-! ### The bit operations on small numbers -/

theorem ofInt_nat (n x : Nat) : BitVec.ofInt n (x : Int) = BitVec.ofNat n x := by
  apply BitVec.eq_of_toNat_eq
  simp
theorem iand_nat {x y : Nat} (hx : x < 2 ^ 63) (hy : y < 2 ^ 63) : iand .i64 (x : Int) (y : Int) = ((x &&& y : Nat) : Int) := by
  unfold iand
  rw [ofInt_nat, ofInt_nat]
  have h1 : (BitVec.ofNat IntKind.i64.bits x &&& BitVec.ofNat IntKind.i64.bits y).toNat = x &&& y := by
    rw [BitVec.toNat_and, BitVec.toNat_ofNat, BitVec.toNat_ofNat, Nat.mod_eq_of_lt (by simp [IntKind.bits]; omega), Nat.mod_eq_of_lt (by simp [IntKind.bits]; omega)]
  rw [h1]
  have h2 : x &&& y < 2 ^ 63 := Nat.and_lt_two_pow x hy
  exact i64_id (by omega)
theorem ior_nat {x y : Nat} (hx : x < 2 ^ 63) (hy : y < 2 ^ 63) : ior .i64 (x : Int) (y : Int) = ((x ||| y : Nat) : Int) := by
  unfold ior
  rw [ofInt_nat, ofInt_nat]
  have h1 : (BitVec.ofNat IntKind.i64.bits x ||| BitVec.ofNat IntKind.i64.bits y).toNat = x ||| y := by
    rw [BitVec.toNat_or, BitVec.toNat_ofNat, BitVec.toNat_ofNat, Nat.mod_eq_of_lt (by simp [IntKind.bits]; omega), Nat.mod_eq_of_lt (by simp [IntKind.bits]; omega)]
  rw [h1]
  have h2 : x ||| y < 2 ^ 63 := Nat.or_lt_two_pow hx hy
  exact i64_id (by omega)
theorem ior_u8_nat {x y : Nat} (hx : x < 2 ^ 8) (hy : y < 2 ^ 8) : ior .u8 (x : Int) (y : Int) = ((x ||| y : Nat) : Int) := by
  unfold ior
  rw [ofInt_nat, ofInt_nat]
  have h1 : (BitVec.ofNat IntKind.u8.bits x ||| BitVec.ofNat IntKind.u8.bits y).toNat = x ||| y := by
    rw [BitVec.toNat_or, BitVec.toNat_ofNat, BitVec.toNat_ofNat, Nat.mod_eq_of_lt (by simp [IntKind.bits]; omega), Nat.mod_eq_of_lt (by simp [IntKind.bits]; omega)]
  rw [h1]
  have h2 : x ||| y < 2 ^ 8 := Nat.or_lt_two_pow hx hy
  exact u8_id (by omega)
theorem iand_one {x : Int} (h0 : 0 ≤ x) (h1 : x < 9223372036854775808) : iand .i64 x 1 = x % 2 := by
  obtain ⟨n, rfl⟩ := Int.eq_ofNat_of_zero_le h0
  rw [show (1 : Int) = ((1 : Nat) : Int) from rfl, iand_nat (by omega) (by omega), Nat.and_one_is_mod]
  omega
/-- Or-ing in a bit that is not there yet. -/
theorem or_shift {x b i : Nat} (hx : x < 2 ^ i) : x ||| b * 2 ^ i = x + b * 2 ^ i := by
  rw [Nat.or_comm, ← Nat.shiftLeft_eq, ← Nat.shiftLeft_add_eq_or_of_lt hx, Nat.add_comm]
theorem ior_low {x b : Int} {i : Nat} (h0 : 0 ≤ x) (h1 : x < 2 ^ i) (hb : 0 ≤ b ∧ b ≤ 1) (hi : i ≤ 24) : ior .i64 x (b * 2 ^ i) = x + b * 2 ^ i := by
  obtain ⟨n, rfl⟩ := Int.eq_ofNat_of_zero_le h0
  obtain ⟨c, rfl⟩ := Int.eq_ofNat_of_zero_le hb.1
  have e : ((c : Int) * 2 ^ i) = ((c * 2 ^ i : Nat) : Int) := by simp
  have hn : n < 2 ^ i := by exact_mod_cast h1
  have hp' : 2 ^ i ≤ 2 ^ 24 := Nat.pow_le_pow_right (by decide) hi
  have h24 : (2 : Nat) ^ 24 = 16777216 := by decide
  have hc : c * 2 ^ i ≤ 1 * 2 ^ i := Nat.mul_le_mul_right _ (by omega)
  rw [e, ior_nat (by omega) (by omega), or_shift hn, Int.natCast_add]
theorem ior_high {x b : Int} (h0 : 0 ≤ x) (h1 : x < 16777216) (hb : 0 ≤ b ∧ b ≤ 1) : ior .i64 (x * 2) b = 2 * x + b := by
  obtain ⟨n, rfl⟩ := Int.eq_ofNat_of_zero_le h0
  obtain ⟨c, rfl⟩ := Int.eq_ofNat_of_zero_le hb.1
  have e : ((n : Int) * 2) = ((n * 2 : Nat) : Int) := by omega
  rw [e, ior_nat (by omega) (by omega), Nat.or_comm]
  have := or_shift (x := c) (b := n) (i := 1) (by omega)
  simp only [Nat.pow_one] at this
  rw [this]
  omega
theorem fdiv_pow {x : Int} {i : Nat} : Int.fdiv x (2 ^ i) = x / 2 ^ i := Int.fdiv_eq_ediv_of_nonneg x (Int.le_of_lt (two_pow_pos i))
theorem ediv_pow_bd {x : Int} {i : Nat} (h : 0 ≤ x) : 0 ≤ x / 2 ^ i ∧ x / 2 ^ i ≤ x :=
  ⟨Int.ediv_nonneg h (Int.le_of_lt (two_pow_pos i)), Int.ediv_le_self _ h⟩
end Bit
end Go.Proofs.YtjbeembbnkmpeaaDoor

/- Content operators: which operands an operator takes; a string's fields, as the library finds them; plain. No condition. -/
namespace Go.Proofs.YtjbeembbnkmpeaaDoor
namespace Opr
open Sh
set_option linter.unusedVariables false
set_option linter.unusedSimpArgs false
abbrev By := List UInt8
/-- The rows of the table: the operands, the names in one string, the names. -/
def rows : List (By × By × List By) := [
  ([], [98, 32, 66, 32, 98, 42, 32, 66, 42, 32, 66, 84, 32, 69, 84, 32, 69, 77, 67, 32, 66, 88, 32, 69, 88, 32, 102, 32, 70, 32, 102, 42, 32, 104, 32, 110, 32, 113, 32, 81, 32, 115, 32, 83, 32, 84, 42, 32, 87, 32, 87, 42], [[98], [66], [98, 42], [66, 42], [66, 84], [69, 84], [69, 77, 67], [66, 88], [69, 88], [102], [70], [102, 42], [104], [110], [113], [81], [115], [83], [84, 42], [87], [87, 42]]),
  ([110], [103, 32, 71, 32, 105, 32, 106, 32, 74, 32, 77, 32, 119, 32, 84, 99, 32, 84, 76, 32, 84, 114, 32, 84, 115, 32, 84, 119, 32, 84, 122], [[103], [71], [105], [106], [74], [77], [119], [84, 99], [84, 76], [84, 114], [84, 115], [84, 119], [84, 122]]),
  ([110, 110], [100, 48, 32, 108, 32, 109, 32, 84, 100, 32, 84, 68], [[100, 48], [108], [109], [84, 100], [84, 68]]),
  ([110, 110, 110], [114, 103, 32, 82, 71], [[114, 103], [82, 71]]),
  ([110, 110, 110, 110], [107, 32, 75, 32, 114, 101, 32, 118, 32, 121], [[107], [75], [114, 101], [118], [121]]),
  ([110, 110, 110, 110, 110, 110], [99, 32, 99, 109, 32, 100, 49, 32, 84, 109], [[99], [99, 109], [100, 49], [84, 109]]),
  ([78], [66, 77, 67, 32, 99, 115, 32, 67, 83, 32, 68, 111, 32, 103, 115, 32, 77, 80, 32, 114, 105, 32, 115, 104], [[66, 77, 67], [99, 115], [67, 83], [68, 111], [103, 115], [77, 80], [114, 105], [115, 104]]),
  ([78, 110], [84, 102], [[84, 102]]),
  ([78, 42], [66, 68, 67, 32, 68, 80], [[66, 68, 67], [68, 80]]),
  ([115], [84, 106, 32, 39], [[84, 106], [39]]),
  ([110, 110, 115], [34], [[34]]),
  ([97], [84, 74], [[84, 74]]),
  ([97, 110], [100], [[100]]),
  ([100], [66, 73], [[66, 73]])]
/-- What a name takes. -/
def takesL (name : By) : List (By × By × List By) → By
  | [] => [63]
  | r :: rs => if name ∈ r.2.2 then r.1 else takesL name rs
def takes (name : By) : By := takesL name rows
/-! ### Fields -/
def spB (b : UInt8) : Bool := b == 9 || b == 10 || b == 11 || b == 12 || b == 13 || b == 32
def at' (s : By) (i : Nat) : UInt8 := s.getD i 0
/-- The first place from i on that is no space. -/
def skip (s : By) : Nat → Nat → Nat
  | 0, i => i
  | f + 1, i => if i < s.length ∧ spB (at' s i) = true then skip s f (i + 1) else i
/-- How many fields begin among the first i bytes, and whether byte i - 1 is a space. -/
def cnt (s : By) : Nat → Nat × Bool
  | 0 => (0, true)
  | i + 1 => ((cnt s i).1 + (if (cnt s i).2 = true ∧ spB (at' s i) = false then 1 else 0), spB (at' s i))
def runF (s : By) (n : Nat) : Nat → Nat → Nat → List By → Option (List By)
  | 0, _, _, _ => none
  | f + 1, i, fs, out => if i < s.length then
      (if spB (at' s i) = false then runF s n f (i + 1) fs out
      else if out.length < n then runF s n f (skip s (s.length + 1) (i + 1)) (skip s (s.length + 1) (i + 1)) (out ++ [(s.drop fs).take (i - fs)]) else none)
    else if fs < s.length then (if out.length < n then some (out ++ [(s.drop fs).take (s.length - fs)]) else none) else some out
/-- What Fields answers to ASCII. -/
def fieldsM (s : By) : Option (List By) := if s.all (fun b => decide (b < 128)) then
    (match runF s (cnt s s.length).1 (s.length + 1) (skip s (s.length + 1) 0) (skip s (s.length + 1) 0) [] with
    | some l => if l.length = (cnt s s.length).1 then some l else none
    | none => none)
  else none
theorem rows_ok : (rows.all fun r => decide (fieldsM r.2.1 = some r.2.2)) = true := by decide +kernel
end Opr
end Go.Proofs.YtjbeembbnkmpeaaDoor

/- Content operators: strings.Fields over ASCII, slices.Contains over strings, ops.Takes. Condition: the table of spaces is laid. -/
namespace Go.Proofs.YtjbeembbnkmpeaaDoor
namespace Opr
open Sh
set_option linter.unusedVariables false
set_option linter.unusedSimpArgs false
set_option maxRecDepth 4000
set_option maxHeartbeats 4000000
theorem Br.t {b : Bool} {A B : Prop} (h : b = true) (h1 : A) : Br b A B := by rw [h]; exact h1
theorem Br.f {b : Bool} {A B : Prop} (h : b = false) (h1 : B) : Br b A B := by rw [h]; exact h1
theorem pair_eq {α β : Type} {a c : α} {b d : β} (h : a = c) (k : b = d) : (a, b) = (c, d) := by rw [h, k]
abbrev bl (s : ByteArray) : By := s.data.toList
def ba (l : By) : ByteArray := ⟨l.toArray⟩
theorem bl_ba (l : By) : bl (ba l) = l := by simp [bl, ba]
theorem ba_bl (s : ByteArray) : ba (bl s) = s := ba_ext (bl_ba _)
theorem bl_size (s : ByteArray) : s.size = (bl s).length := (Array.length_toList (xs := s.data)).symm
theorem ba_size (l : By) : (ba l).size = l.length := List.size_toArray
theorem eqB (a b : ByteArray) : (a.toList == b.toList) = decide (bl a = bl b) := by
  rw [ByteArray.toList_eq, ByteArray.toList_eq]
  by_cases h : bl a = bl b
  · rw [decide_eq_true h]
    simpa using h
  · rw [decide_eq_false h]
    simpa using h
theorem ext_bl (s : ByteArray) (a b : Nat) : s.extract a b = ba (((bl s).drop a).take (b - a)) := by
  apply ba_ext
  show _ = ((((bl s).drop a).take (b - a)).toArray).toList
  simp only [ByteArray.data_extract, Array.toList_extract, List.extract_eq_take_drop, bl]
/-- The table of spaces, in its block. -/
def AS (w : World) : Prop := ∀ c : Nat, c < 256 → w.cell? ⟨1, c, none⟩ = some (.int .u8 (if spB (UInt8.ofNat c) = true then 1 else 0))
theorem AS.keep {w w' : World} (h : AS w) (he : Ext (fun _ => False) w w') : AS w' := fun c hc => he.cell_same (h c hc)
theorem AS.keepF {F : Nat → Prop} {w w' : World} (h : AS w) (he : Ext F w w') (hF : ¬ F 1) : AS w' := fun c hc => by
  have := h c hc
  rw [he.cell (cell_lt' this) hF]
  exact this
theorem AS.at {w : World} (h : AS w) {s : ByteArray} {i : Nat} {K : Int → Prop} (hi : i < s.size) (k : K (if spB (at' (bl s) i) = true then 1 else 0)) :
    0 ≤ (i : Int) ∧ (i : Int) < ((s.size : Nat) : Int) ∧ 0 ≤ bAt s (i : Int) ∧ bAt s (i : Int) < (256 : Nat) ∧ Ld w ((⟨1, 0, none⟩ : Addr).add ((bAt s (i : Int)).toNat * 1)) (Value.int .u8) K := by
  rw [bAt_list]
  have hb := UInt8.toNat_lt (at' (bl s) i)
  have e : (at' (bl s) i) = (bl s).getD i 0 := rfl
  refine ⟨by omega, by omega, by omega, by rw [← e]; omega, ?_⟩
  rw [Int.toNat_natCast, Nat.mul_one, add_lit, Nat.zero_add]
  refine Ld.mk (x := if spB (at' (bl s) i) = true then 1 else 0) ?_ k
  have := h _ (show ((bl s).getD i 0).toNat < 256 by rw [← e]; exact hb)
  rw [UInt8.ofNat_toNat] at this
  exact this
def strsB (L : List By) : List Value := L.map fun l => .string (ba l)
theorem strsB_len (L : List By) : (strsB L).length = L.length := by unfold strsB; simp
theorem strsB_get {L : List By} {i : Nat} {l : By} (h : L[i]? = some l) : (strsB L)[i]? = some (.string (ba l)) := by
  unfold strsB
  rw [List.getElem?_map, h]
  rfl
theorem strsB_set (L : List By) (i : Nat) (l : By) : (strsB L).set i (.string (ba l)) = strsB (L.set i l) := by unfold strsB; rw [List.map_set]
/-- The strings of a slice. -/
def SL (w : World) (s : Slc) (L : List By) : Prop := s.len = L.length ∧ VRow w s 1 (strsB L)
theorem SL.keep {w w' : World} {s : Slc} {L : List By} (h : SL w s L) (he : Ext (fun _ => False) w w') : SL w' s L := ⟨h.1, h.2.keep he⟩
theorem SL.get {w : World} {s : Slc} {L : List By} (h : SL w s L) {i : Nat} {l : By} (hi : L[i]? = some l) : ∃ a, s.p = some a ∧ w.cell? (a.add (i * 1)) = some (.string (ba l)) := by
  obtain ⟨a, ha, hc⟩ := h.2.2 i _ (strsB_get hi)
  exact ⟨a, ha, by rw [Nat.mul_one]; exact hc⟩
theorem SL.blk {w : World} {g n : Nat} {L : List By} {t : TypeId} (h : Blk w g (strsB L).toArray t) (hn : n = L.length) : SL w ⟨some ⟨g, 0, none⟩, n, n⟩ L := ⟨hn, VRow.of h (by rw [strsB_len, hn]; omega)⟩
theorem elS : El Tryd.prog 31 9 1 16 (.string ByteArray.empty) := ⟨by kernel_rfl, by kernel_rfl, by kernel_rfl, by kernel_rfl, rfl⟩
theorem flat_strs (n : Nat) : (List.replicate n [Value.string ByteArray.empty]).flatten = strsB (List.replicate n []) := by
  unfold strsB
  induction n with
  | zero => rfl
  | succ n ih => rw [List.replicate_succ, List.flatten_cons, ih, List.replicate_succ]; rfl
theorem cnt_le (s : By) : ∀ i, (cnt s i).1 ≤ i
  | 0 => Nat.le_refl _
  | i + 1 => by
    have := cnt_le s i
    show (cnt s i).1 + _ ≤ _
    split <;> omega
theorem and4 (a b : Bool) : iand .i64 (if a = true then 1 else 0) (ixor .i64 (-1) (IntKind.i64.wrap (if b = true then 1 else 0))) = if a = true ∧ b = false then 1 else 0 := by
  cases a <;> cases b <;> decide
theorem or7 {x y : Nat} (hx : x < 128) (hy : y < 128) : ∃ z : Nat, ior .u8 (x : Int) (y : Int) = (z : Int) ∧ z < 128 :=
  ⟨x ||| y, Bit.ior_u8_nat (by omega) (by omega), Nat.or_lt_two_pow (n := 7) hx hy⟩
theorem skip_le (s : By) : ∀ f i, i ≤ skip s f i
  | 0, i => Nat.le_refl _
  | f + 1, i => by
    unfold skip
    split
    · have := skip_le s f (i + 1); omega
    · exact Nat.le_refl _
theorem skip_len (s : By) : ∀ f i, i ≤ s.length → skip s f i ≤ s.length
  | 0, i, h => h
  | f + 1, i, h => by
    unfold skip
    split
    · exact skip_len s f (i + 1) (by omega)
    · exact h
theorem runF_len {s : By} {n : Nat} {res : List By} : ∀ (f i fs : Nat) (out : List By), runF s n f i fs out = some res → out.length ≤ res.length
  | 0, _, _, _, h => by cases h
  | f + 1, i, fs, out, h => by
    unfold runF at h
    split at h
    · split at h
      · exact runF_len f _ _ _ h
      · split at h
        · have := runF_len f _ _ _ h
          rw [List.length_append] at this
          omega
        · cases h
    · split at h
      · split at h
        · cases h
          rw [List.length_append]
          omega
        · cases h
      · cases h
        exact Nat.le_refl _
attribute [local irreducible] Ld St Nw Nn Lt LdS
section
variable {w w1 : World} {s : ByteArray} {L : List By}
theorem c_fields (h : AS w) (hs : fieldsM (bl s) = some L) (hsz : s.size ≤ 1000000) : C138 s w fun r w1 => SL w1 r L ∧ Ext (fun _ => False) w w1 := by
  refine T138 _ _ _ ?_
  unfold S138
  have hl := bl_size s
  unfold fieldsM at hs
  split at hs
  rotate_left
  · cases hs
  rename_i hall
  split at hs
  rotate_left
  · cases hs
  rename_i res hrun
  split at hs
  rotate_left
  · cases hs
  rename_i hres
  cases hs
  have low : ∀ i, i < (bl s).length → (at' (bl s) i).toNat < 128 := fun i hi => by
    have := List.all_eq_true.1 hall (at' (bl s) i) (by unfold at'; rw [List.getD_eq_getElem?_getD, List.getElem?_eq_getElem hi]; exact List.getElem_mem hi)
    have := of_decide_eq_true this
    exact this
  refine ⟨fun n st w1 => ∃ i z : Nat, st = (((cnt (bl s) i).1 : Int), (if (cnt (bl s) i).2 = true then 1 else 0), (z : Int), (i : Int)) ∧ z < 128 ∧ i ≤ (bl s).length ∧ n = (bl s).length - i ∧ w1 = w, (bl s).length, ⟨0, 0, rfl, by omega, by omega, rfl, rfl⟩, ?_⟩
  rintro n st w0 ⟨i, z, rfl, hz, hi, rfl, rfl⟩
  unfold S138L4
  dsimp only
  have hcl := cnt_le (bl s) i
  refine Br.dec (fun q => h.at (by omega) ?_) fun q => ?_
  · obtain ⟨z', hz1, hz2⟩ := or7 (x := z) (y := (at' (bl s) i).toNat) hz (low i (by omega))
    have eb : bAt s (i : Int) = ((at' (bl s) i).toNat : Int) := bAt_list s i
    rw [eb, hz1, and4, i64_id (n := (i : Int) + 1) (by omega)]
    refine ⟨(bl s).length - (i + 1), by omega, i + 1, z', ?_, hz2, by omega, rfl, rfl⟩
    refine pair_eq ?_ (pair_eq ?_ rfl)
    · show _ = (((cnt (bl s) i).1 + _ : Nat) : Int)
      by_cases hc : (cnt (bl s) i).2 = true ∧ spB (at' (bl s) i) = false
      · rw [if_pos hc, if_pos hc, i64_id (by omega)]
        rfl
      · rw [if_neg hc, if_neg hc, i64_id (by omega)]
        omega
    · rw [i64_id (by split <;> omega)]
      rfl
  · have : i = (bl s).length := by omega
    subst this
    refine Br.dec (fun q2 => by omega) fun q2 => ?_
    have hc := cnt_le (bl s) (bl s).length
    generalize hn : (cnt (bl s) (bl s).length).1 = N at *
    obtain ⟨w2, hmk, hw2⟩ := elS.make (zs := [.string ByteArray.empty]) rfl w0 N (by omega) (by omega)
    refine ⟨_, w2, hmk, ?_⟩
    have H : Hn w0 w2 [(w0.heap.size, strsB (List.replicate N []), 9)] := by
      rw [← flat_strs, hw2]
      exact ((Hn.start w0).keep ((Ext.refl _ _).alloc _)).push (Blk.new _ _ _) (Nat.le_refl _) (by simp)
    clear hw2 hmk
    have hsk0 := skip_len (bl s) ((bl s).length + 1) 0 (by omega)
    generalize hS0 : skip (bl s) ((bl s).length + 1) 0 = S0 at *
    refine ⟨fun st w3 => st = ((S0 : Nat) : Int) ∧ w3 = w2, ?_, ?_⟩
    rotate_left
    · refine ⟨fun n st w3 => ∃ f i : Nat, st = (i : Int) ∧ i ≤ (bl s).length ∧ n = f ∧ (bl s).length < i + f ∧ skip (bl s) f i = S0 ∧ w3 = w2, (bl s).length + 1, ⟨(bl s).length + 1, 0, rfl, by omega, rfl, by omega, hS0, rfl⟩, ?_⟩
      rintro n st w3 ⟨f, i, rfl, hi, rfl, hf, hsk, rfl⟩
      unfold S138L3
      obtain ⟨f, rfl⟩ : ∃ f', n = f' + 1 := ⟨n - 1, by omega⟩
      unfold skip at hsk
      refine Br.dec (fun q3 => (h.keep H.ext).at (by omega) ?_) fun q3 => ?_
      · by_cases hsp : spB (at' (bl s) i) = true
        · rw [if_pos hsp]
          rw [if_pos ⟨by omega, hsp⟩] at hsk
          refine Br.t rfl ⟨f, by omega, f, i + 1, by rw [i64_id (by omega)]; rfl, by omega, rfl, by omega, hsk, rfl⟩
        · rw [if_neg hsp]
          rw [if_neg (fun hh => hsp hh.2)] at hsk
          exact Br.f rfl ⟨by rw [← hsk], rfl⟩
      · rw [if_neg (fun hh => by omega)] at hsk
        exact ⟨by rw [← hsk], rfl⟩
    rintro st w3 ⟨rfl, rfl⟩
    unfold S138J1
    refine ⟨fun n st w3 => ∃ (f i fs : Nat) (out : List By), st = (((out.length : Nat) : Int), (fs : Int), (i : Int)) ∧ i ≤ (bl s).length ∧ fs ≤ i ∧ n = f ∧ runF (bl s) N f i fs out = some L ∧ out.length ≤ N ∧ Hn w0 w3 [(w0.heap.size, strsB (out ++ List.replicate (N - out.length) []), 9)], (bl s).length + 1,
      ⟨(bl s).length + 1, _, _, [], rfl, hsk0, Nat.le_refl _, rfl, hrun, by simp, by simpa using H⟩, ?_⟩
    clear H hrun
    rintro n st w3 ⟨f, i, fs, out, rfl, hi, hfs, rfl, hrun, hout, H⟩
    unfold S138L2
    dsimp only
    obtain ⟨f, rfl⟩ : ∃ f', n = f' + 1 := by
      cases n with
      | zero => cases hrun
      | succ n => exact ⟨n, rfl⟩
    unfold runF at hrun
    have hrl : (strsB (out ++ List.replicate (N - out.length) [])).length = N := by
      rw [strsB_len, List.length_append, List.length_replicate]
      omega
    have setL : ∀ p : By, out.length < N → (strsB (out ++ List.replicate (N - out.length) [])).set out.length (.string (ba p)) = strsB ((out ++ [p]) ++ List.replicate (N - (out ++ [p]).length) []) := fun p hlt => by
      rw [strsB_set, List.set_append_right _ _ (Nat.le_refl _), Nat.sub_self, show N - out.length = (N - (out ++ [p]).length) + 1 by simp; omega, List.replicate_succ, List.set_cons_zero, List.append_assoc]
      rfl
    refine Br.dec (fun q3 => (h.keep H.ext).at (by omega) ?_) fun q3 => ?_
    · rw [if_pos (by omega)] at hrun
      by_cases hsp : spB (at' (bl s) i) = false
      · rw [if_pos hsp] at hrun
        rw [hsp]
        exact Br.t rfl ⟨f, by omega, f, i + 1, fs, out, by rw [i64_id (by omega)]; rfl, by omega, by omega, rfl, hrun, hout, H⟩
      · rw [if_neg hsp] at hrun
        have hsp1 : spB (at' (bl s) i) = true := by simpa using hsp
        rw [hsp1]
        split at hrun
        rotate_left
        · cases hrun
        rename_i hlt
        refine Br.f rfl ⟨by omega, by omega, by omega, by omega, by omega, by show ((out.length : Nat) : Int) < ((N : Nat) : Int); omega, Nn.of ?_⟩
        simp only [add_lit, Int.toNat_natCast, Nat.mul_one, Nat.zero_add]
        refine H.st 0 rfl (by rw [hrl]; exact hlt) fun w4 H => ?_
        simp only [List.set_cons_zero] at H
        rw [ext_bl, setL _ hlt] at H
        have hskl := skip_len (bl s) ((bl s).length + 1) (i + 1) (by omega)
        generalize hS1 : skip (bl s) ((bl s).length + 1) (i + 1) = S1 at *
        refine ⟨fun n st w5 => ∃ g j : Nat, st = (j : Int) ∧ j ≤ (bl s).length ∧ i < j ∧ n = g ∧ (bl s).length < j + g ∧ skip (bl s) g j = S1 ∧ w5 = w4, (bl s).length + 1, ⟨(bl s).length + 1, i + 1, by rw [i64_id (by omega)]; rfl, by omega, by omega, rfl, by omega, hS1, rfl⟩, ?_⟩
        rintro n st w5 ⟨g, j, rfl, hj, hij, rfl, hg, hsk, rfl⟩
        unfold S138L1
        obtain ⟨g, rfl⟩ : ∃ g', n = g' + 1 := ⟨n - 1, by omega⟩
        unfold skip at hsk
        dsimp only
        have next : j = S1 → ∃ n', n' < f + 1 ∧ ∃ (f' i' fs' : Nat) (out' : List By), (IntKind.i64.wrap (((out.length : Nat) : Int) + 1), (j : Int), (j : Int)) = (((out'.length : Nat) : Int), (fs' : Int), (i' : Int)) ∧ i' ≤ (bl s).length ∧ fs' ≤ i' ∧ n' = f' ∧ runF (bl s) N f' i' fs' out' = some L ∧ out'.length ≤ N ∧ Hn w0 w5 [(w0.heap.size, strsB (out' ++ List.replicate (N - out'.length) []), 9)] := fun hh => by
          refine ⟨f, by omega, f, j, j, out ++ [((bl s).drop fs).take (i - fs)], ?_, hj, Nat.le_refl _, rfl, by rw [hh]; exact hrun, by rw [List.length_append]; simp; omega, H⟩
          rw [i64_id (by omega), List.length_append]
          rfl
        refine Br.dec (fun q4 => (h.keep H.ext).at (by omega) ?_) fun q4 => ?_
        · by_cases hsp : spB (at' (bl s) j) = true
          · rw [if_pos hsp]
            rw [if_pos ⟨by omega, hsp⟩] at hsk
            refine Br.t rfl ⟨g, by omega, g, j + 1, by rw [i64_id (by omega)]; rfl, by omega, by omega, rfl, by omega, hsk, rfl⟩
          · rw [if_neg hsp]
            rw [if_neg (fun hh => hsp hh.2)] at hsk
            exact Br.f rfl (next hsk)
        · rw [if_neg (fun hh => by omega)] at hsk
          exact next hsk
    · rw [if_neg (by omega)] at hrun
      refine Br.dec (fun q4 => ⟨by omega, by omega, by omega, ?_⟩) fun q4 => ?_
      · rw [if_pos (by omega)] at hrun
        split at hrun
        rotate_left
        · cases hrun
        rename_i hlt
        cases hrun
        refine ⟨by show ((out.length : Nat) : Int) < ((N : Nat) : Int); omega, Nn.of ?_⟩
        simp only [add_lit, Int.toNat_natCast, Nat.mul_one, Nat.zero_add]
        refine H.st 0 rfl (by rw [hrl]; exact hlt) fun w4 H => ?_
        simp only [List.set_cons_zero] at H
        rw [ext_bl, setL _ hlt, hl] at H
        have e0 : N - (out ++ [((bl s).drop fs).take ((bl s).length - fs)]).length = 0 := by omega
        rw [e0, List.replicate_zero, List.append_nil] at H
        exact ⟨SL.blk (H.get 0 rfl) hres.symm, H.ext⟩
      · rw [if_neg (by omega)] at hrun
        cases hrun
        rw [hres, Nat.sub_self, List.replicate_zero, List.append_nil] at H
        exact ⟨SL.blk (H.get 0 rfl) hres.symm, H.ext⟩
end
end Opr
end Go.Proofs.YtjbeembbnkmpeaaDoor

/- Content operators: Takes and Check, on both sides. Condition: the table of spaces is laid. -/
namespace Go.Proofs.YtjbeembbnkmpeaaDoor
namespace Opr
open Sh Mat
set_option linter.unusedVariables false
set_option linter.unusedSimpArgs false
set_option maxRecDepth 8000
set_option maxHeartbeats 8000000
theorem takesL_at {nm : By} : ∀ (R : List (By × By × List By)) (i : Nat) (r : By × By × List By), R[i]? = some r → (∀ (j : Nat) (q : By × By × List By), j < i → R[j]? = some q → nm ∉ q.2.2) → nm ∈ r.2.2 → takesL nm R = r.1
  | [], i, r, h, _, _ => by cases h
  | x :: R, 0, r, h, _, hm => by
    cases h
    unfold takesL
    rw [if_pos hm]
  | x :: R, i + 1, r, h, hn, hm => by
    unfold takesL
    rw [if_neg (hn 0 x (by omega) rfl)]
    exact takesL_at R i r (by simpa using h) (fun j q hj hq => hn (j + 1) q (by omega) (by simpa using hq)) hm
theorem takesL_no {nm : By} : ∀ (R : List (By × By × List By)), (∀ (j : Nat) (q : By × By × List By), R[j]? = some q → nm ∉ q.2.2) → takesL nm R = [63]
  | [], _ => rfl
  | x :: R, hn => by
    unfold takesL
    rw [if_neg (hn 0 x rfl)]
    exact takesL_no R fun j q hq => hn (j + 1) q (by simpa using hq)
theorem takes_in (nm : By) : takes nm = [63] ∨ ∃ r ∈ rows, takes nm = r.1 := by
  have : ∀ R : List (By × By × List By), takesL nm R = [63] ∨ ∃ r ∈ R, takesL nm R = r.1 := fun R => by
    induction R with
    | nil => exact .inl rfl
    | cons x R ih =>
      unfold takesL
      split
      · exact .inr ⟨x, by simp, rfl⟩
      · rcases ih with h | ⟨r, hr, h⟩
        · exact .inl h
        · exact .inr ⟨r, List.mem_cons_of_mem _ hr, h⟩
  exact this rows
theorem rows_low : (rows.all fun r => decide (r.1.length ≤ 6) && r.1.all fun b => decide (b < 128)) = true := by decide +kernel
theorem takes_low (nm : By) : (takes nm).length ≤ 6 ∧ ∀ i, i < (takes nm).length → ((takes nm).getD i 0).toNat < 128 := by
  have key : ∀ l : By, (decide (l.length ≤ 6) && l.all fun b => decide (b < 128)) = true → l.length ≤ 6 ∧ ∀ i, i < l.length → (l.getD i 0).toNat < 128 := fun l hl => by
    obtain ⟨h1, h2⟩ := Bool.and_eq_true_iff.1 hl
    refine ⟨of_decide_eq_true h1, fun i hi => ?_⟩
    have := List.all_eq_true.1 h2 (l.getD i 0) (by rw [List.getD_eq_getElem?_getD, List.getElem?_eq_getElem hi]; exact List.getElem_mem hi)
    exact of_decide_eq_true this
  rcases takes_in nm with h | ⟨r, hr, h⟩
  · rw [h]
    exact key _ (by decide)
  · rw [h]
    exact key _ (List.all_eq_true.1 rows_low r hr)
/-- Whether an operand fits. -/
def fitsK (b : UInt8) (k : Int) : Bool := if b = 110 then k == 2 || k == 3 else if b = 115 then k == 4 else if b = 78 then k == 5 else if b = 97 then k == 6 else if b = 100 then k == 7 else true
def fitsT : By → List Ob → Bool
  | b :: t, o :: L => fitsK b o.1 && fitsT t L
  | _, _ => true
/-- What Check answers. -/
def chkF (nm : By) (L : List Ob) (d : By) : Int := if takes nm = [63] then 28 else if (takes nm).length ≠ L.length then 28 else if fitsT (takes nm) L = false then 28 else if d ≠ [] ∧ nm ≠ [66, 73] then 3 else 0
theorem fitsT_no {t : By} {L : List Ob} {i : Nat} {b : UInt8} {o : Ob} (hb : t[i]? = some b) (ho : L[i]? = some o) (h : fitsK b o.1 = false) : fitsT t L = false := by
  induction t generalizing L i with
  | nil => cases hb
  | cons x t ih =>
    cases L with
    | nil => cases ho
    | cons p L =>
      cases i with
      | zero =>
        cases hb; cases ho
        simp [fitsT, h]
      | succ i =>
        simp [fitsT, ih (by simpa using hb) (by simpa using ho)]
theorem fitsT_yes {t : By} {L : List Ob} (h : ∀ (i : Nat) (b : UInt8) (o : Ob), t[i]? = some b → L[i]? = some o → fitsK b o.1 = true) : fitsT t L = true := by
  induction t generalizing L with
  | nil => unfold fitsT; rfl
  | cons x t ih =>
    cases L with
    | nil => unfold fitsT; rfl
    | cons p L =>
      have h0 := h 0 x p rfl rfl
      have := ih (L := L) fun i b o hb ho => h (i + 1) b o (by simpa using hb) (by simpa using ho)
      simp [fitsT, h0, this]
theorem itW_ext (w : World) (b : Nat) (s : ByteArray) (p : Nat) : Ext (· = b) w (itW w b s p) :=
  ⟨rfl, rfl, rfl, by simp [itW], fun k hk hn => by
    unfold itW
    simp only
    rw [Array.getElem?_setIfInBounds]
    rw [if_neg fun e => hn e.symm]⟩
theorem itW_at {w : World} {b : Nat} {s : ByteArray} {p : Nat} (h : b < w.heap.size) : (itW w b s p).heap[b]? = some (.stringIter s p) := by
  unfold itW
  simp [Array.getElem?_setIfInBounds, h]
attribute [local irreducible] Ld St Nw Nn Lt LdS
section
variable {w w1 : World} {s : Slc} {L : List By}
theorem c_contains (h : SL w s L) (hl : L.length ≤ 1000000) (v : ByteArray) : C140 s v w fun r w1 => r = decide (bl v ∈ L) ∧ w1 = w := by
  refine T140 _ _ _ _ ?_
  unfold S140
  refine C190.mono (T190 _ _ _ (fun r w1 => decide (r ≥ 0) = decide (bl v ∈ L) ∧ w1 = w) ?_) (fun r w1 h => h)
  unfold S190
  refine ⟨fun n st w1 => ∃ i : Nat, st = (i : Int) ∧ i ≤ L.length ∧ n = L.length - i ∧ w1 = w ∧ ∀ j l, j < i → L[j]? = some l → bl v ≠ l, L.length, ⟨0, rfl, by omega, rfl, rfl, fun j l hj => by omega⟩, ?_⟩
  rintro n st w ⟨i, rfl, hi, rfl, rfl, hno⟩
  unfold S190L1
  rw [h.1]
  refine Br.dec (fun q => ⟨by omega, by omega, ?_⟩) fun q => ?_
  · obtain ⟨l, hli⟩ : ∃ l, L[i]? = some l := ⟨_, List.getElem?_eq_getElem (by omega)⟩
    obtain ⟨a, ha, hc⟩ := h.get hli
    rw [ha, Int.toNat_natCast]
    refine Nn.of (Ld.mk hc ?_)
    rw [eqB, bl_ba]
    refine Br.dec (fun q2 => ⟨?_, rfl⟩) fun q2 => ⟨L.length - (i + 1), by omega, i + 1, by rw [i64_id (by omega)]; rfl, by omega, rfl, rfl, fun j l' hj hl' => ?_⟩
    · rw [decide_eq_true (by omega), decide_eq_true (by rw [q2]; exact List.mem_of_getElem? hli)]
    · by_cases e : j = i
      · subst e
        rw [hli] at hl'
        cases hl'
        exact q2
      · exact hno j l' (by omega) hl'
  · refine ⟨?_, rfl⟩
    rw [decide_eq_false (by omega), decide_eq_false]
    intro hm
    obtain ⟨j, hj⟩ := List.mem_iff_getElem?.1 hm
    exact hno j _ (by have := (List.getElem?_eq_some_iff.1 hj).1; omega) hj rfl
theorem tab14 {i : Nat} (h : i < 14) : ∃ r, rows[i]? = some r ∧ (#[.string ⟨#[]⟩, .string ⟨#[98, 32, 66, 32, 98, 42, 32, 66, 42, 32, 66, 84, 32, 69, 84, 32, 69, 77, 67, 32, 66, 88, 32, 69, 88, 32, 102, 32, 70, 32, 102, 42, 32, 104, 32, 110, 32, 113, 32, 81, 32, 115, 32, 83, 32, 84, 42, 32, 87, 32, 87, 42]⟩, .string ⟨#[110]⟩, .string ⟨#[103, 32, 71, 32, 105, 32, 106, 32, 74, 32, 77, 32, 119, 32, 84, 99, 32, 84, 76, 32, 84, 114, 32, 84, 115, 32, 84, 119, 32, 84, 122]⟩, .string ⟨#[110, 110]⟩, .string ⟨#[100, 48, 32, 108, 32, 109, 32, 84, 100, 32, 84, 68]⟩, .string ⟨#[110, 110, 110]⟩, .string ⟨#[114, 103, 32, 82, 71]⟩, .string ⟨#[110, 110, 110, 110]⟩, .string ⟨#[107, 32, 75, 32, 114, 101, 32, 118, 32, 121]⟩, .string ⟨#[110, 110, 110, 110, 110, 110]⟩, .string ⟨#[99, 32, 99, 109, 32, 100, 49, 32, 84, 109]⟩, .string ⟨#[78]⟩, .string ⟨#[66, 77, 67, 32, 99, 115, 32, 67, 83, 32, 68, 111, 32, 103, 115, 32, 77, 80, 32, 114, 105, 32, 115, 104]⟩, .string ⟨#[78, 110]⟩, .string ⟨#[84, 102]⟩, .string ⟨#[78, 42]⟩, .string ⟨#[66, 68, 67, 32, 68, 80]⟩, .string ⟨#[115]⟩, .string ⟨#[84, 106, 32, 39]⟩, .string ⟨#[110, 110, 115]⟩, .string ⟨#[34]⟩, .string ⟨#[97]⟩, .string ⟨#[84, 74]⟩, .string ⟨#[97, 110]⟩, .string ⟨#[100]⟩, .string ⟨#[100]⟩, .string ⟨#[66, 73]⟩] : Array Value).extract (i * 2) (i * 2 + 2) = #[.string (ba r.1), .string (ba r.2.1)] := by
  have hc : i = 0 ∨ i = 1 ∨ i = 2 ∨ i = 3 ∨ i = 4 ∨ i = 5 ∨ i = 6 ∨ i = 7 ∨ i = 8 ∨ i = 9 ∨ i = 10 ∨ i = 11 ∨ i = 12 ∨ i = 13 := by omega
  rcases hc with rfl | rfl | rfl | rfl | rfl | rfl | rfl | rfl | rfl | rfl | rfl | rfl | rfl | rfl <;> exact ⟨_, rfl, rfl⟩
theorem c_takes (h : AS w) (name : ByteArray) : C141 name w fun r w1 => r = ba (takes (bl name)) ∧ Ext (fun _ => False) w w1 := by
  refine T141 _ _ _ ?_
  unfold S141
  refine (Hn.start w).nw fun w2 H => ?_
  simp only [List.nil_append, add_lit, Nat.zero_add] at H ⊢
  iterate 28 (refine H.st 0 rfl (by simp) fun _ H => ?_; simp only [List.nil_append, List.cons_append, List.set_cons_zero, List.set_cons_succ, Nat.zero_add] at H)
  iterate 28 refine H.ld 0 rfl rfl ?_
  have e0 := H.ext
  clear H
  refine ⟨fun n st w3 => ∃ i : Nat, st = (i : Int) ∧ i ≤ 14 ∧ n = 14 - i ∧ Ext (fun _ => False) w w3 ∧ ∀ j q, j < i → rows[j]? = some q → bl name ∉ q.2.2, 14, ⟨0, rfl, by omega, rfl, e0, fun j q hj => by omega⟩, ?_⟩
  clear e0
  rintro n st w3 ⟨i, rfl, hi, rfl, e3, hno⟩
  unfold S141L1
  refine Br.dec (fun q => ⟨by omega, by omega, ?_⟩) fun q => ⟨?_, e3⟩
  · obtain ⟨r, hr, hx⟩ := tab14 (i := i) (by omega)
    have hmem : r ∈ rows := List.mem_of_getElem? hr
    rw [Int.toNat_natCast]
    refine ⟨(ba r.1, ba r.2.1), hx, ?_⟩
    refine (Hn.start w3).nw fun w4 H => ?_
    simp only [List.nil_append] at H
    iterate 2 (refine H.st 0 rfl (by simp) fun _ H => ?_; simp only [List.nil_append, List.cons_append, List.set_cons_zero, List.set_cons_succ, Nat.zero_add] at H)
    iterate 1 refine H.ld 0 rfl rfl ?_
    have e4 := e3.tr H.ext
    refine (c_fields (h.keep e4) (L := r.2.2) (by rw [bl_ba]; exact of_decide_eq_true (List.all_eq_true.1 rows_ok r hmem)) (by
      have : (rows.all fun r => decide (r.2.1.length ≤ 1000)) = true := by decide +kernel
      have := of_decide_eq_true (List.all_eq_true.1 this r hmem)
      rw [ba_size]
      omega)).mono ?_
    rintro f w5 ⟨hf, e5⟩
    have H := H.keep e5
    refine (c_contains hf (by
      have : (rows.all fun r => decide (r.2.2.length ≤ 1000)) = true := by decide +kernel
      have := of_decide_eq_true (List.all_eq_true.1 this r hmem)
      omega) name).mono ?_
    rintro b w5 ⟨rfl, rfl⟩
    refine Br.dec (fun q2 => ?_) fun q2 => ?_
    · iterate 1 refine H.ld 0 rfl rfl ?_
      refine ⟨?_, e4.tr e5⟩
      congr 1
      exact (takesL_at rows i r hr hno q2).symm
    · refine ⟨14 - (i + 1), by omega, i + 1, by rw [i64_id (by omega)]; rfl, by omega, rfl, e4.tr e5, fun j q' hj hq' => ?_⟩
      by_cases e : j = i
      · subst e
        rw [hr] at hq'
        cases hq'
        exact q2
      · exact hno j q' (by omega) hq'
  · have hi14 : i = 14 := by omega
    have : takes (bl name) = [63] := takesL_no rows fun j q' hq' => hno j q' (by have := (List.getElem?_eq_some_iff.1 hq').1; have e : rows.length = 14 := rfl; omega) hq'
    rw [this]
    rfl
theorem c_fits (b : UInt8) (k : Int) (w : World) : C142 ((b.toNat : Nat) : Int) k w fun r w1 => r = fitsK b k ∧ w1 = w := by
  refine T142 _ _ _ _ ?_
  unfold S142 fitsK
  have e : ∀ c : UInt8, (((b.toNat : Nat) : Int) = ((c.toNat : Nat) : Int)) ↔ b = c := fun c => ⟨fun h => UInt8.toNat_inj.1 (by omega), fun h => by rw [h]⟩
  refine Br.eq (fun q => ?_) fun q => ?_
  · rw [if_pos ((e 110).1 q)]
    refine Br.eq (fun q2 => ⟨by rw [q2]; rfl, rfl⟩) fun q2 => ⟨by simp [q2], rfl⟩
  rw [if_neg fun h => q ((e 110).2 h)]
  refine Br.eq (fun q => ?_) fun q => ?_
  · rw [if_pos ((e 115).1 q)]
    exact ⟨rfl, rfl⟩
  rw [if_neg fun h => q ((e 115).2 h)]
  refine Br.eq (fun q => ?_) fun q => ?_
  · rw [if_pos ((e 78).1 q)]
    exact ⟨rfl, rfl⟩
  rw [if_neg fun h => q ((e 78).2 h)]
  refine Br.eq (fun q => ?_) fun q => ?_
  · rw [if_pos ((e 97).1 q)]
    exact ⟨rfl, rfl⟩
  rw [if_neg fun h => q ((e 97).2 h)]
  refine Br.eq (fun q => ?_) fun q => ?_
  · rw [if_pos ((e 100).1 q)]
    exact ⟨rfl, rfl⟩
  rw [if_neg fun h => q ((e 100).2 h)]
  exact ⟨rfl, rfl⟩
theorem byte_at {t : By} {i : Nat} (h : i < t.length) : t[i]? = some (t.getD i 0) := by
  rw [List.getD_eq_getElem?_getD, List.getElem?_eq_getElem h]
  rfl
theorem dec_at {t : By} {i : Nat} (h : i < t.length) (hb : (t.getD i 0).toNat < 128) : Utf8.decode (ba t) i = ((t.getD i 0).toNat, 1) := by
  have hs : i < (ba t).size := by rw [ba_size]; exact h
  have e : (ba t)[i]'hs = t.getD i 0 := by
    rw [List.getD_eq_getElem?_getD, List.getElem?_eq_getElem h]
    rfl
  have := decode_ascii (ba t) i hs (by rw [e]; exact hb)
  rw [this, e]
theorem c_check {name data : ByteArray} {s : Slc} {L : List Ob} (h : AS w) (hL : OV w s L) (hlen : L.length ≤ 9223372036854775807) : C80 (name, s, data) w fun r w1 => r = chkF (bl name) L (bl data) ∧ Ext (fun _ => False) w w1 := by
  refine T80 (name, s, data) _ _ ?_
  unfold S80
  refine (Hn.start w).nw fun w2 H => ?_
  simp only [List.nil_append] at H
  iterate 1 refine H.ld 0 rfl rfl ?_
  refine (c_takes (h.keep H.ext) name).mono ?_
  rintro t w3 ⟨rfl, e3⟩
  have H := H.keep e3
  obtain ⟨tl1, tl2⟩ := takes_low (bl name)
  rw [eqB, bl_ba]
  unfold chkF
  refine Br.dec (fun q => ⟨by rw [if_pos q], H.ext⟩) fun q => ?_
  have q' : takes (bl name) ≠ [63] := q
  rw [if_neg q']
  iterate 1 refine H.ld 0 rfl rfl ?_
  rw [ba_size, hL.1]
  refine Br.ne (fun q2 => ⟨by rw [if_pos (by omega)], H.ext⟩) fun q2 => ?_
  rw [if_neg (c := List.length (takes (bl name)) ≠ List.length L) (by omega)]
  generalize ht : takes (bl name) = t at *
  refine Nw.of ?_
  have hb3 : w3.heap.size < (w3.alloc (.stringIter (ba t) 0)).heap.size := by simp
  have H4 := H.keep ((Ext.refl (fun _ => False) w3).alloc (.stringIter (ba t) 0))
  have hlt := H.lt 0 rfl
  refine ⟨fun n st w4 => ∃ i : Nat, i ≤ t.length ∧ n = t.length - i ∧ w4.heap[w3.heap.size]? = some (.stringIter (ba t) i) ∧ Hn w w4 [(w.heap.size, [.string name, Slc.v s, .string data], 63)] ∧ ∀ j b o, j < i → t[j]? = some b → L[j]? = some o → fitsK b o.1 = true, t.length,
    ⟨0, by omega, rfl, by show (w3.heap.push _)[w3.heap.size]? = _; simp, H4, fun j b o hj => by omega⟩, ?_⟩
  rintro n st w4 ⟨i, hi, rfl, hit, H, hall⟩
  unfold S80L1
  have hsz4 : w3.heap.size < w4.heap.size := (Array.getElem?_eq_some_iff.1 hit).1
  refine ⟨ba t, i, rfl, hit, ?_⟩
  rw [ba_size]
  refine Br.dec (fun q3 => ?_) fun q3 => ?_
  · rw [dec_at q3 (tl2 i q3)]
    have e5 := itW_ext w4 w3.heap.size (ba t) (i + 1)
    have H5 : Hn w (itW w4 w3.heap.size (ba t) (i + 1)) [(w.heap.size, [.string name, Slc.v s, .string data], 63)] := H.other e5 fun j hj => by subst hj; simp; omega
    have hit5 := itW_at (s := ba t) (p := i + 1) hsz4
    generalize itW w4 w3.heap.size (ba t) (i + 1) = w5 at *
    refine H5.ld 0 rfl rfl ?_
    obtain ⟨o, ho⟩ : ∃ o, L[i]? = some o := ⟨_, List.getElem?_eq_getElem (by omega)⟩
    obtain ⟨a, ha, c0, _⟩ := (hL.keep H5.ext).get ho
    rw [hL.1, ha, Int.toNat_natCast]
    refine ⟨by omega, by omega, Nn.of (Ld.mk c0 ((c_fits _ _ _).mono ?_))⟩
    rintro r w6 ⟨rfl, rfl⟩
    by_cases hf : fitsK (t.getD i 0) o.1 = true
    · rw [hf]
      refine Br.f rfl ⟨t.length - (i + 1), by omega, i + 1, by omega, rfl, hit5, H5, fun j b o' hj hb ho' => ?_⟩
      by_cases e : j = i
      · subst e
        rw [byte_at q3] at hb
        rw [ho] at ho'
        cases hb; cases ho'
        exact hf
      · exact hall j b o' (by omega) hb ho'
    · have hf : fitsK (t.getD i 0) o.1 = false := by simpa using hf
      rw [hf]
      exact Br.t rfl ⟨by rw [if_pos (fitsT_no (byte_at q3) ho hf)], H5.ext⟩
  · have hyes : fitsT t L = true := fitsT_yes fun j b o hb ho => hall j b o (by have := (List.getElem?_eq_some_iff.1 hb).1; omega) hb ho
    rw [if_neg (by rw [hyes]; simp)]
    iterate 1 refine H.ld 0 rfl rfl ?_
    rw [eqB]
    have e0 : bl (⟨#[]⟩ : ByteArray) = [] := rfl
    have e1 : bl (⟨#[66, 73]⟩ : ByteArray) = [66, 73] := rfl
    rw [e0]
    by_cases hd : bl data = []
    · rw [decide_eq_true hd, if_neg fun hh => hh.1 hd]
      exact Br.f rfl ⟨rfl, H.ext⟩
    · rw [decide_eq_false hd]
      refine Br.t rfl ?_
      iterate 1 refine H.ld 0 rfl rfl ?_
      rw [eqB, e1]
      by_cases hn : bl name = [66, 73]
      · rw [decide_eq_true hn, if_neg fun hh => hh.2 hn]
        exact Br.f rfl ⟨rfl, H.ext⟩
      · rw [decide_eq_false hn, if_pos ⟨hd, hn⟩]
        exact Br.t rfl ⟨rfl, H.ext⟩
end
end Opr
end Go.Proofs.YtjbeembbnkmpeaaDoor
