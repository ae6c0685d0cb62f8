/- Reading order: the words of a row. Conditions: sizes. -/
import Derived.Test.YtodhdkbhmkinjaaDoorOsE
namespace Go.Proofs.YtodhdkbhmkinjaaDoor
namespace Rdg
open Sh
set_option linter.unusedVariables false
set_option linter.unusedSimpArgs false
set_option maxRecDepth 4000
set_option maxHeartbeats 2000000
theorem wordsR_snoc : ∀ (l : List Sg) (p : Option Sg) (ws : List Wd) (x : Sg), wordsR p ws (l ++ [x]) = stepW (match l.getLast? with | some a => some a | none => p) (wordsR p ws l) x
  | [], p, ws, x => rfl
  | y :: l, p, ws, x => by
    rw [List.cons_append]
    show wordsR (some y) (stepW p ws y) (l ++ [x]) = stepW _ (wordsR (some y) (stepW p ws y) l) x
    rw [wordsR_snoc l]
    cases l with
    | nil => rfl
    | cons z l =>
      rw [List.getLast?_cons_cons]
      cases h : (z :: l).getLast? with
      | none => simp at h
      | some a => rfl
/-- The words of the first signs, from the last to the first. -/
def wsAt (r : List Sg) (i : Nat) : List Wd := wordsR none [] (r.take i)
theorem wsAt_zero {r : List Sg} (h : 0 < r.length) : wsAt r 1 = stepW none [] r[0] := by
  unfold wsAt
  match r, h with
  | x :: l, _ => rfl
theorem wsAt_succ {r : List Sg} {i : Nat} (h : i + 1 < r.length) : wsAt r (i + 1 + 1) = stepW (some (r[i]'(by omega))) (wsAt r (i + 1)) r[i + 1] := by
  unfold wsAt
  rw [take_one h, wordsR_snoc]
  have : (r.take (i + 1)).getLast? = some (r[i]'(by omega)) := by
    rw [take_one (by omega), List.getLast?_concat]
  rw [this]
theorem wordsF_at (r : List Sg) : wordsF r = (wsAt r r.length).reverse := by unfold wordsF wsAt; rw [List.take_length]
/-- Letters. -/
theorem letsW_step {p : Option Sg} {ws : List Wd} {x : Sg} : letsW (stepW p ws x) ≤ letsW ws + x.s.size ∧ (stepW p ws x).length ≤ ws.length + 1 := by
  unfold stepW
  have new : ∀ ws : List Wd, letsW ((⟨x.s, x.box⟩ : Wd) :: ws) ≤ letsW ws + x.s.size ∧ ((⟨x.s, x.box⟩ : Wd) :: ws).length ≤ ws.length + 1 := fun ws => by
    unfold letsW
    simp only [List.map_cons, List.sum_cons, List.length_cons]
    omega
  split
  · omega
  · cases p with
    | none => exact new ws
    | some a => cases ws with
      | nil => exact new []
      | cons w r =>
        dsimp only
        split
        · unfold letsW joinW
          simp only [List.map_cons, List.sum_cons, List.length_cons, ByteArray.size_append]
          omega
        · exact new _
theorem letsW_at (r : List Sg) : ∀ i, i ≤ r.length → letsW (wsAt r i) ≤ lets (r.take i) ∧ (wsAt r i).length ≤ i
  | 0, _ => ⟨Nat.le_refl _, Nat.le_refl _⟩
  | 1, h => by
    rw [wsAt_zero (by omega)]
    have := letsW_step (p := none) (ws := []) (x := r[0])
    rw [take_one (by omega)]
    unfold lets at *
    simp only [List.take_zero, List.nil_append, List.map_cons, List.map_nil, List.sum_cons, List.sum_nil, List.length_nil] at *
    unfold letsW at *
    simp only [List.map_nil, List.sum_nil] at this
    omega
  | i + 2, h => by
    obtain ⟨h1, h2⟩ := letsW_at r (i + 1) (by omega)
    rw [wsAt_succ (by omega)]
    have := letsW_step (p := some (r[i]'(by omega))) (ws := wsAt r (i + 1)) (x := r[i + 1])
    have e : lets (r.take (i + 1 + 1)) = lets (r.take (i + 1)) + (r[i + 1]).s.size := by
      rw [take_one (by omega)]
      unfold lets
      rw [List.map_append, List.sum_append]
      simp only [List.map_cons, List.map_nil, List.sum_cons, List.sum_nil, Nat.add_zero]
    rw [show i + 2 = i + 1 + 1 from rfl, e]
    omega
theorem lets_take (r : List Sg) (i : Nat) : lets (r.take i) ≤ lets r := by
  have : lets r = lets (r.take i) + lets (r.drop i) := by
    unfold lets
    conv => lhs; rw [← List.take_append_drop i r]
    rw [List.map_append, List.sum_append]
  omega
theorem lets_mem {r : List Sg} {x : Sg} (h : x ∈ r) : x.s.size ≤ lets r := by
  obtain ⟨i, hi⟩ := List.mem_iff_getElem?.1 h
  exact sum_get_le (i := i) (by rw [List.getElem?_map, hi]; rfl)
def lt5 (p : Slc × R4) : TyA39 := (p.1, p.2.1, p.2.2.1, p.2.2.2.1, p.2.2.2.2)
def wt (v : Wd) : TyA43 := (v.s, v.box.1, v.box.2.1, v.box.2.2.1, v.box.2.2.2)
section
variable {w0 w : World} {L : List (Nat × List Value × TypeId)} {b : Nat} {t : TypeId}
theorem ldLn {p : Slc × R4} {K : TyA39 → Prop} (h : Hn w0 w L) (i : Nat) (hi : L[i]? = some (b, lcells p, t)) (k : K (lt5 p)) : LdT w ⟨b, 0, none⟩ 0 LiA39 K := h.ldT (ts := LiA39) (x := lt5 p) (pre := []) (post := []) hi rfl k
theorem stLn {p q : Slc × R4} {K : World → Prop} (h : Hn w0 w L) (i : Nat) (hi : L[i]? = some (b, lcells q, t)) (k : ∀ w2, Hn w0 w2 (L.set i (b, lcells p, t)) → K w2) : StT ⟨b, 0, none⟩ 0 LiA39 (lt5 p) w K := h.stT (ts := LiA39) (x := lt5 p) (pre := []) (zs := lcells q) (post := []) (by rw [List.append_nil, List.nil_append]; exact hi) rfl rfl fun w2 H => k w2 H
theorem ldLB {S : World → Prop} {b : Nat} {p : Slc × R4} {K : TyA39 → Prop} (h : ∀ w, S w → Blk w b (lcells p).toArray 40) (k : K (lt5 p)) : LdST S ⟨b, 0, none⟩ 0 LiA39 K := LdST.blk (ts := LiA39) (x := lt5 p) (pre := []) (post := []) h rfl k
theorem ldWA {a : Addr} {v : Wd} {K : TyA43 → Prop} (h : ∀ j c, (wcells v)[j]? = some c → w.cell? (a.add j) = some c) (k : K (wt v)) : LdT w a 0 LiA43 K := LdT.any LiA43 0 (wt v) K (fun j c hj => by rw [Nat.zero_add]; exact h j c hj) k
theorem stWd {v u : Wd} {K : World → Prop} (h : Hn w0 w L) (i : Nat) (hi : L[i]? = some (b, wcells u, t)) (k : ∀ w2, Hn w0 w2 (L.set i (b, wcells v, t)) → K w2) : StT ⟨b, 0, none⟩ 0 LiA43 (wt v) w K := h.stT (ts := LiA43) (x := wt v) (pre := []) (zs := wcells u) (post := []) (by rw [List.append_nil, List.nil_append]; exact hi) rfl rfl fun w2 H => k w2 H
end
theorem elW : El Tryd.prog 35 44 5 48 (.agg (wcells ⟨⟨#[]⟩, (0, 0, 0, 0)⟩).toArray) := ⟨by kernel_rfl, by kernel_rfl, by kernel_rfl, by kernel_rfl, rfl⟩
theorem elL : El Tryd.prog 24 40 5 56 (.agg (lcells (⟨none, 0, 0⟩, (0, 0, 0, 0))).toArray) := ⟨by kernel_rfl, by kernel_rfl, by kernel_rfl, by kernel_rfl, rfl⟩
theorem wcells_one (v : Wd) : ∀ c ∈ wcells v, c.oneCell' = true := fun c hc => by
  simp only [wcells, bcells, List.mem_cons, List.not_mem_nil, or_false] at hc
  rcases hc with rfl | rfl | rfl | rfl | rfl <;> rfl
theorem lcells_one (p : Slc × R4) : ∀ c ∈ lcells p, c.oneCell' = true := fun c hc => by
  simp only [lcells, bcells, List.mem_cons, List.not_mem_nil, or_false] at hc
  rcases hc with rfl | rfl | rfl | rfl | rfl <;> rfl
/-- A cell of a row is written. -/
theorem row_st {w : World} {s : Slc} {e : TypeId} {k : Nat} {A B : List Value} {j : Nat} {v : Value} {K : World → Prop} (h : Row w s e k (A ++ B)) (hj : j < B.length) (kk : ∀ w', Row w' s e k (A ++ B.set j v) → Ext s.own w w' → K w') : ∃ g, s.p = some ⟨g, 0, none⟩ ∧ St w ⟨g, A.length + j, none⟩ v K := by
  have hl := h.1
  rw [List.length_append] at hl
  rcases h.2 with rfl | ⟨g, cur, hp, hg, hle, hsz, htk⟩
  · simp only at hl
    omega
  · refine ⟨g, hp, ?_⟩
    have hlt : A.length + j < cur.size := by
      have := congrArg List.length htk
      rw [List.length_take, Array.length_toList, List.length_append] at this
      omega
    unfold St
    refine ⟨hg.can hlt, kk _ ⟨by rw [List.length_append, List.length_set]; exact hl, .inr ⟨g, _, hp, hg.set _ _, hle, by simpa using hsz, ?_⟩⟩ ((Ext.refl s.own w).set (.inl ⟨_, hp, rfl⟩) _)⟩
    rw [Array.toList_setIfInBounds, List.take_set, htk, List.set_append_right _ _ (by omega), Nat.add_sub_cancel_left]
attribute [local irreducible] Ld St Nw Nn Lt LdS
/-- The last word grows: its text, then its box. -/
theorem row_last {w : World} {s : Slc} {ws0 : List Wd} {j : Nat} {c : Value} {B : List Value} {K : World → Prop} (h : Row w s 44 5 (ws0.flatMap wcells ++ B)) (hB : B.length = 5) (hj : j < 5) {a : Addr} (ha : s.p = some a)
    (kk : ∀ w', Row w' s 44 5 (ws0.flatMap wcells ++ B.set j c) → Ext s.own w w' → K w') : St w ((a.add (ws0.length * 5)).add j) c K := by
  obtain ⟨g, hg, hst⟩ := row_st (v := c) (j := j) h (by omega) kk
  rw [ha] at hg
  cases hg
  rw [add_lit, add_lit, Nat.zero_add]
  rw [flat_len wcells_len] at hst
  exact hst
end Rdg
end Go.Proofs.YtodhdkbhmkinjaaDoor
