/- Reading order: the words of a row. Conditions: sizes. -/
import Derived.Test.YtodhdkbhmkinjaaDoorOsC
namespace Go.Proofs.YtodhdkbhmkinjaaDoor
namespace Rdg
open Sh
set_option linter.unusedVariables false
set_option linter.unusedSimpArgs false
set_option maxRecDepth 4000
set_option maxHeartbeats 2000000
theorem wordsR_snoc : ∀ (l : List Sg) (p : Option Sg) (ws : List Wd) (x : Sg), wordsR p ws (l ++ [x]) = stepW (match l.getLast? with | some a => some a | none => p) (wordsR p ws l) x
  | [], p, ws, x => rfl
  | y :: l, p, ws, x => by
    rw [List.cons_append]
    show wordsR (some y) (stepW p ws y) (l ++ [x]) = stepW _ (wordsR (some y) (stepW p ws y) l) x
    rw [wordsR_snoc l]
    cases l with
    | nil => rfl
    | cons z l =>
      rw [List.getLast?_cons_cons]
      cases h : (z :: l).getLast? with
      | none => simp at h
      | some a => rfl
/-- The words of the first signs, from the last to the first. -/
def wsAt (r : List Sg) (i : Nat) : List Wd := wordsR none [] (r.take i)
theorem wsAt_zero {r : List Sg} (h : 0 < r.length) : wsAt r 1 = stepW none [] r[0] := by
  unfold wsAt
  match r, h with
  | x :: l, _ => rfl
theorem wsAt_succ {r : List Sg} {i : Nat} (h : i + 1 < r.length) : wsAt r (i + 1 + 1) = stepW (some (r[i]'(by omega))) (wsAt r (i + 1)) r[i + 1] := by
  unfold wsAt
  rw [take_one h, wordsR_snoc]
  have : (r.take (i + 1)).getLast? = some (r[i]'(by omega)) := by
    rw [take_one (by omega), List.getLast?_concat]
  rw [this]
theorem wordsF_at (r : List Sg) : wordsF r = (wsAt r r.length).reverse := by unfold wordsF wsAt; rw [List.take_length]
/-- Letters. -/
theorem letsW_step {p : Option Sg} {ws : List Wd} {x : Sg} : letsW (stepW p ws x) ≤ letsW ws + x.s.size ∧ (stepW p ws x).length ≤ ws.length + 1 := by
  unfold stepW
  have new : ∀ ws : List Wd, letsW ((⟨x.s, x.box⟩ : Wd) :: ws) ≤ letsW ws + x.s.size ∧ ((⟨x.s, x.box⟩ : Wd) :: ws).length ≤ ws.length + 1 := fun ws => by
    unfold letsW
    simp only [List.map_cons, List.sum_cons, List.length_cons]
    omega
  split
  · omega
  · cases p with
    | none => exact new ws
    | some a => cases ws with
      | nil => exact new []
      | cons w r =>
        dsimp only
        split
        · unfold letsW joinW
          simp only [List.map_cons, List.sum_cons, List.length_cons, ByteArray.size_append]
          omega
        · exact new _
theorem letsW_at (r : List Sg) : ∀ i, i ≤ r.length → letsW (wsAt r i) ≤ lets (r.take i) ∧ (wsAt r i).length ≤ i
  | 0, _ => ⟨Nat.le_refl _, Nat.le_refl _⟩
  | 1, h => by
    rw [wsAt_zero (by omega)]
    have := letsW_step (p := none) (ws := []) (x := r[0])
    rw [take_one (by omega)]
    unfold lets at *
    simp only [List.take_zero, List.nil_append, List.map_cons, List.map_nil, List.sum_cons, List.sum_nil, List.length_nil] at *
    unfold letsW at *
    simp only [List.map_nil, List.sum_nil] at this
    omega
  | i + 2, h => by
    obtain ⟨h1, h2⟩ := letsW_at r (i + 1) (by omega)
    rw [wsAt_succ (by omega)]
    have := letsW_step (p := some (r[i]'(by omega))) (ws := wsAt r (i + 1)) (x := r[i + 1])
    have e : lets (r.take (i + 1 + 1)) = lets (r.take (i + 1)) + (r[i + 1]).s.size := by
      rw [take_one (by omega)]
      unfold lets
      rw [List.map_append, List.sum_append]
      simp only [List.map_cons, List.map_nil, List.sum_cons, List.sum_nil, Nat.add_zero]
    rw [show i + 2 = i + 1 + 1 from rfl, e]
    omega
theorem lets_take (r : List Sg) (i : Nat) : lets (r.take i) ≤ lets r := by
  have : lets r = lets (r.take i) + lets (r.drop i) := by
    unfold lets
    conv => lhs; rw [← List.take_append_drop i r]
    rw [List.map_append, List.sum_append]
  omega
theorem lets_mem {r : List Sg} {x : Sg} (h : x ∈ r) : x.s.size ≤ lets r := by
  obtain ⟨i, hi⟩ := List.mem_iff_getElem?.1 h
  exact sum_get_le (i := i) (by rw [List.getElem?_map, hi]; rfl)
def lt5 (p : Slc × R4) : TyA39 := (p.1, p.2.1, p.2.2.1, p.2.2.2.1, p.2.2.2.2)
def wt (v : Wd) : TyA43 := (v.s, v.box.1, v.box.2.1, v.box.2.2.1, v.box.2.2.2)
section
variable {w0 w : World} {L : List (Nat × List Value × TypeId)} {b : Nat} {t : TypeId}
theorem ldLn {p : Slc × R4} {K : TyA39 → Prop} (h : Hn w0 w L) (i : Nat) (hi : L[i]? = some (b, lcells p, t)) (k : K (lt5 p)) : LdT w ⟨b, 0, none⟩ 0 LiA39 K := h.ldT (ts := LiA39) (x := lt5 p) (pre := []) (post := []) hi rfl k
theorem stLn {p q : Slc × R4} {K : World → Prop} (h : Hn w0 w L) (i : Nat) (hi : L[i]? = some (b, lcells q, t)) (k : ∀ w2, Hn w0 w2 (L.set i (b, lcells p, t)) → K w2) : StT ⟨b, 0, none⟩ 0 LiA39 (lt5 p) w K := h.stT (ts := LiA39) (x := lt5 p) (pre := []) (zs := lcells q) (post := []) (by rw [List.append_nil, List.nil_append]; exact hi) rfl rfl fun w2 H => k w2 H
theorem ldLB {S : World → Prop} {b : Nat} {p : Slc × R4} {K : TyA39 → Prop} (h : ∀ w, S w → Blk w b (lcells p).toArray 40) (k : K (lt5 p)) : LdST S ⟨b, 0, none⟩ 0 LiA39 K := LdST.blk (ts := LiA39) (x := lt5 p) (pre := []) (post := []) h rfl k
theorem ldWA {a : Addr} {v : Wd} {K : TyA43 → Prop} (h : ∀ j c, (wcells v)[j]? = some c → w.cell? (a.add j) = some c) (k : K (wt v)) : LdT w a 0 LiA43 K := LdT.any LiA43 0 (wt v) K (fun j c hj => by rw [Nat.zero_add]; exact h j c hj) k
theorem stWd {v u : Wd} {K : World → Prop} (h : Hn w0 w L) (i : Nat) (hi : L[i]? = some (b, wcells u, t)) (k : ∀ w2, Hn w0 w2 (L.set i (b, wcells v, t)) → K w2) : StT ⟨b, 0, none⟩ 0 LiA43 (wt v) w K := h.stT (ts := LiA43) (x := wt v) (pre := []) (zs := wcells u) (post := []) (by rw [List.append_nil, List.nil_append]; exact hi) rfl rfl fun w2 H => k w2 H
end
theorem elW : El Tryd.prog 35 44 5 48 (.agg (wcells ⟨⟨#[]⟩, (0, 0, 0, 0)⟩).toArray) := ⟨by kernel_rfl, by kernel_rfl, by kernel_rfl, by kernel_rfl, rfl⟩
theorem elL : El Tryd.prog 24 40 5 56 (.agg (lcells (⟨none, 0, 0⟩, (0, 0, 0, 0))).toArray) := ⟨by kernel_rfl, by kernel_rfl, by kernel_rfl, by kernel_rfl, rfl⟩
theorem wcells_one (v : Wd) : ∀ c ∈ wcells v, c.oneCell' = true := fun c hc => by
  simp only [wcells, bcells, List.mem_cons, List.not_mem_nil, or_false] at hc
  rcases hc with rfl | rfl | rfl | rfl | rfl <;> rfl
theorem lcells_one (p : Slc × R4) : ∀ c ∈ lcells p, c.oneCell' = true := fun c hc => by
  simp only [lcells, bcells, List.mem_cons, List.not_mem_nil, or_false] at hc
  rcases hc with rfl | rfl | rfl | rfl | rfl <;> rfl
/-- A cell of a row is written. -/
theorem row_st {w : World} {s : Slc} {e : TypeId} {k : Nat} {A B : List Value} {j : Nat} {v : Value} {K : World → Prop} (h : Row w s e k (A ++ B)) (hj : j < B.length) (kk : ∀ w', Row w' s e k (A ++ B.set j v) → Ext s.own w w' → K w') : ∃ g, s.p = some ⟨g, 0, none⟩ ∧ St w ⟨g, A.length + j, none⟩ v K := by
  have hl := h.1
  rw [List.length_append] at hl
  rcases h.2 with rfl | ⟨g, cur, hp, hg, hle, hsz, htk⟩
  · simp only at hl
    omega
  · refine ⟨g, hp, ?_⟩
    have hlt : A.length + j < cur.size := by
      have := congrArg List.length htk
      rw [List.length_take, Array.length_toList, List.length_append] at this
      omega
    unfold St
    refine ⟨hg.can hlt, kk _ ⟨by rw [List.length_append, List.length_set]; exact hl, .inr ⟨g, _, hp, hg.set _ _, hle, by simpa using hsz, ?_⟩⟩ ((Ext.refl s.own w).set (.inl ⟨_, hp, rfl⟩) _)⟩
    rw [Array.toList_setIfInBounds, List.take_set, htk, List.set_append_right _ _ (by omega), Nat.add_sub_cancel_left]
attribute [local irreducible] Ld St Nw Nn Lt LdS
/-- The last word grows: its text, then its box. -/
theorem row_last {w : World} {s : Slc} {ws0 : List Wd} {j : Nat} {c : Value} {B : List Value} {K : World → Prop} (h : Row w s 44 5 (ws0.flatMap wcells ++ B)) (hB : B.length = 5) (hj : j < 5) {a : Addr} (ha : s.p = some a)
    (kk : ∀ w', Row w' s 44 5 (ws0.flatMap wcells ++ B.set j c) → Ext s.own w w' → K w') : St w ((a.add (ws0.length * 5)).add j) c K := by
  obtain ⟨g, hg, hst⟩ := row_st (v := c) (j := j) h (by omega) kk
  rw [ha] at hg
  cases hg
  rw [add_lit, add_lit, Nat.zero_add]
  rw [flat_len wcells_len] at hst
  exact hst
end Rdg
end Go.Proofs.YtodhdkbhmkinjaaDoor
/- Reading order: line, its words. Conditions: sizes. -/
namespace Go.Proofs.YtodhdkbhmkinjaaDoor
namespace Rdg
open Sh
set_option linter.unusedVariables false
set_option linter.unusedSimpArgs false
set_option maxRecDepth 4000
set_option maxHeartbeats 2000000
attribute [local irreducible] Ld St Nw Nn Lt LdS
abbrev zB : R4 := (0, 0, 0, 0)
theorem stepW_ne {p : Option Sg} {ws : List Wd} {x : Sg} (h : x.blank = false) : stepW p ws x ≠ [] := by
  unfold stepW
  rw [if_neg (by rw [h]; decide)]
  cases p with
  | none => simp
  | some a => cases ws with
    | nil => simp
    | cons w r =>
      dsimp only
      split <;> simp
/-- What the loop over the signs holds: the two lines, the words. -/
structure LnI (w w1 : World) (b0 b1 : Nat) (sl : Slc) (ws : List Wd) : Prop where
  H : Hn w w1 [(b0, lcells (⟨none, 0, 0⟩, zB), 40), (b1, lcells (sl, zB), 40)]
  row : Row w1 sl 44 5 (ws.flatMap wcells)
  new : ∀ j, sl.own j → w.heap.size ≤ j
theorem LnI.keep {w w1 w2 : World} {b0 b1 : Nat} {sl : Slc} {ws : List Wd} (h : LnI w w1 b0 b1 sl ws) (he : Ext (fun _ => False) w1 w2) : LnI w w2 b0 b1 sl ws := ⟨h.H.keep he, h.row.keep he fun _ _ e => e, h.new⟩
theorem LnI.len {w w1 : World} {b0 b1 : Nat} {sl : Slc} {ws : List Wd} (h : LnI w w1 b0 b1 sl ws) : sl.len = ws.length := VRow.count wcells_len (by decide) (Row.view h.row)
/-- A new word. -/
theorem line_new {w wq : World} {b0 b1 xb : Nat} {sl : Slc} {ws : List Wd} {x : Sg} (h : LnI w wq b0 b1 sl ws) (hx : Blk wq xb (scells x).toArray 61) (hc : Cl x) (hl : ws.length ≤ 2000000) {K : World → Prop}
    (kk : ∀ s' w', LnI w w' b0 b1 s' (ws ++ [⟨x.s, x.box⟩]) → K w') :
    ∃ vS : World → Prop, vS wq ∧ LdS vS (⟨b1, 0, none⟩ : Addr) Slc.v fun (x135 : Slc) => LdS vS ((⟨xb, 0, none⟩ : Addr).add 1) Value.string fun (x136 : ByteArray) =>
      LdST vS (⟨xb, 0, none⟩ : Addr) 0 LiA60 fun (x137 : TyA60) => C32 x137 wq fun r138 vw139 =>
        vS vw139 ∧ vS vw139 ∧ Nw vw139 (.cells #[.string x136, .int .i64 (r138.1), .int .i64 (r138.2.1), .int .i64 (r138.2.2.1), .int .i64 (r138.2.2.2)] 44) fun vw140 =>
          vS vw140 ∧ Rn Tryd.prog (Builtin.append_ #[35, 35] 35 #[Slc.v x135, Slc.v ((⟨some ⟨vw139.heap.size, 0, none⟩, 1, 1⟩ : Slc))]) vw140 Slc.v fun (x141 : Slc) vw142 =>
            St vw142 (⟨b1, 0, none⟩ : Addr) (Slc.v x141) K := by
  have hlen := h.len
  have hb1 := h.H.get 1 rfl
  refine ⟨fun w' => Blk w' b1 (lcells (sl, zB)).toArray 40 ∧ Blk w' xb (scells x).toArray 61, ⟨hb1, hx⟩, ?_⟩
  refine LdS.of (x := sl) (fun _ h => h.1) rfl (LdS.of (x := x.s) (fun _ h => h.2) rfl ?_)
  refine ldSB (x := x) (fun _ h => h.2) ?_
  refine (c_box hc wq).mono ?_
  rintro r w139 ⟨rfl, e139⟩
  have h2 := h.keep e139
  have hb := h2.H.get 1 rfl
  have hx2 := e139.blk hx id
  refine ⟨⟨hb, hx2⟩, ⟨hb, hx2⟩, Nw.of ?_⟩
  have e1 := (Ext.refl (fun _ => False) w139).alloc (.cells (wcells ⟨x.s, x.box⟩).toArray 44)
  have h3 := h2.keep e1
  refine ⟨⟨h3.H.get 1 rfl, e1.blk hx2 id⟩, ?_⟩
  obtain ⟨s', w', hrun, hrow, hlen', hext, hown⟩ := elW.app1 (ty := 35) (ys := wcells ⟨x.s, x.box⟩) h3.row (Blk.new w139 (wcells ⟨x.s, x.box⟩).toArray 44) rfl (wcells_one _) (by omega) (by omega)
  refine ⟨s', w', hrun, ?_⟩
  have hne : (40 : TypeId) ≠ 44 := by decide
  have apart : ∀ j, sl.own j → j ∉ [b0, b1] := fun j hj hm => by
    obtain ⟨c, hc⟩ := own_blk h3.row hj
    rcases List.mem_cons.1 hm with rfl | hm
    · exact hne (blk_ty (h3.H.get 0 rfl) hc)
    · rw [List.mem_singleton] at hm
      subst hm
      exact hne (blk_ty (h3.H.get 1 rfl) hc)
  have H4 := h3.H.other hext fun j hj => ⟨h.new j hj, apart j hj⟩
  have hnew : ∀ j, s'.own j → w.heap.size ≤ j := fun j hj => by
    rcases hown j hj with e | e
    · exact h.new j e
    · have := h3.H.size
      omega
  refine H4.st' 1 rfl (of_decide_eq_true rfl) fun w5 H5 e5 => kk s' w5 ⟨H5, ?_, hnew⟩
  have hrow' : Row w' s' 44 5 ((ws ++ [(⟨x.s, x.box⟩ : Wd)]).flatMap wcells) := by
    rw [List.flatMap_append]
    simpa using hrow
  exact hrow'.keep e5 fun j hj e => by
    have e : j = b1 := e
    subst e
    obtain ⟨c, hc⟩ := own_blk hrow' hj
    exact hne (blk_ty (H4.get 1 rfl) hc)
/-- The last word grows. -/
theorem line_more {w wq : World} {b0 b1 xb : Nat} {sl : Slc} {ws : List Wd} {v : Wd} {x : Sg} (h : LnI w wq b0 b1 sl (ws ++ [v])) (hx : Blk wq xb (scells x).toArray 61) (hc : Cl x) (hv : v.s.size ≤ 2000000) (hs : x.s.size ≤ 2000000) (hl : ws.length ≤ 2000000) {K : World → Prop}
    (kk : ∀ w', LnI w w' b0 b1 sl (ws ++ [joinW v x]) → K w') :
    Ld wq (⟨b1, 0, none⟩ : Addr) Slc.v fun (x110 : Slc) => Ld wq (⟨b1, 0, none⟩ : Addr) Slc.v fun (x111 : Slc) =>
      0 ≤ (IntKind.i64.wrap (((x111.len : Nat) : Int) - 1)) ∧ (IntKind.i64.wrap (((x111.len : Nat) : Int) - 1)) < (x110.len : Nat) ∧ Nn x110.p fun a112 =>
      Nn (some (a112.add ((IntKind.i64.wrap (((x111.len : Nat) : Int) - 1)).toNat * 5))) fun a113 =>
      Ld wq.drew a113 Value.string fun (x114 : ByteArray) => Ld wq.drew ((⟨xb, 0, none⟩ : Addr).add 1) Value.string fun (x115 : ByteArray) =>
      (((x114).size + (x115).size : Nat) : Int) ≤ IntKind.i64.max ∧ Nn (some (a112.add ((IntKind.i64.wrap (((x111.len : Nat) : Int) - 1)).toNat * 5))) fun a116 =>
      St wq.drew a116 (.string (x114 ++ x115)) fun vw117 =>
      ∃ vS118 : World → Prop, vS118 vw117.drew ∧ Nn (some (a112.add ((IntKind.i64.wrap (((x111.len : Nat) : Int) - 1)).toNat * 5))) fun a119 =>
      LdS vS118 (a119.add 1) (Value.int .i64) fun (x120 : Int) => LdS vS118 ((a119.add 1).add 1) (Value.int .i64) fun (x121 : Int) => LdS vS118 ((a119.add 1).add 2) (Value.int .i64) fun (x122 : Int) => LdS vS118 ((a119.add 1).add 3) (Value.int .i64) fun (x123 : Int) =>
      LdST vS118 (⟨xb, 0, none⟩ : Addr) 0 LiA60 fun (x124 : TyA60) => C32 x124 vw117.drew fun r125 vw126 =>
        vS118 vw126 ∧ C48 (x120, x121, x122, x123) (r125.1, r125.2.1, r125.2.2.1, r125.2.2.2) vw126 fun r127 vw128 =>
          Nn (some (a112.add ((IntKind.i64.wrap (((x111.len : Nat) : Int) - 1)).toNat * 5))) fun a129 =>
          St vw128 (a129.add 1) (.int .i64 (r127.1)) fun vw130 => St vw130 ((a129.add 1).add 1) (.int .i64 (r127.2.1)) fun vw131 => St vw131 ((a129.add 1).add 2) (.int .i64 (r127.2.2.1)) fun vw132 => St vw132 ((a129.add 1).add 3) (.int .i64 (r127.2.2.2)) K := by
  have hlen := h.len
  rw [List.length_append, List.length_singleton] at hlen
  have hmax : IntKind.i64.max = 9223372036854775807 := rfl
  refine h.H.ld 1 rfl (x := sl) rfl (h.H.ld 1 rfl (x := sl) rfl ?_)
  have hn : IntKind.i64.wrap (((sl.len : Nat) : Int) - 1) = ((ws.length : Nat) : Int) := by rw [hlen, i64_id (by omega)]; omega
  rw [hn, Int.toNat_natCast]
  have hd := h.keep (Ext.refl _ wq).drew
  obtain ⟨a, ha, hcell⟩ := VRow.elem (x := v) wcells_len (Row.view hd.row) (i := ws.length) (by rw [List.getElem?_append_right (Nat.le_refl _), Nat.sub_self]; rfl) (by decide)
  rw [ha]
  refine ⟨by omega, by omega, Nn.of (Nn.of ?_)⟩
  refine Ld.mk (x := v.s) (hcell 0 _ rfl) ?_
  have hxd := hx.drew
  refine Ld.of (x := x.s) hxd rfl ⟨by rw [hmax]; omega, Nn.of ?_⟩
  have hrw : ∀ u : Wd, (ws ++ [u]).flatMap wcells = ws.flatMap wcells ++ wcells u := fun u => by rw [List.flatMap_append]; simp
  have hne : (40 : TypeId) ≠ 44 := by decide
  have hneS : (61 : TypeId) ≠ 44 := by decide
  -- stores into the words leave the rest
  have step : ∀ {u u2 : Wd} {w1 w2 : World}, LnI w w1 b0 b1 sl (ws ++ [u]) → Blk w1 xb (scells x).toArray 61 → Row w2 sl 44 5 (ws.flatMap wcells ++ wcells u2) → Ext sl.own w1 w2 → LnI w w2 b0 b1 sl (ws ++ [u2]) ∧ Blk w2 xb (scells x).toArray 61 := fun h1 hb hr he => by
    refine ⟨⟨h1.H.other he fun j hj => ⟨h1.new j hj, fun hm => ?_⟩, by rw [hrw]; exact hr, h1.new⟩, he.blk hb fun hj => ?_⟩
    · obtain ⟨c, hc⟩ := own_blk h1.row hj
      rcases List.mem_cons.1 hm with rfl | hm
      · exact hne (blk_ty (h1.H.get 0 rfl) hc)
      · have hm : j = b1 := by simpa using hm
        subst hm
        exact hne (blk_ty (h1.H.get 1 rfl) hc)
    · obtain ⟨c, hc⟩ := own_blk h1.row hj
      exact hneS (blk_ty hb hc)
  have hr0 := hd.row
  rw [hrw] at hr0
  refine row_last (j := 0) (c := .string (v.s ++ x.s)) hr0 rfl (by decide) ha fun w117 r117 e117 => ?_
  obtain ⟨L1, B1⟩ := step (u2 := ⟨v.s ++ x.s, v.box⟩) hd hxd r117 e117
  have L1d := L1.keep (Ext.refl _ w117).drew
  have B1d := B1.drew
  refine ⟨fun w' => LnI w w' b0 b1 sl (ws ++ [⟨v.s ++ x.s, v.box⟩]) ∧ Blk w' xb (scells x).toArray 61, ⟨L1d, B1d⟩, Nn.of ?_⟩
  have cellS : ∀ (w' : World), LnI w w' b0 b1 sl (ws ++ [⟨v.s ++ x.s, v.box⟩]) → ∀ j c, (wcells ⟨v.s ++ x.s, v.box⟩)[j]? = some c → w'.cell? (a.add (ws.length * 5 + j)) = some c := fun w' hw j c hj => by
    obtain ⟨a', ha', hc'⟩ := VRow.elem (x := (⟨v.s ++ x.s, v.box⟩ : Wd)) wcells_len (Row.view hw.row) (i := ws.length) (by rw [List.getElem?_append_right (Nat.le_refl _), Nat.sub_self]; rfl) (by decide)
    rw [ha] at ha'
    cases ha'
    exact hc' j c hj
  simp only [add_add']
  refine ldS_mk (x := v.box.1) (fun w' hw => cellS w' hw.1 1 _ rfl) (ldS_mk (x := v.box.2.1) (fun w' hw => cellS w' hw.1 2 _ rfl) (ldS_mk (x := v.box.2.2.1) (fun w' hw => cellS w' hw.1 3 _ rfl) (ldS_mk (x := v.box.2.2.2) (fun w' hw => cellS w' hw.1 4 _ rfl) ?_)))
  refine ldSB (x := x) (fun _ h => h.2) ?_
  refine (c_box hc _).mono ?_
  rintro r125 w126 ⟨rfl, e126⟩
  have L2 := L1d.keep e126
  have B2 := e126.blk B1d id
  refine ⟨⟨L2, B2⟩, (c_around v.box x.box _).mono ?_⟩
  rintro r127 w128 ⟨rfl, e128⟩
  have L3 := L2.keep e128
  have B3 := e128.blk B2 id
  refine Nn.of ?_
  have hr3 := L3.row
  rw [hrw] at hr3
  refine row_last (j := 1) hr3 rfl (by decide) ha fun w130 r130 e130 => ?_
  refine row_last (j := 2) r130 rfl (by decide) ha fun w131 r131 e131 => ?_
  refine row_last (j := 3) r131 rfl (by decide) ha fun w132 r132 e132 => ?_
  refine row_last (j := 4) r132 rfl (by decide) ha fun w133 r133 e133 => ?_
  exact kk w133 (step (u2 := joinW v x) L3 B3 r133 (((e130.tr e131).tr e132).tr e133)).1
end Rdg
end Go.Proofs.YtodhdkbhmkinjaaDoor

/- Reading order: line. Conditions: sizes. -/
namespace Go.Proofs.YtodhdkbhmkinjaaDoor
namespace Rdg
open Sh
set_option linter.unusedVariables false
set_option linter.unusedSimpArgs false
set_option maxRecDepth 4000
set_option maxHeartbeats 2000000
attribute [local irreducible] Ld St Nw Nn Lt LdS
theorem boxW_snoc {ws : List Wd} {v : Wd} (h : ws ≠ []) : boxW (ws ++ [v]) = both (boxW ws) v.box := by
  cases ws with
  | nil => exact absurd rfl h
  | cons u r =>
    show List.foldl (fun b v => both b v.box) (both u.box u.box) (r ++ [v]) = _
    rw [List.foldl_append]
    rfl
/-- The box takes a word in. -/
theorem box_in {w wq : World} {b1 xb : Nat} {sl : Slc} {ws : List Wd} {b : R4} {v : Wd} (H : Hn w wq [(w.heap.size, lcells (⟨none, 0, 0⟩, zB), 40), (b1, lcells (sl, b), 40), (xb, wcells v, 44)]) (hr : Row wq sl 44 5 (ws.flatMap wcells)) {K : World → Prop}
    (kk : ∀ w', Hn w w' [(w.heap.size, lcells (⟨none, 0, 0⟩, zB), 40), (b1, lcells (sl, both b v.box), 40), (xb, wcells v, 44)] → Row w' sl 44 5 (ws.flatMap wcells) → K w') :
    Ld wq ((⟨b1, 0, none⟩ : Addr).add 1) (Value.int .i64) fun (x236 : Int) => Ld wq (((⟨b1, 0, none⟩ : Addr).add 1).add 1) (Value.int .i64) fun (x237 : Int) => Ld wq (((⟨b1, 0, none⟩ : Addr).add 1).add 2) (Value.int .i64) fun (x238 : Int) => Ld wq (((⟨b1, 0, none⟩ : Addr).add 1).add 3) (Value.int .i64) fun (x239 : Int) =>
      Ld wq ((⟨xb, 0, none⟩ : Addr).add 1) (Value.int .i64) fun (x240 : Int) => Ld wq (((⟨xb, 0, none⟩ : Addr).add 1).add 1) (Value.int .i64) fun (x241 : Int) => Ld wq (((⟨xb, 0, none⟩ : Addr).add 1).add 2) (Value.int .i64) fun (x242 : Int) => Ld wq (((⟨xb, 0, none⟩ : Addr).add 1).add 3) (Value.int .i64) fun (x243 : Int) =>
      C48 (x236, x237, x238, x239) (x240, x241, x242, x243) wq fun r244 vw245 =>
        St vw245 ((⟨b1, 0, none⟩ : Addr).add 1) (.int .i64 (r244.1)) fun vw246 => St vw246 (((⟨b1, 0, none⟩ : Addr).add 1).add 1) (.int .i64 (r244.2.1)) fun vw247 => St vw247 (((⟨b1, 0, none⟩ : Addr).add 1).add 2) (.int .i64 (r244.2.2.1)) fun vw248 => St vw248 (((⟨b1, 0, none⟩ : Addr).add 1).add 3) (.int .i64 (r244.2.2.2)) K := by
  have hne : (40 : TypeId) ≠ 44 := by decide
  refine H.ld 1 rfl (x := b.1) rfl (H.ld 1 rfl (x := b.2.1) rfl (H.ld 1 rfl (x := b.2.2.1) rfl (H.ld 1 rfl (x := b.2.2.2) rfl ?_)))
  refine H.ld 2 rfl (x := v.box.1) rfl (H.ld 2 rfl (x := v.box.2.1) rfl (H.ld 2 rfl (x := v.box.2.2.1) rfl (H.ld 2 rfl (x := v.box.2.2.2) rfl ?_)))
  refine (c_around b v.box wq).mono ?_
  rintro r w3 ⟨rfl, e3⟩
  have H := H.keep e3
  have hr := hr.keep e3 fun _ _ e => e
  refine H.st' 1 rfl (of_decide_eq_true rfl) fun w4 H e4 => H.st' 1 rfl (of_decide_eq_true rfl) fun w5 H e5 => H.st' 1 rfl (of_decide_eq_true rfl) fun w6 H e6 => H.st' 1 rfl (of_decide_eq_true rfl) fun w7 H e7 => ?_
  exact kk w7 H (hr.keep (((e4.tr e5).tr e6).tr e7) fun j hj e => by
    have e : j = b1 := e
    subst e
    obtain ⟨c, hc⟩ := own_blk hr hj
    have hb := ((Hn.get (by assumption : Hn w w3 _) 1 rfl))
    exact hne (blk_ty hb hc))
/-- The second loop: the box of the words. -/
theorem line_box {w : World} {sl : Slc} {ws : List Wd} (hl : ws.length ≤ 2000000) {R : TyA39 → Bool → World → Prop} {w2 : World} (kk : ∀ w', Row w' sl 44 5 (ws.flatMap wcells) → Ext (fun _ => False) w w' → R (lt5 (sl, boxW ws)) (!ws.isEmpty) w') {w1 : World}
    (h : LnI w w1 w.heap.size w2.heap.size sl ws) : Lp (σ := Int) (S25L1 w w2 sl R) 0 w1 := by
  have hlen := h.len
  have hne : (40 : TypeId) ≠ 44 := by decide
  refine ⟨fun m i' w3 => ∃ i : Nat, i' = (i : Int) ∧ i ≤ ws.length ∧ m = ws.length - i ∧ Hn w w3 [(w.heap.size, lcells (⟨none, 0, 0⟩, zB), 40), (w2.heap.size, lcells (sl, boxW (ws.take i)), 40)] ∧ Row w3 sl 44 5 (ws.flatMap wcells), ws.length, ⟨0, rfl, Nat.zero_le _, rfl, h.H, h.row⟩, ?_⟩
  rintro m i' w3 ⟨i, rfl, hi, rfl, H, hV⟩
  unfold S25L1
  rw [hlen]
  refine Br.dec (fun q => ?_) fun q => ?_
  · have hil : i < ws.length := by omega
    obtain ⟨a, ha, hc⟩ := VRow.elem wcells_len (Row.view hV) (List.getElem?_eq_getElem hil) (by decide)
    have htk := take_one hil
    have hbx : boxW (ws.take (i + 1)) = both (if i = 0 then (ws[i]).box else boxW (ws.take i)) (ws[i]).box := by
      rw [htk]
      by_cases h0 : i = 0
      · subst h0
        rw [if_pos rfl]
        rfl
      · rw [if_neg h0]
        exact boxW_snoc (by
          intro e
          have := congrArg List.length e
          rw [List.length_take, List.length_nil] at this
          omega)
    generalize ws[i] = v at *
    rw [ha]
    refine ⟨by omega, by omega, Nn.of ?_⟩
    rw [Int.toNat_natCast]
    refine ldWA (v := v) (fun j c hj => by rw [add_add']; exact hc j c hj) ?_
    have z0 := H.lt 0 rfl
    have z1 := H.lt 1 rfl
    refine (Hn.start w3).nw fun w4 J => ?_
    have J : Hn w3 w4 [(w3.heap.size, wcells ⟨⟨#[]⟩, zB⟩, 44)] := J
    refine stWd (v := v) J 0 rfl fun w5 J => ?_
    simp only [List.set_cons_zero] at J
    have H5 := (H.keep J.ext).push (J.get 0 rfl) (by have := H.size; exact this) (by simp only [List.map_cons, List.map_nil, List.mem_cons, List.not_mem_nil, or_false]; omega)
    have hV5 := hV.keep J.ext fun _ _ e => e
    simp only [List.cons_append, List.nil_append] at H5
    have next : ∀ w', Hn w w' [(w.heap.size, lcells (⟨none, 0, 0⟩, zB), 40), (w2.heap.size, lcells (sl, both (if i = 0 then v.box else boxW (ws.take i)) v.box), 40), (w3.heap.size, wcells v, 44)] → Row w' sl 44 5 (ws.flatMap wcells) → ∃ n', n' < ws.length - i ∧ ∃ i_1 : Nat, IntKind.i64.wrap ((i : Int) + 1) = (i_1 : Int) ∧ i_1 ≤ ws.length ∧ n' = ws.length - i_1 ∧ Hn w w' [(w.heap.size, lcells (⟨none, 0, 0⟩, zB), 40), (w2.heap.size, lcells (sl, boxW (ws.take i_1)), 40)] ∧ Row w' sl 44 5 (ws.flatMap wcells) := fun w' h1 h2 =>
      ⟨ws.length - (i + 1), by omega, i + 1, by rw [i64_id (by omega)]; rfl, by omega, rfl, by rw [hbx]; exact Hn.left (L := [_, _]) (M := [_]) h1, h2⟩
    refine Br.eq (fun h0 => ?_) fun h0 => ?_
    · have hi0 : i = 0 := by omega
      subst hi0
      simp only [if_true] at next
      refine H5.ld 2 rfl (x := v.box.1) rfl (H5.ld 2 rfl (x := v.box.2.1) rfl (H5.ld 2 rfl (x := v.box.2.2.1) rfl (H5.ld 2 rfl (x := v.box.2.2.2) rfl ?_)))
      refine H5.st' 1 rfl (of_decide_eq_true rfl) fun w6 H6 e6 => H6.st' 1 rfl (of_decide_eq_true rfl) fun w7 H7 e7 => H7.st' 1 rfl (of_decide_eq_true rfl) fun w8 H8 e8 => H8.st' 1 rfl (of_decide_eq_true rfl) fun w9 H9 e9 => ?_
      have H9 : Hn w w9 [(w.heap.size, lcells (⟨none, 0, 0⟩, zB), 40), (w2.heap.size, lcells (sl, v.box), 40), (w3.heap.size, wcells v, 44)] := H9
      refine box_in H9 (hV5.keep (((e6.tr e7).tr e8).tr e9) fun j hj e => ?_) next
      have e : j = w2.heap.size := e
      subst e
      obtain ⟨c, hc⟩ := own_blk hV5 hj
      exact hne (blk_ty (H5.get 1 rfl) hc)
    · have hi0 : ¬ i = 0 := by omega
      rw [if_neg hi0] at next
      exact box_in H5 hV5 next
  · have : i = ws.length := by omega
    subst this
    rw [List.take_length] at H
    have Hd := H.drew
    refine ⟨fun w' => Blk w' w2.heap.size (lcells (sl, boxW ws)).toArray 40, Hd.get 1 rfl, ?_⟩
    refine ldLB (p := (sl, boxW ws)) (fun _ h => h) (LdS.of (x := sl) (fun _ h => h) rfl ?_)
    have hn01 : w2.heap.size ≠ w.heap.size := by
      have := Hd.h.nodup
      intro e
      rw [e] at this
      simp [arr] at this
    refine StT.blk (ts := LiA39) (x := lt5 (sl, boxW ws)) (pre := []) (zs := lcells (⟨none, 0, 0⟩, zB)) (post := []) (by rw [List.append_nil, List.nil_append]; exact Hd.get 0 rfl) rfl rfl fun w4 b4 e4 => ?_
    refine ⟨e4.blk (Hd.get 1 rfl) hn01, LdT.blk (ts := LiA39) (x := lt5 (sl, boxW ws)) (pre := []) (post := []) b4 rfl ?_⟩
    have hb : decide (((sl.len : Nat) : Int) > 0) = !ws.isEmpty := by
      rw [hlen]
      cases ws with
      | nil => rfl
      | cons v r => simp
    rw [hb]
    have hVd : Row w3.drew sl 44 5 (ws.flatMap wcells) := hV.keep (Ext.refl _ w3).drew fun _ _ e => e
    refine kk w4 (hVd.keep e4 fun j hj e => ?_) (ext_new Hd.ext e4 fun j e => by have e : j = w.heap.size := e; omega)
    have e : j = w.heap.size := e
    subst e
    obtain ⟨c, hc⟩ := own_blk hVd hj
    exact hne (blk_ty (Hd.get 0 rfl) hc)
/-- foliant/order.line -/
theorem c_line {w : World} {s : Slc} {r : List Sg} (hV : VRow w s 10 (r.flatMap scells)) (hl : r.length ≤ 1048576) (hcl : ∀ x ∈ r, Cl x) (hs : lets r ≤ 1048576) :
    C25 s w fun a b w1 => (∃ sl, a = lt5 (sl, (lineF r).box) ∧ Row w1 sl 44 5 ((wordsF r).flatMap wcells) ∧ b = !(wordsF r).isEmpty) ∧ Ext (fun _ => False) w w1 := by
  have hlen : s.len = r.length := VRow.count scells_len (by decide) hV
  refine T25 _ _ _ ?_
  unfold S25
  refine (Hn.start w).nw fun w2 H => H.nw fun w3 H => ?_
  have H : Hn w w3 [(w.heap.size, lcells (⟨none, 0, 0⟩, zB), 40), (w2.heap.size, lcells (⟨none, 0, 0⟩, zB), 40)] := H
  refine ⟨fun m i' w1 => ∃ (i : Nat) (sl : Slc), i' = (i : Int) ∧ i ≤ r.length ∧ m = r.length - i ∧ LnI w w1 w.heap.size w2.heap.size sl (wsAt r i).reverse, r.length, ⟨0, ⟨none, 0, 0⟩, rfl, Nat.zero_le _, rfl, H, Row.nil _ _ _, fun j hj => (no_own j hj).elim⟩, ?_⟩
  rintro m i' w96 ⟨i, sl, rfl, hi, rfl, I⟩
  unfold S25L2
  rw [hlen]
  have hsz := letsW_at r i hi
  have hsz2 := lets_take r i
  refine Br.dec (fun q => ?_) fun q => ?_
  · have hil : i < r.length := by omega
    obtain ⟨a, ha, hc⟩ := VRow.elem scells_len (hV.keep I.H.ext) (List.getElem?_eq_getElem hil) (by decide)
    have hxm := List.getElem_mem hil
    have hxc := hcl _ hxm
    have hx63 : (r[i]).s.size ≤ 1048576 := by have := lets_mem hxm; omega
    have step0 : i = 0 → wsAt r (i + 1) = stepW none (wsAt r i) r[i] := fun h0 => by
      subst h0
      exact wsAt_zero (by omega)
    have stepN : ∀ k, (hk : i = k + 1) → wsAt r (i + 1) = stepW (some (r[k]'(by omega))) (wsAt r i) r[i] := fun k hk => by
      subst hk
      exact wsAt_succ hil
    generalize r[i] = x at *
    rw [ha]
    refine ⟨by omega, by omega, Nn.of ?_⟩
    rw [Int.toNat_natCast]
    refine ldSA (x := x) (fun j v hj => by rw [add_add']; exact hc j v hj) ?_
    refine (Hn.start w96).nw fun w100 J => ?_
    have J : Hn w96 w100 [(w96.heap.size, scells zeroS, 61)] := J
    refine stSg (x := x) J 0 rfl fun w101 J => ?_
    simp only [List.set_cons_zero] at J
    refine ldSg J 0 rfl ?_
    refine (c_blank (by unfold Sz63; omega) w101).mono ?_
    rintro r103 w104 ⟨rfl, e104⟩
    have J := J.keep e104
    have I4 := I.keep J.ext
    have next : ∀ (s' : Slc) (w' : World), LnI w w' w.heap.size w2.heap.size s' (wsAt r (i + 1)).reverse → ∃ n', n' < r.length - i ∧ ∃ (i_1 : Nat) (sl : Slc), IntKind.i64.wrap ((i : Int) + 1) = (i_1 : Int) ∧ i_1 ≤ r.length ∧ n' = r.length - i_1 ∧ LnI w w' w.heap.size w2.heap.size sl (wsAt r i_1).reverse := fun s' w' h =>
      ⟨r.length - (i + 1), by omega, i + 1, s', by rw [i64_id (by omega)]; rfl, by omega, rfl, h⟩
    cases hb : x.blank with
    | true =>
      refine Br.t rfl (next sl w104 ?_)
      have : wsAt r (i + 1) = wsAt r i := by
        have hs : ∀ p, stepW p (wsAt r i) x = wsAt r i := fun p => by unfold stepW; rw [if_pos hb]
        cases i with
        | zero => rw [step0 rfl, hs]
        | succ k => rw [stepN k rfl, hs]
      rw [this]
      exact I4
    | false =>
      refine Br.f rfl (Br.dec (fun q1 => ?_) fun q1 => ?_)
      · obtain ⟨k, rfl⟩ : ∃ k, i = k + 1 := ⟨i - 1, by omega⟩
        have hst := stepN k rfl
        have hk : k < r.length := by omega
        have ek : IntKind.i64.wrap (((k + 1 : Nat) : Int) - 1) = (k : Int) := by rw [i64_id (by omega)]; omega
        rw [ek]
        obtain ⟨a', ha', hc'⟩ := VRow.elem scells_len (hV.keep (I4.H.ext.drew)) (List.getElem?_eq_getElem hk) (by decide)
        rw [ha] at ha'
        cases ha'
        have ham := List.getElem_mem hk
        have hac := hcl _ ham
        have ha63 : (r[k]).s.size ≤ 1048576 := by have := lets_mem ham; omega
        have hane : (r[k]).blank = false → wsAt r (k + 1) ≠ [] := fun hbl => by
          cases k with
          | zero => rw [wsAt_zero (by omega)]; exact stepW_ne hbl
          | succ k => rw [wsAt_succ (by omega)]; exact stepW_ne hbl
        generalize r[k] = p at *
        refine ⟨by omega, by omega, ?_⟩
        rw [Int.toNat_natCast]
        refine Nn.of (ldSA (x := p) (fun j v hj => by rw [add_add']; exact hc' j v hj) ?_)
        have Jd := J.drew
        refine ldSg Jd 0 rfl ?_
        refine (c_goesOn hac hxc (by unfold Sz63; omega) _).mono ?_
        rintro r108 w109 ⟨rfl, e109⟩
        have J9 := Jd.keep e109
        have I9 := I.keep J9.ext
        cases hg : goesOn p x with
        | true =>
          have hpb : p.blank = false := by
            unfold goesOn at hg
            simp only [Bool.and_eq_true, Bool.not_eq_true'] at hg
            exact hg.1.1
          obtain ⟨v, ws1, hws⟩ : ∃ v ws1, wsAt r (k + 1) = v :: ws1 := by
            match wsAt r (k + 1), hane hpb with
            | v :: ws1, _ => exact ⟨v, ws1, rfl⟩
          have hnx : wsAt r (k + 1 + 1) = joinW v x :: ws1 := by
            rw [hst, hws]
            unfold stepW
            rw [if_neg (by rw [hb]; decide)]
            dsimp only
            rw [if_pos hg]
          rw [hnx] at next
          rw [hws] at I9 hsz
          rw [List.reverse_cons] at I9 next
          have hv : v.s.size ≤ 1048576 := by
            have := hsz.1
            unfold letsW at this
            simp only [List.map_cons, List.sum_cons] at this
            omega
          have h2 := hsz.2
          simp only [List.length_cons] at h2
          refine Br.t rfl ?_
          exact line_more I9 (J9.get 0 rfl) hxc (by omega) (by omega) (by rw [List.length_reverse]; omega) fun w' h => next sl w' h
        | false =>
          have hnx : wsAt r (k + 1 + 1) = ⟨x.s, x.box⟩ :: wsAt r (k + 1) := by
            rw [hst]
            unfold stepW
            rw [if_neg (by rw [hb]; decide)]
            cases hw : wsAt r (k + 1) with
            | nil => rfl
            | cons v ws1 =>
              dsimp only
              rw [if_neg (by rw [hg]; decide)]
          rw [hnx, List.reverse_cons] at next
          refine Br.f rfl ?_
          have J9d := J9.drew
          exact line_new (I.keep J9d.ext) (J9d.get 0 rfl) hxc (by rw [List.length_reverse]; omega) next
      · have hi0 : i = 0 := by omega
        subst hi0
        have hnx : wsAt r (0 + 1) = ⟨x.s, x.box⟩ :: wsAt r 0 := by
          rw [step0 rfl]
          unfold stepW
          rw [if_neg (by rw [hb]; decide)]
        rw [hnx, List.reverse_cons] at next
        have Jd := J.drew.drew
        exact line_new (I.keep Jd.ext) (Jd.get 0 rfl) hxc (by rw [List.length_reverse]; omega) next
  · have : i = r.length := by omega
    subst this
    refine I.H.ld 1 rfl (x := sl) rfl ?_
    rw [← wordsF_at] at I
    have hwl : (wordsF r).length ≤ 2000000 := by
      rw [wordsF_at, List.length_reverse]
      omega
    refine line_box hwl (fun w' h1 h2 => ?_) I
    exact ⟨⟨sl, rfl, h1, rfl⟩, h2⟩
end Rdg
end Go.Proofs.YtodhdkbhmkinjaaDoor
