/- Paths: rows of numbers and of segments; the pen. Conditions: sizes. -/
import Derived.Test.YtjbeembbnkmpeaaDoorPaA
import Derived.Test.YtjbeembbnkmpeaaDoorOpD
import Derived.Test.YtjbeembbnkmpeaaDoorFnPath
namespace Go.Proofs.YtjbeembbnkmpeaaDoor
namespace Pat
open Sh Mat Fix Opr
set_option linter.unusedVariables false
set_option linter.unusedSimpArgs false
set_option maxRecDepth 4000
set_option maxHeartbeats 4000000
def ints (l : List Int) : List Value := l.map fun x => .int .i64 x
theorem elN : El Tryd.prog 24 2 1 8 (.int .i64 0) := ⟨by kernel_rfl, by kernel_rfl, by kernel_rfl, by kernel_rfl, rfl⟩
theorem ints_len (l : List Int) : (ints l).length = l.length := by unfold ints; simp
theorem ints_one (l : List Int) : ∀ v ∈ ints l, v.oneCell' = true := by
  intro v hv
  obtain ⟨x, _, rfl⟩ := List.mem_map.1 hv
  rfl
theorem ints_get {l : List Int} {i : Nat} (hi : i < l.length) : (ints l)[i]? = some (.int .i64 (l.getD i 0)) := by
  unfold ints
  rw [List.getElem?_map, List.getElem?_eq_getElem hi, List.getD_eq_getElem?_getD, List.getElem?_eq_getElem hi]
  rfl
theorem ints_set (l : List Int) (i : Nat) (x : Int) : (ints l).set i (.int .i64 x) = ints (l.set i x) := by unfold ints; rw [List.map_set]
theorem ints_app (l m : List Int) : ints (l ++ m) = ints l ++ ints m := by unfold ints; rw [List.map_append]
/-- The ints of a slice. -/
def IV (w : World) (s : Slc) (l : List Int) : Prop := s.len = l.length ∧ VRow w s 1 (ints l)
section
variable {w w' w1 : World} {s : Slc} {l : List Int} {L K : List Ob}
theorem IV.keep (h : IV w s l) (he : Ext (fun _ => False) w w') : IV w' s l := ⟨h.1, h.2.keep he⟩
theorem IV.keepF {F : Nat → Prop} (h : IV w s l) (he : Ext F w w') (hF : ∀ j, s.own j → ¬ F j) : IV w' s l := ⟨h.1, h.2.keepF he hF⟩
theorem IV.nil (w : World) : IV w ⟨none, 0, 0⟩ [] := ⟨rfl, rfl, fun j v h => by cases h⟩
theorem IV.get (h : IV w s l) {i : Nat} (hi : i < l.length) : ∃ a, s.p = some a ∧ w.cell? (a.add (i * 1)) = some (.int .i64 (l.getD i 0)) := by
  obtain ⟨a, ha, hc⟩ := h.2.2 i _ (ints_get hi)
  exact ⟨a, ha, by rw [Nat.mul_one]; exact hc⟩
theorem IV.row {t : TypeId} (h : Row w s t 1 (ints l)) : IV w s l := by
  refine ⟨?_, h.view⟩
  have := h.1
  rw [ints_len] at this
  omega
theorem Ext.new {F : Nat → Prop} {a b c : World} (h : Ext (fun _ => False) a b) (k : Ext F b c) (hF : ∀ j, F j → a.heap.size ≤ j) : Ext (fun _ => False) a c :=
  h.trans k (fun _ h => h) fun i hi hh => absurd hi (by have := hF i hh; omega)
/-- A row of ints of its own. -/
def IO (w0 w : World) (r : Slc) (l : List Int) : Prop := Row w r 2 1 (ints l) ∧ ∀ j, r.own j → w0.heap.size ≤ j
theorem IO.iv {w0 : World} {r : Slc} (h : IO w0 w r l) : IV w r l := IV.row h.1
theorem IO.nil (w0 w : World) : IO w0 w ⟨none, 0, 0⟩ [] := ⟨Row.nil _ _ _, fun j hj => by obtain ⟨a, ha, _⟩ := hj; cases ha⟩
attribute [local irreducible] Ld Sh.St Nw Nn Lt LdS LdT LdST StT
theorem IO.snoc {w0 : World} {r : Slc} {x : Int} {ty : TypeId} {K : Slc → World → Prop} (h : IO w0 w r l) (he : Ext (fun _ => False) w0 w) (hl : l.length ≤ 1000000)
    (k : ∀ r' w', IO w0 w' r' (l ++ [x]) → Ext (fun _ => False) w0 w' → K r' w') :
    Nw w (.cells #[.int .i64 x] 2) fun w2 => Rn Tryd.prog (Builtin.append_ #[24, 24] ty #[Slc.v r, Slc.v (⟨some ⟨w.heap.size, 0, none⟩, 1, 1⟩ : Slc)]) w2 Slc.v fun (r' : Slc) w3 => K r' w3 := by
  refine (Hn.start w).nw fun w2 H => ?_
  have hb := H.get 0 rfl
  have e2 := H.ext
  have hlen := h.iv.1
  obtain ⟨s', w', r1, r2, r3, r4, r5⟩ := elN.app1 (ty := ty) (ys := [.int .i64 x]) (h.1.keep e2 fun _ _ e => e) hb rfl (by intro v hv; rw [List.mem_singleton.1 hv]; rfl) (by omega) (by omega)
  have E2 := he.tr e2
  refine ⟨s', w', r1, k s' w' ⟨by rw [ints_app]; exact r2, fun j hj => ?_⟩ (Ext.new E2 r4 h.2)⟩
  have := E2.size
  rcases r5 j hj with hh | hh
  · exact h.2 j hh
  · omega
theorem IV.row' (h : IV w s l) : IRow w s l := ⟨h.1, fun i hi => by
  obtain ⟨a, ha, hc⟩ := h.get hi
  exact ⟨a, ha, by rw [Nat.mul_one] at hc; exact hc⟩⟩
theorem IV.drop (h : IV w s l) (hc : s.len ≤ s.cap) {d : Nat} (hd : d ≤ l.length) : IV w (s.cut 1 d s.len s.cap) (l.drop d) ∧ (s.cut 1 d s.len s.cap).len ≤ (s.cut 1 d s.len s.cap).cap := by
  have h1 := h.1
  refine ⟨⟨?_, ?_⟩, ?_⟩
  · show s.len - d = _
    rw [List.length_drop]; omega
  · refine ⟨?_, fun j v hj => ?_⟩
    · rw [ints_len, List.length_drop]
      show _ = (s.len - d) * 1
      omega
    · have hjl : j < (l.drop d).length := by
        have := (List.getElem?_eq_some_iff.1 hj).1
        rw [ints_len] at this
        exact this
      rw [List.length_drop] at hjl
      obtain ⟨a, ha, hc'⟩ := h.2.2 (d + j) v (by
        rw [← hj]
        unfold ints
        rw [List.getElem?_map, List.getElem?_map, List.getElem?_drop])
      refine ⟨a.add d, ?_, by rw [add_add']; exact hc'⟩
      show (if s.cap = d then s.p else s.p.map (·.add (d * 1))) = _
      rw [if_neg (by omega), ha, Nat.mul_one]
      rfl
  · show s.len - d ≤ s.cap - d
    omega
end
/-! ### Segments -/
abbrev Sg : Type := Int × Int × Int × Int × Int × Int × Int
def sgrow (s : Sg) : List Value := [.int .i64 s.1, .int .i64 s.2.1, .int .i64 s.2.2.1, .int .i64 s.2.2.2.1, .int .i64 s.2.2.2.2.1, .int .i64 s.2.2.2.2.2.1, .int .i64 s.2.2.2.2.2.2]
abbrev sgs (L : List Sg) : List Value := L.flatMap sgrow
def sg0 : Sg := (0, 0, 0, 0, 0, 0, 0)
theorem elSg : El Tryd.prog 64 67 7 56 (.agg (sgrow sg0).toArray) := ⟨by kernel_rfl, by kernel_rfl, by kernel_rfl, by kernel_rfl, rfl⟩
theorem sg_one (s : Sg) : ∀ v ∈ sgrow s, v.oneCell' = true := by
  intro v hv
  simp only [sgrow, List.mem_cons, List.not_mem_nil, or_false] at hv
  rcases hv with rfl | rfl | rfl | rfl | rfl | rfl | rfl <;> rfl
theorem sgs_one (L : List Sg) : ∀ v ∈ sgs L, v.oneCell' = true := by
  intro v hv
  obtain ⟨o, _, h⟩ := List.mem_flatMap.1 hv
  exact sg_one o v h
theorem sgs_len (L : List Sg) : (sgs L).length = L.length * 7 := by
  induction L with
  | nil => rfl
  | cons o L ih => rw [sgs, List.flatMap_cons, List.length_append, ih, List.length_cons]; simp [sgrow]; omega
theorem sgs_get {L : List Sg} {i j : Nat} {o : Sg} (hi : L[i]? = some o) (hj : j < 7) : (sgs L)[i * 7 + j]? = (sgrow o)[j]? := by
  induction L generalizing i with
  | nil => cases hi
  | cons p L ih =>
    rw [sgs, List.flatMap_cons]
    cases i with
    | zero =>
      cases hi
      rw [Nat.zero_mul, Nat.zero_add, List.getElem?_append_left (by simp [sgrow]; omega)]
    | succ i =>
      rw [List.getElem?_append_right (by simp [sgrow]; omega), ← ih (by simpa using hi)]
      congr 1
      simp only [sgrow, List.length_cons, List.length_nil]
      omega
theorem sgs_app (L M : List Sg) : sgs (L ++ M) = sgs L ++ sgs M := List.flatMap_append
theorem sgs_sing (s : Sg) : sgs [s] = sgrow s := by simp [sgs]
/-- The segments of a slice. -/
def SV (w : World) (s : Slc) (L : List Sg) : Prop := s.len = L.length ∧ VRow w s 7 (sgs L)
section
variable {w w' w1 : World} {s : Slc} {L : List Sg}
theorem SV.keep (h : SV w s L) (he : Ext (fun _ => False) w w') : SV w' s L := ⟨h.1, h.2.keep he⟩
theorem SV.keepF {F : Nat → Prop} (h : SV w s L) (he : Ext F w w') (hF : ∀ j, s.own j → ¬ F j) : SV w' s L := ⟨h.1, h.2.keepF he hF⟩
theorem SV.nil (w : World) : SV w nilS [] := ⟨rfl, rfl, fun j v h => by cases h⟩
theorem SV.row {t : TypeId} (h : Row w s t 7 (sgs L)) : SV w s L := by
  refine ⟨?_, h.view⟩
  have := h.1
  rw [sgs_len] at this
  omega
theorem SV.get (h : SV w s L) {i : Nat} {o : Sg} (hi : L[i]? = some o) : ∃ a, s.p = some a ∧ ∀ j v, (sgrow o)[j]? = some v → w.cell? ((a.add (i * 7)).add j) = some v := by
  have hlt := (List.getElem?_eq_some_iff.1 hi).1
  obtain ⟨a, ha, _⟩ := h.2.2 (i * 7 + 0) _ (by rw [sgs_get hi (by omega)]; rfl)
  refine ⟨a, ha, fun j v hj => ?_⟩
  have hj7 : j < 7 := by
    have := (List.getElem?_eq_some_iff.1 hj).1
    simpa [sgrow] using this
  obtain ⟨a', ha', hc⟩ := h.2.2 (i * 7 + j) v (by rw [sgs_get hi hj7]; exact hj)
  rw [ha] at ha'
  cases ha'
  rw [add_add']
  exact hc
end
/-! ### What the pen draws -/
def pt (m : Mx) (x y : Int) : Option (Int × Int) := applyP m (x, y)
def mvS (p : Int × Int) : Sg := (1, 0, 0, 0, 0, p.1, p.2)
def lnS (p : Int × Int) : Sg := (2, 0, 0, 0, 0, p.1, p.2)
def cvS (a b c : Int × Int) : Sg := (3, a.1, a.2, b.1, b.2, c.1, c.2)
def clS : Sg := (4, 0, 0, 0, 0, 0, 0)
def sum2 (x y : Int) : Option Int := if (sumF [x, y]).2 = 0 then some (sumF [x, y]).1 else none
def rectF (m : Mx) (x y w h : Int) : Option (List Sg) := (sum2 x w).bind fun r => (sum2 y h).bind fun t => (pt m x y).bind fun p => (pt m r y).bind fun q => (pt m r t).bind fun u => (pt m x t).bind fun v => some [mvS p, lnS q, lnS u, lnS v, clS]
def drawF (nm : By) (m : Mx) (h : Int × Int) (l : List Int) : Option (List Sg) :=
  if nm = [109] then (pt m (l.getD 0 0) (l.getD 1 0)).bind fun p => some [mvS p]
  else if nm = [108] then (pt m (l.getD 0 0) (l.getD 1 0)).bind fun p => some [lnS p]
  else if nm = [99] then (pt m (l.getD 0 0) (l.getD 1 0)).bind fun p => (pt m (l.getD 2 0) (l.getD 3 0)).bind fun q => (pt m (l.getD 4 0) (l.getD 5 0)).bind fun r => some [cvS p q r]
  else if nm = [118] then (pt m (l.getD 0 0) (l.getD 1 0)).bind fun p => (pt m (l.getD 2 0) (l.getD 3 0)).bind fun q => some [cvS h p q]
  else if nm = [121] then (pt m (l.getD 0 0) (l.getD 1 0)).bind fun p => (pt m (l.getD 2 0) (l.getD 3 0)).bind fun q => some [cvS p q q]
  else if nm = [104] then some [clS]
  else if nm = [114, 101] then rectF m (l.getD 0 0) (l.getD 1 0) (l.getD 2 0) (l.getD 3 0)
  else some []
/-! ### The pen in memory -/
def gu (e : Int) : Value := .iface 136 (.agg #[.int .i64 e])
def pnrow (m : Mx) (ns : Slc) (h : Int × Int) (ps : Slc) : List Value := mrow m ++ [Slc.v ns, .int .i64 h.1, .int .i64 h.2, Slc.v ps]
structure Pn (w0 w : World) (g : Nat) (m : Mx) (ns : Slc) (l : List Int) (h : Int × Int) (ps : Slc) (T : List Sg) : Prop where
  blk : Blk w g (pnrow m ns h ps).toArray 141
  num : IV w ns l
  cap : ns.len ≤ ns.cap
  par : Row w ps 67 7 (sgs T)
  ng : g < w0.heap.size
  nown : ∀ j, ns.own j → j < w0.heap.size ∧ j ≠ g
  pown : ∀ j, ps.own j → w0.heap.size ≤ j
  ext : Ext (· = g) w0 w
section
variable {w0 w w' w1 : World} {g : Nat} {m : Mx} {ns ps : Slc} {l : List Int} {h : Int × Int} {T : List Sg}
theorem Pn.keep (H : Pn w0 w g m ns l h ps T) (he : Ext (fun _ => False) w w') : Pn w0 w' g m ns l h ps T :=
  ⟨he.blk H.blk id, H.num.keep he, H.cap, H.par.keep he fun _ _ e => e, H.ng, H.nown, H.pown, H.ext.tr (he.mono fun _ _ e => e.elim)⟩
theorem Pn.plen (H : Pn w0 w g m ns l h ps T) : ps.len = T.length := by
  have := H.par.1
  rw [sgs_len] at this
  omega
attribute [local irreducible] Ld Sh.St Nw Nn LdS
theorem c_need (b : Bool) (e : Int) (w : World) : C77 b e w (fun w1 => b = true ∧ w1 = w) fun v w1 => v = gu e ∧ b = false ∧ w1 = w := by
  refine T77 _ _ _ _ _ ?_
  unfold S77
  cases b
  · exact ⟨rfl, rfl, rfl⟩
  · exact ⟨rfl, rfl⟩
theorem c_mustI (x e : Int) (w : World) : C193 x e w (fun r w1 => e = 0 ∧ r = x ∧ w1 = w) fun v w1 => e ≠ 0 ∧ v = gu e ∧ w1 = w := by
  refine T193 _ _ _ _ _ ?_
  unfold S193
  refine (c_need _ e w).mono ?_ ?_
  · rintro w2 ⟨h, rfl⟩
    exact ⟨by simpa using h, rfl, rfl⟩
  · rintro v w2 ⟨rfl, h, rfl⟩
    exact ⟨by simpa using h, rfl, rfl⟩
theorem c_mustN (x : Slc) (e : Int) (w : World) : C82 x e w (fun r w1 => e = 0 ∧ r = x ∧ w1 = w) fun v w1 => e ≠ 0 ∧ v = gu e ∧ w1 = w := by
  refine T82 _ _ _ _ _ ?_
  unfold S82
  refine (c_need _ e w).mono ?_ ?_
  · rintro w2 ⟨h, rfl⟩
    exact ⟨by simpa using h, rfl, rfl⟩
  · rintro v w2 ⟨rfl, h, rfl⟩
    exact ⟨by simpa using h, rfl, rfl⟩
theorem c_mustP (x : Int × Int) (e : Int) (w : World) : C205 x e w (fun r w1 => e = 0 ∧ r = x ∧ Ext (fun _ => False) w w1) fun v w1 => e ≠ 0 ∧ v = gu e ∧ Ext (fun _ => False) w w1 := by
  refine T205 _ _ _ _ _ ?_
  unfold S205
  refine (Hn.start w).nw fun w2 H => ?_
  refine H.nw fun w3 H => ?_
  simp only [List.cons_append, List.nil_append, add_lit, Nat.zero_add] at H ⊢
  refine (c_need _ e _).mono ?_ ?_
  · rintro w4 ⟨h, rfl⟩
    iterate 2 refine H.ld 0 rfl rfl ?_
    iterate 2 (refine H.st 1 rfl (by simp) fun _ H => ?_; simp only [List.nil_append, List.cons_append, List.set_cons_zero, List.set_cons_succ, Nat.zero_add] at H)
    iterate 2 refine H.ld 1 rfl rfl ?_
    exact ⟨by simpa using h, rfl, H.ext⟩
  · rintro v w2 ⟨rfl, h, rfl⟩
    exact ⟨by simpa using h, rfl, H.ext⟩
theorem c_mustO (a d : ByteArray) (s : Slc) (e : Int) (w : World) : C79 (a, s, d) e w (fun r w1 => e = 0 ∧ Ext (fun _ => False) w w1) fun v w1 => e ≠ 0 ∧ v = gu e ∧ Ext (fun _ => False) w w1 := by
  refine T79 (a, s, d) _ _ _ _ ?_
  unfold S79
  refine (Hn.start w).nw fun w2 H => ?_
  refine H.nw fun w3 H => ?_
  simp only [List.cons_append, List.nil_append, add_lit, Nat.zero_add] at H ⊢
  refine (c_need _ e _).mono ?_ ?_
  · rintro w4 ⟨h, rfl⟩
    iterate 3 refine H.ld 0 rfl rfl ?_
    iterate 3 (refine H.st 1 rfl (by simp) fun _ H => ?_; simp only [List.nil_append, List.cons_append, List.set_cons_zero, List.set_cons_succ, Nat.zero_add] at H)
    iterate 3 refine H.ld 1 rfl rfl ?_
    exact ⟨by simpa using h, H.ext⟩
  · rintro v w2 ⟨rfl, h, rfl⟩
    exact ⟨by simpa using h, rfl, H.ext⟩
end
end Pat
end Go.Proofs.YtjbeembbnkmpeaaDoor
