/- Order's laws: Keeps, the bytes counted. Conditions: sizes. -/
import Derived.Test.YtodhdkbhmkinjaaDoorOsR
import Derived.Test.YtodhdkbhmkinjaaDoorFnOk5
namespace Go.Proofs.YtodhdkbhmkinjaaDoor
namespace Rdg
open Sh
set_option linter.unusedVariables false
set_option linter.unusedSimpArgs false
set_option maxRecDepth 4000
set_option maxHeartbeats 2000000
attribute [local irreducible] Ld St Nw Nn Lt LdS
/-- How often each byte stands in a list. -/
def cn (l : List UInt8) (k : Nat) : Int := ((l.countP fun b => b.toNat == k : Nat) : Int)
theorem cn_le (l : List UInt8) (k : Nat) : 0 ≤ cn l k ∧ cn l k ≤ l.length := by
  unfold cn
  have := List.countP_le_length (p := fun b : UInt8 => b.toNat == k) (l := l)
  omega
theorem cn_snoc (l : List UInt8) (c : UInt8) (k : Nat) : cn (l ++ [c]) k = if k = c.toNat then cn l k + 1 else cn l k := by
  unfold cn
  rw [List.countP_append, List.countP_cons, List.countP_nil]
  by_cases h : k = c.toNat
  · subst h
    simp
  · rw [if_neg h]
    have : (c.toNat == k) = false := beq_false_of_ne fun e => h e.symm
    simp [this]
theorem cn_perm {l m : List UInt8} (h : l.Perm m) (k : Nat) : cn l k = cn m k := by unfold cn; rw [h.countP_eq]
/-- The counts as cells. -/
def cF (f : Nat → Int) : List Value := (List.range 256).map fun k => .int .i64 (f k)
theorem cF_len (f : Nat → Int) : (cF f).length = 256 := by unfold cF; rw [List.length_map, List.length_range]
theorem cF_get (f : Nat → Int) {k : Nat} (h : k < 256) : (cF f)[k]? = some (.int .i64 (f k)) := by unfold cF; rw [List.getElem?_map, List.getElem?_range h]; rfl
theorem cF_set (f : Nat → Int) {k : Nat} (h : k < 256) (n : Int) : (cF f).set k (.int .i64 n) = cF fun j => if j = k then n else f j := by
  refine List.ext_getElem? fun j => ?_
  rw [List.getElem?_set]
  by_cases hj : j < 256
  · rw [cF_get _ hj, cF_get _ hj, cF_len]
    by_cases e : k = j
    · subst e
      rw [if_pos rfl, if_pos h, if_pos rfl]
    · rw [if_neg e, if_neg fun x => e x.symm]
  · rw [List.getElem?_eq_none (by rw [cF_len]; omega), List.getElem?_eq_none (by rw [cF_len]; omega)]
    split
    · split
      · rename_i h1 h2
        omega
      · rfl
    · rfl
theorem bytesS_len : ∀ L : List Sg, (bytesS L).length ≤ lets L
  | [] => Nat.le_refl _
  | x :: L => by
    have := bytesS_len L
    have e : lets (x :: L) = x.s.size + lets L := rfl
    rw [e]
    unfold bytesS at *
    rw [List.filter_cons]
    have h : x.s.data.toList.length = x.s.size := Array.length_toList
    split
    · rw [List.flatMap_cons, List.length_append]
      omega
    · omega
theorem bytesS_snoc {L : List Sg} {i : Nat} (h : i < L.length) : bytesS (L.take (i + 1)) = bytesS (L.take i) ++ if L[i].blank then [] else L[i].s.data.toList := by
  unfold bytesS
  rw [take_one h, List.filter_append, List.flatMap_append, List.filter_cons, List.filter_nil]
  cases L[i].blank <;> simp
/-- The first loops: what the glyphs hold. -/
theorem keeps_count {w : World} {s : Slc} {L : List Sg} (hG : GsV w s L) {R : Bool → World → Prop} (k : ∀ w', Hn w w' [(w.heap.size, cF (cn (bytesS L)), 41)] → C9 s w' fun r45 vw46 => Lp (σ := Int) (S5L4 w r45 R) 0 vw46) {w1 : World} (H1 : Hn w w1 [(w.heap.size, cF (cn []), 41)]) : Lp (σ := Int) (S5L5 w s R) 0 w1 := by
  have hlen : s.len = L.length := VRow.count gcells_len (by decide) hG.row
  have hmost := hG.most
  have hlets := hG.lets
  refine ⟨fun m st w1 => ∃ i : Nat, st = (i : Int) ∧ i ≤ L.length ∧ m = L.length - i ∧ Hn w w1 [(w.heap.size, cF (cn (bytesS (L.take i))), 41)], L.length, ⟨0, rfl, Nat.zero_le _, rfl, H1⟩, ?_⟩
  rintro m st w30 ⟨i, rfl, hi, rfl, H⟩
  unfold S5L5
  rw [hlen]
  refine Br.dec (fun q => ?_) fun q => ?_
  · have hil : i < L.length := by omega
    have hsn := bytesS_snoc hil
    have hxs := lets_mem (List.getElem_mem hil)
    have hbl := bytesS_len (L.take i)
    have hlt := lets_take L i
    have hget : ∀ {w' : World}, Ext (fun _ => False) w w' → ∃ a, s.p = some a ∧ w'.cell? (a.add (i * 9 + 1)) = some (.string L[i].s) := fun {w'} e => by
      obtain ⟨a, ha, hc⟩ := VRow.elem gcells_len (hG.row.keep e) (List.getElem?_eq_getElem hil) (by decide)
      exact ⟨a, ha, hc 1 _ rfl⟩
    generalize L[i] = x at *
    have hsl : x.s.data.toList.length = x.s.size := Array.length_toList
    refine ⟨fun m st w1 => ∃ j : Nat, st = (j : Int) ∧ j ≤ x.s.size ∧ m = x.s.size - j ∧ (j = 0 ∨ x.blank = false) ∧ Hn w w1 [(w.heap.size, cF (cn (bytesS (L.take i) ++ x.s.data.toList.take j)), 41)], x.s.size, ⟨0, rfl, Nat.zero_le _, rfl, .inl rfl, by rw [List.take_zero, List.append_nil]; exact H⟩, ?_⟩
    clear H
    rintro m st w33 ⟨j, rfl, hj, rfl, hjb, H⟩
    unfold S5L1
    rw [hlen]
    have b1 : (0 : Int) ≤ (i : Int) := by omega
    have b2 : (i : Int) < ((L.length : Nat) : Int) := by omega
    obtain ⟨a, ha, hc⟩ := hget H.ext
    rw [ha, Int.toNat_natCast]
    simp only [add_add']
    have nextI : ∀ w', Hn w w' [(w.heap.size, cF (cn (bytesS (L.take (i + 1)))), 41)] → ∃ n', n' < L.length - i ∧ ∃ i_1 : Nat, IntKind.i64.wrap ((i : Int) + 1) = (i_1 : Int) ∧ i_1 ≤ L.length ∧ n' = L.length - i_1 ∧ Hn w w' [(w.heap.size, cF (cn (bytesS (L.take i_1))), 41)] := fun w' h =>
      ⟨L.length - (i + 1), by omega, i + 1, by rw [i64_id (by omega)]; rfl, by omega, rfl, h⟩
    refine ⟨b1, b2, Nn.of (Ld.mk (x := x.s) hc (Br.dec (fun q1 => ?_) fun q1 => ?_))⟩
    · have hjl : j < x.s.data.toList.length := by omega
      refine ⟨b1, b2, Nn.of (Ld.mk (x := x.s) hc ?_)⟩
      refine (c_blankB (by omega) w33).mono ?_
      rintro r39 w40 ⟨rfl, rfl⟩
      have hxb : blankL x.s.data.toList = x.blank := rfl
      rw [hxb]
      cases hb : x.blank with
      | true =>
        have : j = 0 := hjb.resolve_right (by rw [hb]; decide)
        subst this
        rw [hb, if_pos rfl, List.append_nil] at hsn
        rw [List.take_zero, List.append_nil] at H
        exact Br.f rfl (nextI w40 (by rw [hsn]; exact H))
      | false =>
        refine Br.t rfl ⟨b1, b2, Nn.of (Ld.mk (x := x.s) hc ⟨by omega, by omega, ?_⟩)⟩
        have hbt := bAt_list x.s j
        rw [List.getD_eq_getElem?_getD, List.getElem?_eq_getElem hjl, Option.getD_some] at hbt
        have htk := take_one hjl
        generalize x.s.data.toList[j] = c at *
        rw [hbt]
        have hc256 : c.toNat < 256 := c.toNat_lt
        have hcl := cn_le (bytesS (L.take i) ++ x.s.data.toList.take j) c.toNat
        rw [List.length_append, List.length_take] at hcl
        refine ⟨by omega, by omega, ?_⟩
        rw [Int.toNat_natCast, Nat.mul_one, add_lit, Nat.zero_add]
        refine H.ld 0 rfl (x := cn (bytesS (L.take i) ++ x.s.data.toList.take j) c.toNat) (cF_get _ hc256) ⟨by omega, by omega, ?_⟩
        refine H.st 0 rfl (by rw [cF_len]; exact hc256) fun w44 H => ?_
        rw [i64_id (by omega), cF_set _ hc256] at H
        simp only [List.set_cons_zero] at H
        refine ⟨x.s.size - (j + 1), by omega, j + 1, by rw [i64_id (by omega)]; rfl, by omega, rfl, .inr rfl, ?_⟩
        have : (fun k => if k = c.toNat then cn (bytesS (L.take i) ++ x.s.data.toList.take j) c.toNat + 1 else cn (bytesS (L.take i) ++ x.s.data.toList.take j) k) = cn (bytesS (L.take i) ++ x.s.data.toList.take (j + 1)) := funext fun k => by
          rw [htk, ← List.append_assoc, cn_snoc]
          split
          · rename_i e
            rw [e]
          · rfl
        rw [this] at H
        exact H
    · have : j = x.s.data.toList.length := by omega
      subst this
      rw [List.take_length] at H
      refine nextI w33 ?_
      rw [hsn]
      rcases hjb with h0 | h0
      · have : x.s.data.toList = [] := List.eq_nil_of_length_eq_zero h0
        rw [this] at H ⊢
        rw [ite_self]
        exact H
      · rw [h0]
        exact H
  · have : i = L.length := by omega
    subst this
    rw [List.take_length] at H
    exact k w30 H
end Rdg
end Go.Proofs.YtodhdkbhmkinjaaDoor
/- Order's laws: Keeps, a word looked at. Conditions: sizes. -/
namespace Go.Proofs.YtodhdkbhmkinjaaDoor
namespace Rdg
open Sh
set_option linter.unusedVariables false
set_option linter.unusedSimpArgs false
set_option maxRecDepth 4000
set_option maxHeartbeats 2000000
attribute [local irreducible] Ld St Nw Nn Lt LdS
theorem keeps_word {w w1 : World} {A B : List UInt8} {v : Wd} {b4 : R4} {vb bb i j : Nat} {tv tb : TypeId} {M : List (Nat × List Value × TypeId)} {I197 : Int → World → Prop} {s195 : Int} {R : Bool → World → Prop}
    (H : Hn w w1 ((w.heap.size, cF fun k => cn A k - cn B k, 41) :: M)) (hv : M[i]? = some (vb, wcells v, tv)) (hb : M[j]? = some (bb, bcells b4, tb)) (hne : v.s.data.toList ≠ []) (hin : InB v.box b4) (hx : v.box.1 ≤ v.box.2.2.1) (hA : A.length ≤ 1099511627776) (hB : B.length + v.s.size ≤ 1099511627776)
    (k : ∀ w', Hn w w' ((w.heap.size, cF fun k => cn A k - cn (B ++ v.s.data.toList) k, 41) :: M) → Ext (· = w.heap.size) w1 w' → I197 (IntKind.i64.wrap (s195 + 1)) w') : S5J1 w s195 I197 R (⟨vb, 0, none⟩, ⟨bb, 0, none⟩) w1 := by
  have hv' : ∀ {x : Nat × List Value × TypeId}, (x :: M)[i + 1]? = some (vb, wcells v, tv) := fun {x} => hv
  have hb' : ∀ {x : Nat × List Value × TypeId}, (x :: M)[j + 1]? = some (bb, bcells b4, tb) := fun {x} => hb
  have hsl : v.s.data.toList.length = v.s.size := Array.length_toList
  unfold S5J1
  unfold InB at hin
  obtain ⟨n1, n2, n3, n4⟩ := hin
  simp only [add_lit, Nat.zero_add]
  refine H.ld (i + 1) hv' (x := v.s) rfl (Br.f (by rw [eqL, decide_eq_false_iff_not]; exact hne) ?_)
  refine H.ld (i + 1) hv' (x := v.box.1) rfl (H.ld (j + 1) hb' (x := b4.1) rfl (Br.f (by rw [decide_eq_false_iff_not]; omega) ?_))
  refine H.ld (i + 1) hv' (x := v.box.2.1) rfl (H.ld (j + 1) hb' (x := b4.2.1) rfl (Br.f (by rw [decide_eq_false_iff_not]; omega) ?_))
  refine H.ld (i + 1) hv' (x := v.box.2.2.1) rfl (H.ld (j + 1) hb' (x := b4.2.2.1) rfl (Br.f (by rw [decide_eq_false_iff_not]; omega) ?_))
  refine H.ld (i + 1) hv' (x := v.box.2.2.2) rfl (H.ld (j + 1) hb' (x := b4.2.2.2) rfl (Br.f (by rw [decide_eq_false_iff_not]; omega) ?_))
  refine H.ld (i + 1) hv' (x := v.box.1) rfl (H.ld (i + 1) hv' (x := v.box.2.2.1) rfl (Br.f (by rw [decide_eq_false_iff_not]; omega) ?_))
  generalize hw0 : w1 = w0 at *
  refine ⟨fun m st w1 => ∃ n : Nat, st = (n : Int) ∧ n ≤ v.s.size ∧ m = v.s.size - n ∧ Hn w w1 ((w.heap.size, cF fun k => cn A k - cn (B ++ v.s.data.toList.take n) k, 41) :: M) ∧ Ext (· = w.heap.size) w0 w1, v.s.size, ⟨0, rfl, Nat.zero_le _, rfl, by rw [List.take_zero, List.append_nil]; exact H, Ext.refl _ _⟩, ?_⟩
  clear H
  rintro m st w2 ⟨n, rfl, hn, rfl, H, E⟩
  unfold S5L2
  dsimp only
  refine H.ld (i + 1) hv' (x := v.s) rfl (Br.dec (fun q => ?_) fun q => ?_)
  · have hnl : n < v.s.data.toList.length := by omega
    have H := H.drew
    have E := E.drew
    have hbt := bAt_list v.s n
    rw [List.getD_eq_getElem?_getD, List.getElem?_eq_getElem hnl, Option.getD_some] at hbt
    have htk := take_one hnl
    refine H.ld (i + 1) hv' (x := v.s) rfl ⟨by omega, by omega, H.ld (i + 1) hv' (x := v.s) rfl ⟨by omega, by omega, ?_⟩⟩
    generalize v.s.data.toList[n] = c at *
    rw [hbt]
    have hc256 : c.toNat < 256 := c.toNat_lt
    have h1 := cn_le A c.toNat
    have h2 := cn_le (B ++ v.s.data.toList.take n) c.toNat
    rw [List.length_append, List.length_take] at h2
    refine ⟨by omega, by omega, ?_⟩
    rw [Int.toNat_natCast, Nat.mul_one, add_lit, Nat.zero_add]
    refine H.ld 0 rfl (x := cn A c.toNat - cn (B ++ v.s.data.toList.take n) c.toNat) (cF_get _ hc256) ⟨by omega, by omega, ?_⟩
    refine H.st' 0 rfl (by rw [cF_len]; exact hc256) fun w44 H e44 => ?_
    rw [i64_id (by omega), cF_set _ hc256] at H
    simp only [List.set_cons_zero] at H
    refine ⟨v.s.size - (n + 1), by omega, n + 1, by rw [i64_id (by omega)]; rfl, by omega, rfl, ?_⟩
    have : (fun k => if k = c.toNat then cn A c.toNat - cn (B ++ v.s.data.toList.take n) c.toNat - 1 else cn A k - cn (B ++ v.s.data.toList.take n) k) = fun k => cn A k - cn (B ++ v.s.data.toList.take (n + 1)) k := funext fun k => by
      rw [htk, ← List.append_assoc, cn_snoc]
      split
      · rename_i e
        rw [e]
        omega
      · rfl
    rw [this] at H
    exact ⟨H, E.tr e44⟩
  · have : n = v.s.data.toList.length := by omega
    subst this
    rw [List.take_length] at H
    exact k w2 H E
end Rdg
end Go.Proofs.YtodhdkbhmkinjaaDoor

/- Order's laws: Keeps, the lines looked at. Conditions: sizes. -/
namespace Go.Proofs.YtodhdkbhmkinjaaDoor
namespace Rdg
open Sh
set_option linter.unusedVariables false
set_option linter.unusedSimpArgs false
set_option maxRecDepth 4000
set_option maxHeartbeats 2000000
theorem LdST.any {S : World → Prop} {a : Addr} : ∀ (ts : List Ty1) (i : Nat) (x : Sig ts) (K : Sig ts → Prop), (∀ w, S w → ∀ j v, (Sig.cells ts x)[j]? = some v → w.cell? (a.add (i + j)) = some v) → K x → LdST S a i ts K
  | [], _, _, _, _, k => k
  | [t], i, x, K, h, k => ldS_mk (x := x) (fun w hw => h w hw 0 (t.v x) rfl) k
  | t :: u :: r, i, x, K, h, k => ldS_mk (x := x.1) (fun w hw => h w hw 0 (t.v x.1) rfl) (LdST.any (u :: r) (i + 1) x.2 (fun y => K (x.1, y)) (fun w hw j v hj => by
      have := h w hw (j + 1) v hj
      rw [show i + 1 + j = i + (j + 1) by omega]
      exact this) k)
attribute [local irreducible] Ld St Nw Nn Lt LdS
theorem VRow.keepInt {w w' : World} {b : Nat} {f : Nat → Int} {t : TypeId} {s : Slc} {k : Nat} {ys : List Value} {c : Value} (h : VRow w s k ys) (hB : Blk w b (cF f).toArray t) (he : Ext (· = b) w w') (h0 : ys[0]? = some c) (hc : ∀ n, c ≠ .int .i64 n) : VRow w' s k ys :=
  h.keepF he fun j hj e => by
    have e : j = b := e
    subst e
    obtain ⟨a, ha, hcell⟩ := h.2 0 c h0
    obtain ⟨a', ha', hab⟩ := hj
    rw [ha] at ha'
    cases ha'
    rw [show a.add 0 = a from rfl] at hcell
    unfold World.cell? at hcell
    unfold Blk at hB
    rw [hab, hB] at hcell
    dsimp only at hcell
    split at hcell
    · cases hcell
    · by_cases ho : a.off < 256
      · rw [List.getElem?_toArray, cF_get f ho] at hcell
        cases hcell
        exact hc _ rfl
      · rw [List.getElem?_toArray, List.getElem?_eq_none (by rw [cF_len]; omega)] at hcell
        cases hcell
theorem LsV.keepInt {w w' : World} {b : Nat} {f : Nat → Int} {t : TypeId} {s : Slc} {M : List Ln} {ss : List Slc} (h : LsV w s M ss) (hB : Blk w b (cF f).toArray t) (he : Ext (· = b) w w') (hw : ∀ m ∈ M, m.words ≠ []) : LsV w' s M ss := by
  refine ⟨h.len, ?_, fun i x q h1 h2 => ?_⟩
  · cases M with
    | nil =>
      have := h.row
      rw [show (ss.zip (([] : List Ln).map Ln.box)) = [] by simp] at this ⊢
      exact ⟨this.1, fun j v hj => by simp at hj⟩
    | cons m M =>
      match ss, h.len, h.row with
      | q :: ss, _, hr => exact VRow.keepInt hr hB he (c := Slc.v q) rfl fun n e => by cases e
  · have hne := hw x (List.mem_of_getElem? h1)
    have hv := h.words i x q h1 h2
    unfold WsV at hv ⊢
    match hx : x.words, hne with
    | v :: r, _ =>
      rw [hx] at hv
      exact VRow.keepInt hv hB he (c := .string v.s) rfl fun n e => by cases e
end Rdg
end Go.Proofs.YtodhdkbhmkinjaaDoor

/- Order's laws: Keeps, the loops over lines and words. Conditions: sizes. -/
namespace Go.Proofs.YtodhdkbhmkinjaaDoor
namespace Rdg
open Sh
set_option linter.unusedVariables false
set_option linter.unusedSimpArgs false
set_option maxRecDepth 4000
set_option maxHeartbeats 4000000
attribute [local irreducible] Ld St Nw Nn Lt LdS
theorem bytesW_one (v : Wd) : bytesW [v] = v.s.data.toList := by unfold bytesW; simp
theorem keeps_lines {w w1 : World} {s : Slc} {M : List Ln} {ss : List Slc} {A : List UInt8} {R : Bool → World → Prop} (hL : LsV w1 s M ss) (hM : M.length ≤ 1048576) (hmw : ∀ m ∈ M, m.words.length ≤ 1048576)
    (hk : ∀ m ∈ M, m.words ≠ [] ∧ ∀ v ∈ m.words, v.s.data.toList ≠ [] ∧ InB v.box m.box ∧ v.box.1 ≤ v.box.2.2.1) (hA : A.length ≤ 1099511627776) (hB : (M.flatMap fun x => bytesW x.words).length ≤ 1048576)
    (H : Hn w w1 [(w.heap.size, cF fun k => cn A k - cn [] k, 41)])
    (k : ∀ w' I, Hn w w' [(w.heap.size, cF fun k => cn A k - cn (M.flatMap fun x => bytesW x.words) k, 41)] → S5L4 w s R I (M.length : Int) w') : Lp (σ := Int) (S5L4 w s R) 0 w1 := by
  have hc := hL.count
  have hne : ∀ m ∈ M, m.words ≠ [] := fun m hm => (hk m hm).1
  refine ⟨fun m st w1 => ∃ i : Nat, st = (i : Int) ∧ i ≤ M.length ∧ m = M.length - i ∧ Hn w w1 [(w.heap.size, cF fun k => cn A k - cn ((M.take i).flatMap fun x => bytesW x.words) k, 41)] ∧ LsV w1 s M ss, M.length, ⟨0, rfl, Nat.zero_le _, rfl, H, hL⟩, ?_⟩
  clear H hL
  rintro m st w2 ⟨i, rfl, hi, rfl, H, hL⟩
  by_cases q : i < M.length
  · unfold S5L4
    rw [hc]
    refine Br.t (decide_eq_true (by omega)) ?_
    have hmem := List.getElem_mem q
    have hfl := fm_take (fun x : Ln => bytesW x.words) M (i + 1)
    rw [take_one q, List.flatMap_append, List.length_append] at hfl
    have hflt : (M.take (i + 1)).flatMap (fun x => bytesW x.words) = (M.take i).flatMap (fun x => bytesW x.words) ++ bytesW M[i].words := by rw [take_one q, List.flatMap_append]; simp
    have hfo : ([M[i]].flatMap fun x => bytesW x.words) = bytesW M[i].words := by simp
    rw [hfo] at hfl
    obtain ⟨_, hkm⟩ := hk _ hmem
    have hmwm := hmw _ hmem
    have hnem := hne _ hmem
    have hat : ∀ {w' : World}, LsV w' s M ss → ∃ a q, s.p = some a ∧ ss[i]? = some q ∧ WsV w' q M[i].words ∧ ∀ j c, (lcells (q, M[i].box))[j]? = some c → w'.cell? (a.add (i * 5 + j)) = some c := fun h => h.at (List.getElem?_eq_getElem q)
    obtain ⟨a, qs, ha, hq, _, _⟩ := hat hL
    have hat2 : ∀ {w' : World}, LsV w' s M ss → WsV w' qs M[i].words ∧ ∀ j c, (lcells (qs, M[i].box))[j]? = some c → w'.cell? (a.add (i * 5 + j)) = some c := fun h => by
      obtain ⟨a', q', ha', hq', h1, h2⟩ := hat h
      rw [ha] at ha'
      cases ha'
      rw [hq] at hq'
      cases hq'
      exact ⟨h1, h2⟩
    generalize M[i] = y at *
    have b1 : (0 : Int) ≤ (i : Int) := by omega
    have b2 : (i : Int) < ((M.length : Nat) : Int) := by omega
    refine ⟨fun m st w1 => ∃ n : Nat, st = (n : Int) ∧ n ≤ y.words.length ∧ m = y.words.length - n ∧ Hn w w1 [(w.heap.size, cF fun k => cn A k - cn ((M.take i).flatMap (fun x => bytesW x.words) ++ bytesW (y.words.take n)) k, 41)] ∧ LsV w1 s M ss, y.words.length, ⟨0, rfl, Nat.zero_le _, rfl, by rw [List.take_zero, show bytesW [] = [] from rfl, List.append_nil]; exact H, hL⟩, ?_⟩
    clear H hL
    rintro m st w196 ⟨n, rfl, hn, rfl, H, hL⟩
    unfold S5L3
    rw [hc, ha, Int.toNat_natCast]
    simp only [add_add']
    obtain ⟨hW, hcl⟩ := hat2 hL
    have hqc := hW.count
    refine ⟨b1, b2, Nn.of (Ld.mk (x := qs) (hcl 0 _ rfl) ?_)⟩
    rw [hqc]
    refine Br.dec (fun q1 => ?_) fun q1 => ?_
    · have hnl : n < y.words.length := by omega
      have gv : y.words[n]? = some y.words[n] := List.getElem?_eq_getElem hnl
      have htk : bytesW (y.words.take (n + 1)) = bytesW (y.words.take n) ++ y.words[n].s.data.toList := by rw [take_one hnl, bytesW_app, bytesW_one]
      have hbl : (bytesW (y.words.take (n + 1))).length ≤ (bytesW y.words).length := fm_take (fun w : Wd => w.s.data.toList) y.words (n + 1)
      rw [htk, List.length_append] at hbl
      obtain ⟨v1, v2, v3⟩ := hkm _ (List.getElem_mem hnl)
      obtain ⟨a2, ha2, _⟩ := VRow.elem wcells_len hW gv (by decide)
      generalize y.words[n] = v at *
      have hvl : v.s.data.toList.length = v.s.size := Array.length_toList
      have Hd := H.drew
      have Ld' : LsV w196.drew s M ss := hL.keep (Ext.refl _ w196).drew
      refine Join.intro ⟨fun w' => LsV w' s M ss, Ld', b1, b2, Nn.of (ldS_mk (x := qs) (fun w' hw => (hat2 hw).2 0 _ rfl) ?_)⟩
      rw [hqc, ha2, Int.toNat_natCast]
      refine ⟨by omega, by omega, Nn.of (LdST.any LiA43 0 (wt v) _ (fun w' hw j c hj => by
        have := cellW gv ha2 w' (hat2 hw).1 j c hj
        rw [Nat.zero_add, add_add']
        exact this) ⟨b1, b2, Nn.of ?_⟩)⟩
      refine ldS_mk (x := y.box.1) (fun w' hw => (hat2 hw).2 1 _ rfl) (ldS_mk (x := y.box.2.1) (fun w' hw => (hat2 hw).2 2 _ rfl) (ldS_mk (x := y.box.2.2.1) (fun w' hw => (hat2 hw).2 3 _ rfl) (ldS_mk (x := y.box.2.2.2) (fun w' hw => (hat2 hw).2 4 _ rfl) ?_)))
      have hlo := H.size
      have hcnt : w.heap.size < w196.drew.heap.size := Hd.lt 0 rfl
      have hfl' : (M.take i).flatMap (fun x => bytesW x.words) ++ bytesW (y.words.take (n + 1)) = ((M.take i).flatMap (fun x => bytesW x.words) ++ bytesW (y.words.take n)) ++ v.s.data.toList := by rw [htk, List.append_assoc]
      have next : ∀ w', Hn w w' [(w.heap.size, cF fun k => cn A k - cn (((M.take i).flatMap (fun x => bytesW x.words) ++ bytesW (y.words.take n)) ++ v.s.data.toList) k, 41)] → LsV w' s M ss → ∃ n', n' < y.words.length - n ∧ ∃ n_1 : Nat, IntKind.i64.wrap ((n : Int) + 1) = (n_1 : Int) ∧ n_1 ≤ y.words.length ∧ n' = y.words.length - n_1 ∧ Hn w w' [(w.heap.size, cF fun k => cn A k - cn ((M.take i).flatMap (fun x => bytesW x.words) ++ bytesW (y.words.take n_1)) k, 41)] ∧ LsV w' s M ss := fun w' h1 h2 =>
        ⟨y.words.length - (n + 1), by omega, n + 1, by rw [i64_id (by omega)]; rfl, by omega, rfl, by rw [hfl']; exact h1, h2⟩
      have hsz : ((M.take i).flatMap (fun x => bytesW x.words) ++ bytesW (y.words.take n)).length + v.s.size ≤ 1099511627776 := by
        rw [List.length_append]
        omega
      refine ⟨?_, ?_⟩
      · refine (Hn.start w196.drew).nw fun w232 J => ⟨Ld'.keep J.ext, J.nw fun w233 J => ⟨Ld'.keep J.ext, ?_⟩⟩
        have z0 := J.lt 0 rfl
        have J : Hn w196.drew w233 [(w196.drew.heap.size, wcells ⟨⟨#[]⟩, zB⟩, 44), (w232.heap.size, bcells zB, 27)] := J
        have z1 : w196.drew.heap.size < w232.heap.size := by
          have := J.h.nodup
          have h2 := J.ge 1 rfl
          rcases Nat.lt_or_ge w196.drew.heap.size w232.heap.size with h | h
          · exact h
          · have e : w232.heap.size = w196.drew.heap.size := by omega
            rw [e] at this
            simp [arr] at this
        refine stWd (v := v) J 0 rfl fun w234 J => ⟨Ld'.keep J.ext, ?_⟩
        simp only [List.set_cons_zero] at J
        refine J.st 1 rfl (of_decide_eq_true rfl) fun w235 J => J.st 1 rfl (of_decide_eq_true rfl) fun w236 J => J.st 1 rfl (of_decide_eq_true rfl) fun w237 J => J.st 1 rfl (of_decide_eq_true rfl) fun w238 J => ?_
        have J : Hn w196.drew w238 [(w196.drew.heap.size, wcells v, 44), (w232.heap.size, bcells y.box, 27)] := J
        have H1 := (Hd.keep J.ext).push (J.get 0 rfl) (by omega) (by simp only [List.map_cons, List.map_nil, List.mem_cons, List.not_mem_nil, or_false]; omega)
        have H2 := H1.push (J.get 1 rfl) (by omega) (by simp only [List.cons_append, List.nil_append, List.map_cons, List.map_nil, List.mem_cons, List.not_mem_nil, or_false]; omega)
        refine keeps_word (M := [_, _]) (i := 0) (j := 1) H2 rfl rfl v1 v2 v3 hA hsz fun w' H' e' => next w' (Hn.left (L := [_]) (M := [_, _]) H') ((Ld'.keep J.ext).keepInt (H2.get 0 rfl) e' hne)
      · refine (Hn.start w196.drew).nw fun w232 J => ⟨Ld'.keep J.ext, J.nw fun w233 J => ⟨Ld'.keep J.ext, ?_⟩⟩
        have J : Hn w196.drew w233 [(w196.drew.heap.size, bcells zB, 27), (w232.heap.size, wcells ⟨⟨#[]⟩, zB⟩, 44)] := J
        have z1 : w196.drew.heap.size < w232.heap.size := by
          have := J.h.nodup
          have h2 := J.ge 1 rfl
          rcases Nat.lt_or_ge w196.drew.heap.size w232.heap.size with h | h
          · exact h
          · have e : w232.heap.size = w196.drew.heap.size := by omega
            rw [e] at this
            simp [arr] at this
        refine stWd (v := v) J 1 rfl fun w234 J => ⟨Ld'.keep J.ext, ?_⟩
        simp only [List.set_cons_zero, List.set_cons_succ] at J
        refine J.st 0 rfl (of_decide_eq_true rfl) fun w235 J => J.st 0 rfl (of_decide_eq_true rfl) fun w236 J => J.st 0 rfl (of_decide_eq_true rfl) fun w237 J => J.st 0 rfl (of_decide_eq_true rfl) fun w238 J => ?_
        have J : Hn w196.drew w238 [(w196.drew.heap.size, bcells y.box, 27), (w232.heap.size, wcells v, 44)] := J
        have H1 := (Hd.keep J.ext).push (J.get 0 rfl) (by omega) (by simp only [List.map_cons, List.map_nil, List.mem_cons, List.not_mem_nil, or_false]; omega)
        have H2 := H1.push (J.get 1 rfl) (by omega) (by simp only [List.cons_append, List.nil_append, List.map_cons, List.map_nil, List.mem_cons, List.not_mem_nil, or_false]; omega)
        refine keeps_word (M := [_, _]) (i := 1) (j := 0) H2 rfl rfl v1 v2 v3 hA hsz fun w' H' e' => next w' (Hn.left (L := [_]) (M := [_, _]) H') ((Ld'.keep J.ext).keepInt (H2.get 0 rfl) e' hne)
    · have : n = y.words.length := by omega
      subst this
      rw [List.take_length] at H
      refine ⟨b1, b2, Nn.of (Ld.mk (x := qs) (hcl 0 _ rfl) (Br.f ?_ ⟨M.length - (i + 1), by omega, i + 1, by rw [i64_id (by omega)]; rfl, by omega, rfl, by rw [hflt]; exact H, hL⟩))⟩
      rw [hqc]
      have : y.words.length ≠ 0 := fun e => hnem (List.eq_nil_of_length_eq_zero e)
      simpa using hnem
  · have : i = M.length := by omega
    subst this
    rw [List.take_length] at H
    exact k w2 _ H
end Rdg
end Go.Proofs.YtodhdkbhmkinjaaDoor

/- Order's laws: Keeps, the bytes of the glyphs and of the lines. No condition. -/
namespace Go.Proofs.YtodhdkbhmkinjaaDoor
namespace Rdg
set_option linter.unusedVariables false
theorem bytesS_app (l m : List Sg) : bytesS (l ++ m) = bytesS l ++ bytesS m := by unfold bytesS; rw [List.filter_append, List.flatMap_append]
theorem bytesS_allN : ∀ (i : Nat) (L : List Sg), bytesS (allN i L) = bytesS L
  | _, [] => rfl
  | i, g :: L => by
    rw [allN_cons, bytesS_app, bytesS_allN (i + 1) L, show g :: L = [g] ++ L from rfl, bytesS_app]
    congr 1
    split
    · rename_i h
      have : g.s.data.toList = [] := List.eq_nil_of_length_eq_zero (by rw [Array.length_toList]; exact h)
      unfold bytesS
      rw [List.filter_cons, List.filter_nil]
      split
      · simp [this]
      · rfl
    · unfold bytesS
      rw [List.filter_cons, List.filter_cons, List.filter_nil]
      have : (clampS g i).blank = g.blank := rfl
      rw [this]
      split <;> rfl
/-- What the counts are at the end. -/
theorem counts_zero (L : List Sg) (k : Nat) : cn (bytesS L) k - cn ((linesF (allF L)).flatMap fun x => bytesW x.words) k = 0 := by
  have h := lines_bytes (allF L)
  unfold allF at h
  rw [bytesS_allN] at h
  have := cn_perm h k
  unfold allF
  omega
/-- What the lines keep. -/
theorem lines_hk (L : List Sg) : ∀ m ∈ linesF (allF L), m.words ≠ [] ∧ ∀ v ∈ m.words, v.s.data.toList ≠ [] ∧ InB v.box m.box ∧ v.box.1 ≤ v.box.2.2.1 := fun m hm =>
  lines_keep (fun x hx e => by
    have h := (allN_at 0 L x hx).2.1
    refine h ?_
    have : x.s.data.toList.length = x.s.size := Array.length_toList
    rw [e] at this
    exact this.symm) hm
end Rdg
end Go.Proofs.YtodhdkbhmkinjaaDoor

/- Order's laws: Keeps. Conditions: sizes. -/
namespace Go.Proofs.YtodhdkbhmkinjaaDoor
namespace Rdg
open Sh
set_option linter.unusedVariables false
set_option linter.unusedSimpArgs false
set_option maxRecDepth 4000
set_option maxHeartbeats 2000000
attribute [local irreducible] Ld St Nw Nn Lt LdS
theorem GsV.keepK {w w' : World} {s : Slc} {L : List Sg} (h : GsV w s L) (he : Ext (fun _ => False) w w') : GsV w' s L := ⟨h.row.keep he, h.ok, h.lets, h.most⟩
set_option maxRecDepth 100000 in
theorem run_zeros_eq (w : World) (o1 o2 : Operand) : RunV Tryd.prog (do eqGuard .eql 41 o1 o2 (.agg (cF fun _ => 0).toArray) (.agg (cF fun _ => 0).toArray); binOp .eql 41 (.agg (cF fun _ => 0).toArray) (.agg (cF fun _ => 0).toArray)) w (.bool true) w := by
  unfold RunV
  kernel_rfl
theorem run_load256 {w : World} {b : Nat} {f : Nat → Int} {t : TypeId} (h : Blk w b (cF f).toArray t) : RunV Tryd.prog (loadVar 41 ⟨b, 0, none⟩) w (.agg (cF f).toArray) w := by
  have hu : Tryd.prog.underlying 41 = _ := Tryd.underlying41
  have ha := run_isAgg (P := Tryd.prog) (w := w) hu
  have hn : szOf Tryd.prog 41 = some 256 := by kernel_rfl
  have hc := run_loadCells_list (P := Tryd.prog) w ⟨b, 0, none⟩ (cF f) fun j v hj => by
    rw [add_lit, Nat.zero_add, h.cell]
    simpa using hj
  rw [cF_len] at hc
  unfold RunV
  simp only [loadVar, Sem.run_bind, ha, isAggD, Result.andThen_ok, if_true, run_size hn, hc, Sem.run_pure]
theorem c_Keeps {w : World} {s : Slc} {L : List Sg} (hG : GsV w s L) : C5 s w fun r w1 => r = true ∧ Ext (fun _ => False) w w1 := by
  refine T5 _ _ _ ?_
  unfold S5
  refine Br.dec (fun _ => c_livesT (Ext.refl _ w)) fun _ => ?_
  refine (Hn.start w).nw (cs := cF (cn [])) fun w6 H => ?_
  have H : Hn w w6 [(w.heap.size, cF (cn []), 41)] := H
  refine keeps_count hG (fun w' H => ?_) H
  refine (c_Lines (hG.keepK H.ext)).mono ?_
  rintro r45 w46 ⟨⟨ss, hL⟩, e46⟩
  have H := H.keep e46
  have hA : (bytesS L).length ≤ 1048576 := by
    have := bytesS_len L
    have := hG.lets
    omega
  have hmost := hG.most
  have hll : (linesF (allF L)).length ≤ 1048576 := by
    have h1 : (linesF (allF L)).length ≤ (rowsF (allF L)).length := liF_len _
    have h2 := rowsF_count (allF L)
    have h3 := allN_len 0 L
    unfold allF at h1 h2 ⊢
    omega
  have hwl : ((linesF (allF L)).flatMap Ln.words).length ≤ 1048576 := by
    have h1 : ((linesF (allF L)).flatMap Ln.words).length ≤ (allF L).length := allW_len (allF L)
    have h3 : (allF L).length ≤ L.length := allN_len 0 L
    omega
  have hbl : ((linesF (allF L)).flatMap fun x => bytesW x.words).length ≤ 1048576 := by
    have h := (lines_bytes (allF L)).length_eq
    unfold allF at h ⊢
    rw [bytesS_allN] at h
    omega
  have hz := counts_zero L
  refine keeps_lines hL hll (fun m hm => ?_) (lines_hk L) (A := bytesS L) (by omega) hbl ?_ fun w2 I H => ?_
  · obtain ⟨i, hi⟩ := List.mem_iff_getElem?.1 hm
    have h1 := fm_take Ln.words (linesF (allF L)) (i + 1)
    have hlt := (List.getElem?_eq_some_iff.1 hi).1
    rw [take_one hlt, List.flatMap_append, List.length_append] at h1
    have h2 : ([(linesF (allF L))[i]].flatMap Ln.words) = m.words := by
      have := (List.getElem?_eq_some_iff.1 hi).2
      rw [this]
      simp
    rw [h2] at h1
    omega
  · have : (fun k => cn (bytesS L) k - cn [] k) = cn (bytesS L) := funext fun k => by
      show cn (bytesS L) k - 0 = _
      omega
    rw [this]
    exact H
  · have : (fun k => cn (bytesS L) k - cn ((linesF (allF L)).flatMap fun x => bytesW x.words) k) = fun _ => 0 := funext hz
    rw [this] at H
    unfold S5L4
    rw [hL.count]
    refine Br.f (by simp) ⟨_, run_load256 (H.get 0 rfl), true, w2, run_zeros_eq w2 _ _, Br.t rfl ?_⟩
    exact c_livesT H.ext
end Rdg
end Go.Proofs.YtodhdkbhmkinjaaDoor
