/- Order's laws: List, the plain law. No condition. -/
import Derived.Test.YtodhdkbhmkinjaaDoorOsQ
import Derived.Test.YtodhdkbhmkinjaaDoorOtA
import Derived.Test.YtodhdkbhmkinjaaDoorFnOr7
namespace Go.Proofs.YtodhdkbhmkinjaaDoor
namespace Rdg
set_option linter.unusedVariables false
set_option linter.unusedSimpArgs false
theorem GsV.keep {w w' : World} {s : Sh.Slc} {L : List Sg} (h : GsV w s L) (he : Sh.Ext (fun _ => False) w w') : GsV w' s L := ⟨h.row.keep he, h.ok, h.lets, h.most⟩
/-- What the law asks of two glyphs. -/
def okP (x y : Sg) : Prop := (x.s.data.toList ≠ [] → y.s.data.toList ≠ [] → ¬ (x.fx = y.fx ∧ x.fy = y.fy) ∧ (x.fy = y.fy → x.hi = y.hi)) ∧ nB x.fx = true ∧ nB x.fy = true ∧ nB y.fx = true ∧ nB y.fy = true
def okX (x y : Sg) : Prop := x.s.data.toList ≠ [] → y.s.data.toList ≠ [] → x.fx ≠ y.fx
def Okl (L : List Sg) : Prop := ∀ (i k : Nat) (x y : Sg), k < i → L[i]? = some x → L[k]? = some y → okP x y
def Lev (L : List Sg) : Prop := ∀ (i k : Nat) (x y : Sg), k < i → L[i]? = some x → L[k]? = some y → okX x y
/-- The list, turned and reversed. -/
def rv (L : List Sg) (c : Nat) : List Sg := (L.drop c ++ L.take c).reverse
theorem rv_perm (L : List Sg) (c : Nat) : (rv L c).Perm L := (List.reverse_perm _).trans (List.perm_append_comm.trans (by rw [List.take_append_drop]))
theorem rv_len (L : List Sg) (c : Nat) : (rv L c).length = L.length := (rv_perm L c).length_eq
theorem rv_at {L : List Sg} {c i : Nat} (hc : c < L.length) (hi : i < L.length) : (rv L c)[i]? = L[(2 * L.length - 1 - i + c) % L.length]? := by
  have hl : (L.drop c ++ L.take c).length = L.length := by rw [List.length_append, List.length_drop, List.length_take]; omega
  unfold rv
  rw [List.getElem?_reverse (by rw [hl]; exact hi), hl]
  by_cases h : L.length - 1 - i < L.length - c
  · rw [List.getElem?_append_left (by rw [List.length_drop]; exact h), List.getElem?_drop]
    have e : 2 * L.length - 1 - i + c = (c + (L.length - 1 - i)) + L.length := by omega
    rw [e, Nat.add_mod_right, Nat.mod_eq_of_lt (by omega)]
  · rw [List.getElem?_append_right (by rw [List.length_drop]; omega), List.length_drop, List.getElem?_take]
    have e : 2 * L.length - 1 - i + c = (L.length - 1 - i - (L.length - c)) + L.length + L.length := by omega
    rw [e, Nat.add_mod_right, Nat.add_mod_right, Nat.mod_eq_of_lt (by omega), if_pos (by omega)]
theorem allN_K : ∀ (i : Nat) (L : List Sg), (allN i L).map K = (L.filter fun g => g.s.size != 0).map fun g => K (clampS g 0)
  | _, [] => rfl
  | i, g :: L => by
    rw [allN_cons, List.map_append, allN_K (i + 1) L, List.filter_cons]
    by_cases h : g.s.size = 0
    · rw [if_pos h, if_neg (by simp [h])]
      rfl
    · rw [if_neg h, if_pos (by simp [h])]
      rfl
theorem allF_K (L : List Sg) : (allF L).map K = (L.filter fun g => g.s.size != 0).map fun g => K (clampS g 0) := allN_K 0 L
theorem allF_perm {L M : List Sg} (h : M.Perm L) : ((allF L).map K).Perm ((allF M).map K) := by
  rw [allF_K, allF_K]
  exact (h.symm.filter _).map _
theorem bd_nB {n : Int} (h : nB n = true) : bd n = n := by
  have := (nB_iff n).1 h
  unfold bd
  omega
theorem ne_size {s : ByteArray} : s.data.toList ≠ [] ↔ s.size ≠ 0 := by
  have : s.data.toList.length = s.size := Array.length_toList
  rw [← this, ne_eq, ne_eq, List.length_eq_zero_iff]
theorem list_law {L : List Sg} (c : Nat) (hO : Okl L) : (linesF (allF L)).map Ln.box = (linesF (allF (rv L c))).map Ln.box ∧ (Lev L → linesF (allF L) = linesF (allF (rv L c))) := by
  have hA := allF_apart L
  have hA' := allF_apart (rv L c)
  have hP := allF_perm (rv_perm L c)
  have key : ∀ a ∈ allF L, ∃ (i : Nat) (g : Sg), L[i]? = some g ∧ g.s.data.toList ≠ [] ∧ a.fy = bd g.fy ∧ a.hi = max (bd g.hi) 0 := fun a ha => by
    have h1 : K a ∈ (allF L).map K := List.mem_map_of_mem ha
    rw [allF_K] at h1
    obtain ⟨g, hg, e⟩ := List.mem_map.1 h1
    obtain ⟨h2, h3⟩ := List.mem_filter.1 hg
    obtain ⟨i, hi⟩ := List.mem_iff_getElem?.1 h2
    have e1 := congrArg Sg.fy e
    have e2 := congrArg Sg.hi e
    exact ⟨i, g, hi, ne_size.2 (by simpa using h3), e1.symm, e2.symm⟩
  have hH : ∀ a ∈ allF L, ∀ b ∈ allF L, a.fy = b.fy → a.hi = b.hi := fun a ha b hb e => by
    obtain ⟨i, g, hi, hg, a1, a2⟩ := key a ha
    obtain ⟨k, g', hk, hg', b1, b2⟩ := key b hb
    rw [a1, b1] at e
    rw [a2, b2]
    rcases Nat.lt_trichotomy k i with h | h | h
    · obtain ⟨o1, o2, o3, o4, o5⟩ := hO i k g g' h hi hk
      rw [bd_nB o3, bd_nB o5] at e
      rw [(o1 hg hg').2 e]
    · subst h
      rw [hi] at hk
      cases hk
      rfl
    · obtain ⟨o1, o2, o3, o4, o5⟩ := hO k i g' g h hk hi
      rw [bd_nB o3, bd_nB o5] at e
      rw [(o1 hg' hg).2 e.symm]
  have h0 : ∀ a ∈ allF L, 0 ≤ a.hi := fun a ha => by
    obtain ⟨i, g, hi, hg, a1, a2⟩ := key a ha
    rw [a2]
    omega
  refine ⟨list_boxes hA hA' hP hH h0, fun hL => list_level hA hA' hP hH h0 ?_⟩
  have hp : L.Pairwise fun x y => x.s.data.toList ≠ [] → y.s.data.toList ≠ [] → bd x.fx ≠ bd y.fx := by
    rw [List.pairwise_iff_getElem]
    intro i j hi hj hij h1 h2
    have gi : L[i]? = some L[i] := List.getElem?_eq_getElem hi
    have gj : L[j]? = some L[j] := List.getElem?_eq_getElem hj
    obtain ⟨o1, o2, o3, o4, o5⟩ := hO j i _ _ hij gj gi
    have := hL j i _ _ hij gj gi h2 h1
    rw [bd_nB o2, bd_nB o4]
    exact fun e => this e.symm
  have h2 : ((allF L).map K).Pairwise fun a b => a.fx ≠ b.fx := by
    rw [allF_K, List.pairwise_map, List.pairwise_filter]
    refine hp.imp fun {x y} h e1 e2 => h (ne_size.2 (by simpa using e1)) (ne_size.2 (by simpa using e2))
  exact (List.pairwise_map (f := K) (R := fun a b => a.fx ≠ b.fx)).1 h2
end Rdg
end Go.Proofs.YtodhdkbhmkinjaaDoor
/- Order's laws: level. Conditions: sizes. -/
namespace Go.Proofs.YtodhdkbhmkinjaaDoor
namespace Rdg
open Sh
set_option linter.unusedVariables false
set_option linter.unusedSimpArgs false
set_option maxRecDepth 4000
set_option maxHeartbeats 2000000
attribute [local irreducible] Ld St Nw Nn Lt LdS
theorem neB {s : ByteArray} (h : s.data.toList ≠ []) : (!(s.toList == (⟨#[]⟩ : ByteArray).toList)) = true := by
  rw [eqL, Bool.not_eq_true', decide_eq_false_iff_not]
  exact h
theorem eqB {s : ByteArray} (h : s.data.toList = []) : (!(s.toList == (⟨#[]⟩ : ByteArray).toList)) = false := by
  rw [eqL, Bool.not_eq_false', decide_eq_true_eq]
  exact h
theorem c_level {w : World} {s : Slc} {L : List Sg} (hR : VRow w s 9 (L.flatMap gcells)) (hl : L.length ≤ 1048576) : C22 s w fun r w1 => (r = true ↔ Lev L) ∧ Ext (fun _ => False) w w1 := by
  have hlen : s.len = L.length := VRow.count gcells_len (by decide) hR
  refine T22 _ _ _ ?_
  unfold S22
  refine ⟨fun m st w1 => ∃ i : Nat, st = (i : Int) ∧ i ≤ L.length ∧ m = L.length - i ∧ (∀ (i' k : Nat) (x y : Sg), i' < i → k < i' → L[i']? = some x → L[k]? = some y → okX x y) ∧ Ext (fun _ => False) w w1, L.length, ⟨0, rfl, Nat.zero_le _, rfl, fun _ _ _ _ h => absurd h (Nat.not_lt_zero _), Ext.refl _ _⟩, ?_⟩
  rintro m st w3 ⟨i, rfl, hi, rfl, hs, e3⟩
  unfold S22L2
  rw [hlen]
  refine Br.dec (fun q => ?_) fun q => ?_
  · have hil : i < L.length := by omega
    have gi : L[i]? = some L[i] := List.getElem?_eq_getElem hil
    generalize L[i] = x at *
    refine ⟨fun m st w1 => ∃ k : Nat, st = (k : Int) ∧ k ≤ i ∧ m = i - k ∧ (∀ (k' : Nat) (y : Sg), k' < k → L[k']? = some y → okX x y) ∧ Ext (fun _ => False) w w1, i, ⟨0, rfl, Nat.zero_le _, rfl, fun _ _ h => absurd h (Nat.not_lt_zero _), e3⟩, ?_⟩
    rintro m st w6 ⟨k, rfl, hk, rfl, hs2, e6⟩
    unfold S22L1
    rw [hlen]
    refine Br.dec (fun q1 => ?_) fun q1 => ?_
    · have hkl : k < L.length := by omega
      have gk : L[k]? = some L[k] := List.getElem?_eq_getElem hkl
      obtain ⟨a, ha, hc⟩ := VRow.elem gcells_len (hR.keep e6.drew) gi (by decide)
      obtain ⟨a', ha', hc'⟩ := VRow.elem gcells_len (hR.keep e6.drew) gk (by decide)
      rw [ha] at ha'
      cases ha'
      generalize L[k] = y at *
      have b1 : (0 : Int) ≤ (i : Int) := by omega
      have b2 : (i : Int) < ((L.length : Nat) : Int) := by omega
      have b3 : (0 : Int) ≤ (k : Int) := by omega
      have b4 : (k : Int) < ((L.length : Nat) : Int) := by omega
      rw [ha, Int.toNat_natCast, Int.toNat_natCast]
      simp only [add_add']
      have next : okX x y → ∃ n', n' < i - k ∧ ∃ k_1 : Nat, IntKind.i64.wrap ((k : Int) + 1) = (k_1 : Int) ∧ k_1 ≤ i ∧ n' = i - k_1 ∧ (∀ (k' : Nat) (y : Sg), k' < k_1 → L[k']? = some y → okX x y) ∧ Ext (fun _ => False) w w6.drew := fun h =>
        ⟨i - (k + 1), by omega, k + 1, by rw [i64_id (by omega)]; rfl, by omega, rfl, fun k' y' hk' g' => by
          by_cases e : k' = k
          · subst e
            rw [gk] at g'
            cases g'
            exact h
          · exact hs2 k' y' (by omega) g', e6.drew⟩
      refine ⟨b1, b2, Nn.of (Ld.mk (x := x.s) (hc 1 _ rfl) ?_)⟩
      by_cases h1 : x.s.data.toList = []
      · exact Br.f (eqB h1) (next fun h => absurd h1 h)
      refine Br.t (neB h1) ⟨b3, b4, Nn.of (Ld.mk (x := y.s) (hc' 1 _ rfl) ?_)⟩
      by_cases h2 : y.s.data.toList = []
      · exact Br.f (eqB h2) (next fun _ h => absurd h2 h)
      refine Br.t (neB h2) ⟨b1, b2, Nn.of (Ld.mk (x := x.fx) (hc 2 _ rfl) ⟨b3, b4, Nn.of (Ld.mk (x := y.fx) (hc' 2 _ rfl) ?_)⟩)⟩
      refine Br.eq (fun h3 => ?_) fun h3 => next fun _ _ => h3
      exact ⟨⟨fun h => (by cases h), fun h => absurd h3 (h i k x y (by omega) gi gk h1 h2)⟩, e6.drew⟩
    · have : k = i := by omega
      subst this
      refine ⟨L.length - (k + 1), by omega, k + 1, by rw [i64_id (by omega)]; rfl, by omega, rfl, fun i' k' x' y' h1 h2 g1 g2 => ?_, e6⟩
      by_cases e : i' = k
      · subst e
        rw [gi] at g1
        cases g1
        exact hs2 k' y' h2 g2
      · exact hs i' k' x' y' (by omega) h2 g1 g2
  · have : i = L.length := by omega
    subst this
    exact ⟨⟨fun _ i k x y h g1 g2 => hs i k x y (List.getElem?_eq_some_iff.1 g1).1 h g1 g2, fun _ => rfl⟩, e3⟩
end Rdg
end Go.Proofs.YtodhdkbhmkinjaaDoor

/- Order's laws: List. Conditions: sizes. -/
namespace Go.Proofs.YtodhdkbhmkinjaaDoor
namespace Rdg
open Sh
set_option linter.unusedVariables false
set_option linter.unusedSimpArgs false
set_option maxRecDepth 4000
set_option maxHeartbeats 4000000
attribute [local irreducible] Ld St Nw Nn Lt LdS
theorem gcell_at {s : Slc} {L : List Sg} {i : Nat} {x : Sg} (gi : L[i]? = some x) {a : Addr} (ha : s.p = some a) {w : World} (h : VRow w s 9 (L.flatMap gcells)) {j : Nat} {v : Value} (hj : (gcells x)[j]? = some v) : w.cell? (a.add (i * 9 + j)) = some v := by
  obtain ⟨a', ha', hc⟩ := VRow.elem gcells_len h gi (by decide)
  rw [ha] at ha'
  cases ha'
  exact hc j v hj
/-- Four numbers are looked at. -/
theorem list_chain {s : Slc} {L : List Sg} {i k : Nat} {x y : Sg} {S : World → Prop} {wd : World} {R : Bool → World → Prop} {I : Int → World → Prop} (hS : ∀ w, S w → VRow w s 9 (L.flatMap gcells)) (hR : VRow wd s 9 (L.flatMap gcells)) (gi : L[i]? = some x) (gk : L[k]? = some y)
    (hl : C8 wd R) (hn : nB x.fx = true → nB x.fy = true → nB y.fx = true → nB y.fy = true → I (IntKind.i64.wrap ((k : Int) + 1)) wd) :
    0 ≤ (i : Int) ∧ (i : Int) < ((L.length : Nat) : Int) ∧ Nn s.p fun a => LdS S ((a.add ((i : Int).toNat * 9)).add 2) (Value.int .i64) fun (x1 : Int) => C21 x1 wd fun r1 w1 =>
      ∃ V1 : World → Prop, V1 w1 ∧ Br (!r1) (∃ V2 : World → Prop, V2 w1 ∧ ∃ V3 : World → Prop, V3 w1 ∧ C8 w1 fun r w => R r w)
      (0 ≤ (i : Int) ∧ (i : Int) < ((L.length : Nat) : Int) ∧ Nn s.p fun a => LdS V1 (((a.add ((i : Int).toNat * 9)).add 2).add 1) (Value.int .i64) fun (x2 : Int) => C21 x2 w1 fun r2 w2 =>
      ∃ V4 : World → Prop, V4 w2 ∧ Br (!r2) (∃ V5 : World → Prop, V5 w2 ∧ C8 w2 fun r w => R r w)
      (0 ≤ (k : Int) ∧ (k : Int) < ((L.length : Nat) : Int) ∧ Nn s.p fun a => LdS V4 ((a.add ((k : Int).toNat * 9)).add 2) (Value.int .i64) fun (x3 : Int) => C21 x3 w2 fun r3 w3 =>
      ∃ V6 : World → Prop, V6 w3 ∧ Br (!r3) (C8 w3 fun r w => R r w)
      (0 ≤ (k : Int) ∧ (k : Int) < ((L.length : Nat) : Int) ∧ Nn s.p fun a => LdS V6 (((a.add ((k : Int).toNat * 9)).add 2).add 1) (Value.int .i64) fun (x4 : Int) => C21 x4 w3 fun r4 w4 =>
      Br (!r4) (C8 w4 fun r w => R r w) (I (IntKind.i64.wrap ((k : Int) + 1)) w4)))) := by
  obtain ⟨a, ha, _⟩ := VRow.elem gcells_len hR gi (by decide)
  have hi := (List.getElem?_eq_some_iff.1 gi).1
  have hk := (List.getElem?_eq_some_iff.1 gk).1
  have b1 : (0 : Int) ≤ (i : Int) := by omega
  have b2 : (i : Int) < ((L.length : Nat) : Int) := by omega
  have b3 : (0 : Int) ≤ (k : Int) := by omega
  have b4 : (k : Int) < ((L.length : Nat) : Int) := by omega
  rw [ha, Int.toNat_natCast, Int.toNat_natCast]
  simp only [add_add']
  refine ⟨b1, b2, Nn.of (ldS_mk (x := x.fx) (fun w' h => gcell_at gi ha (hS w' h) rfl) ?_)⟩
  refine (c_within x.fx wd).mono ?_
  rintro r w1 ⟨hr, e⟩
  subst e
  subst hr
  refine ⟨fun w' => VRow w' s 9 (L.flatMap gcells), hR, ?_⟩
  cases h1 : nB x.fx with
  | false => exact Br.t rfl ⟨fun _ => True, trivial, fun _ => True, trivial, hl⟩
  | true =>
  refine Br.f rfl ⟨b1, b2, Nn.of (ldS_mk (x := x.fy) (fun w' h => gcell_at (j := 3) gi ha h rfl) ?_)⟩
  refine (c_within x.fy w1).mono ?_
  rintro r w2 ⟨hr, e⟩
  subst e
  subst hr
  refine ⟨fun w' => VRow w' s 9 (L.flatMap gcells), hR, ?_⟩
  cases h2 : nB x.fy with
  | false => exact Br.t rfl ⟨fun _ => True, trivial, hl⟩
  | true =>
  refine Br.f rfl ⟨b3, b4, Nn.of (ldS_mk (x := y.fx) (fun w' h => gcell_at gk ha h rfl) ?_)⟩
  refine (c_within y.fx w2).mono ?_
  rintro r w3 ⟨hr, e⟩
  subst e
  subst hr
  refine ⟨fun w' => VRow w' s 9 (L.flatMap gcells), hR, ?_⟩
  cases h3 : nB y.fx with
  | false => exact Br.t rfl hl
  | true =>
  refine Br.f rfl ⟨b3, b4, Nn.of (ldS_mk (x := y.fy) (fun w' h => gcell_at (j := 3) gk ha h rfl) ?_)⟩
  refine (c_within y.fy w3).mono ?_
  rintro r w4 ⟨hr, e⟩
  subst e
  subst hr
  cases h4 : nB y.fy with
  | false => exact Br.t rfl hl
  | true => exact Br.f rfl (hn h1 h2 h3 h4)
/-- The boxes compared; then all. -/
theorem list_end {w w1 : World} {s sa sb : Slc} {L : List Sg} {c : Nat} {ss tt : List Slc} (hG : GsV w1 s L) (hO : Okl L) (ha : LsV w1 sa (linesF (allF L)) ss) (hb : LsV w1 sb (linesF (allF (rv L c))) tt) (he : Ext (fun _ => False) w w1) :
    Br (((sa.len : Nat) : Int) != ((sb.len : Nat) : Int)) (false = true ∧ Ext (fun _ => False) w w1) (Lp (σ := Int) (S7L2 s sa sb fun r w1 => r = true ∧ Ext (fun _ => False) w w1) 0 w1) := by
  obtain ⟨l1, l2⟩ := list_law c hO
  have hmost := hG.most
  have ca := ha.count
  have cb := hb.count
  have hlen := congrArg List.length l1
  rw [List.length_map, List.length_map] at hlen
  have hll : (linesF (allF L)).length ≤ 1048576 := by
    have h1 : (linesF (allF L)).length ≤ (rowsF (allF L)).length := liF_len _
    have h2 := rowsF_count (allF L)
    have h3 := allN_len 0 L
    unfold allF at h1 h2 ⊢
    omega
  have hwl : ∀ m ∈ linesF (allF L), m.words.length ≤ 1048576 := fun m hm => by
    have h1 : ((linesF (allF L)).flatMap Ln.words).length ≤ (allF L).length := allW_len (allF L)
    have h3 : (allF L).length ≤ L.length := allN_len 0 L
    obtain ⟨i, hi⟩ := List.mem_iff_getElem?.1 hm
    have h1 := fm_take Ln.words (linesF (allF L)) (i + 1)
    have hlt := (List.getElem?_eq_some_iff.1 hi).1
    rw [take_one hlt, List.flatMap_append, List.length_append] at h1
    have h2 : ([(linesF (allF L))[i]].flatMap Ln.words) = m.words := by
      have := (List.getElem?_eq_some_iff.1 hi).2
      rw [this]
      simp
    rw [h2] at h1
    omega
  generalize linesF (allF L) = A at *
  generalize linesF (allF (rv L c)) = B at *
  refine Br.f (by rw [ca, cb, hlen]; simp) ?_
  refine ⟨fun m st w1 => ∃ i : Nat, st = (i : Int) ∧ i ≤ A.length ∧ m = A.length - i ∧ GsV w1 s L ∧ LsV w1 sa A ss ∧ LsV w1 sb B tt ∧ Ext (fun _ => False) w w1, A.length, ⟨0, rfl, Nat.zero_le _, rfl, hG, ha, hb, he⟩, ?_⟩
  clear hG ha hb he
  rintro m st w3 ⟨i, rfl, hi, rfl, hG, ha, hb, he⟩
  unfold S7L2
  rw [ca, cb]
  refine Br.dec (fun q => ?_) fun q => ?_
  · have hia : i < A.length := by omega
    have hib : i < B.length := by omega
    have gA : A[i]? = some A[i] := List.getElem?_eq_getElem hia
    have gB : B[i]? = some B[i] := List.getElem?_eq_getElem hib
    have eb : A[i].box = B[i].box := by
      have h1 : (A.map Ln.box)[i]? = some A[i].box := by rw [List.getElem?_map, gA]; rfl
      have h2 : (B.map Ln.box)[i]? = some B[i].box := by rw [List.getElem?_map, gB]; rfl
      rw [l1, h2] at h1
      exact (Option.some.inj h1).symm
    have hGd := hG.keep (Ext.refl _ w3).drew
    have had := ha.keep (Ext.refl _ w3).drew
    have hbd := hb.keep (Ext.refl _ w3).drew
    have hed := he.drew
    obtain ⟨p1, x1, hp1, _, hW1, hd1⟩ := had.at gA
    obtain ⟨p2, x2, hp2, _, hW2, hd2⟩ := hbd.at gB
    have hAB : A = B → A[i].words.length = B[i].words.length := fun h => by subst h; rfl
    generalize A[i] = v at *
    generalize B[i] = u at *
    have b1 : (0 : Int) ≤ (i : Int) := by omega
    have b2 : (i : Int) < ((A.length : Nat) : Int) := by omega
    have b3 : (i : Int) < ((B.length : Nat) : Int) := by omega
    rw [hp1, hp2, Int.toNat_natCast]
    simp only [add_add']
    refine ⟨b1, b2, Nn.of ?_⟩
    refine Ld.mk (x := v.box.1) (hd1 1 _ rfl) (Ld.mk (x := v.box.2.1) (hd1 2 _ rfl) (Ld.mk (x := v.box.2.2.1) (hd1 3 _ rfl) (Ld.mk (x := v.box.2.2.2) (hd1 4 _ rfl) ⟨b1, b3, Nn.of ?_⟩)))
    refine Ld.mk (x := u.box.1) (hd2 1 _ rfl) (Ld.mk (x := u.box.2.1) (hd2 2 _ rfl) (Ld.mk (x := u.box.2.2.1) (hd2 3 _ rfl) (Ld.mk (x := u.box.2.2.2) (hd2 4 _ rfl) ?_)))
    have hbx : bxB v.box u.box = true := (bx_eq _ _).2 eb
    refine Br.f (by show (!(bxB v.box u.box)) = false; rw [hbx]; rfl) ⟨b1, b2, Nn.of (Ld.mk (x := x1) (hd1 0 _ rfl) ⟨b1, b3, Nn.of (Ld.mk (x := x2) (hd2 0 _ rfl) ?_)⟩)⟩
    rw [hW1.count, hW2.count]
    have next : ∀ w', GsV w' s L → LsV w' sa A ss → LsV w' sb B tt → Ext (fun _ => False) w w' → ∃ n', n' < A.length - i ∧ ∃ i_1 : Nat, IntKind.i64.wrap ((i : Int) + 1) = (i_1 : Int) ∧ i_1 ≤ A.length ∧ n' = A.length - i_1 ∧ GsV w' s L ∧ LsV w' sa A ss ∧ LsV w' sb B tt ∧ Ext (fun _ => False) w w' := fun w' h1 h2 h3 h4 =>
      ⟨A.length - (i + 1), by omega, i + 1, by rw [i64_id (by omega)]; rfl, by omega, rfl, h1, h2, h3, h4⟩
    refine Br.ne (fun h1 => ?_) fun _ => next _ hGd had hbd hed
    refine (c_level hGd.row hG.most).mono ?_
    rintro r w5 ⟨hr, e5⟩
    cases r with
    | true => exact absurd (congrArg (fun n : Nat => (n : Int)) (hAB (l2 (hr.1 rfl)))) h1
    | false => exact Br.f rfl (next _ (hGd.keep e5) (had.keep e5) (hbd.keep e5) (hed.tr e5))
  · refine (c_level hG.row hG.most).mono ?_
    rintro r w5 ⟨hr, e5⟩
    have E := he.tr e5
    cases r with
    | false => exact Br.t rfl (c_livesT E)
    | true =>
      refine Br.f rfl ?_
      refine (c_RSame (ha.keep e5) (hb.keep e5) hll hwl).mono ?_
      rintro r w6 ⟨hr2, e6⟩
      have : r = true := hr2.2 (l2 (hr.1 rfl))
      subst this
      exact Br.t rfl (c_livesT (E.tr e6))
theorem c_List {w : World} {s : Slc} {L : List Sg} (hG : GsV w s L) {t : Nat} (ht : t ≤ 255) : C7 s (t : Int) w fun r w1 => r = true ∧ Ext (fun _ => False) w w1 := by
  have hlen : s.len = L.length := VRow.count gcells_len (by decide) hG.row
  have hmost := hG.most
  refine T7 _ _ _ _ ?_
  unfold S7
  rw [hlen]
  refine Br.dec (fun _ => c_livesT (Ext.refl _ w)) fun q0 => ?_
  refine Br.eq (fun _ => c_livesT (Ext.refl _ w)) fun q1 => ?_
  refine ⟨fun m st w1 => ∃ i : Nat, st = (i : Int) ∧ i ≤ L.length ∧ m = L.length - i ∧ (∀ (i' k : Nat) (x y : Sg), i' < i → k < i' → L[i']? = some x → L[k]? = some y → okP x y) ∧ Ext (fun _ => False) w w1, L.length, ⟨0, rfl, Nat.zero_le _, rfl, fun _ _ _ _ h => absurd h (Nat.not_lt_zero _), Ext.refl _ _⟩, ?_⟩
  rintro m st w3 ⟨i, rfl, hi, rfl, hs, e3⟩
  unfold S7L4
  rw [hlen]
  refine Br.dec (fun q => ?_) fun q => ⟨q1, ?_⟩
  · have hil : i < L.length := by omega
    have gi : L[i]? = some L[i] := List.getElem?_eq_getElem hil
    generalize L[i] = x at *
    refine ⟨fun m st w1 => ∃ k : Nat, st = (k : Int) ∧ k ≤ i ∧ m = i - k ∧ (∀ (k' : Nat) (y : Sg), k' < k → L[k']? = some y → okP x y) ∧ Ext (fun _ => False) w w1, i, ⟨0, rfl, Nat.zero_le _, rfl, fun _ _ h => absurd h (Nat.not_lt_zero _), e3⟩, ?_⟩
    rintro m st w6 ⟨k, rfl, hk, rfl, hs2, e6⟩
    unfold S7L1
    rw [hlen]
    refine Br.dec (fun q1 => ?_) fun q1 => ?_
    · have hkl : k < L.length := by omega
      have gk : L[k]? = some L[k] := List.getElem?_eq_getElem hkl
      have hR := hG.row.keep e6.drew
      have E := e6.drew
      generalize L[k] = y at *
      have hlv : C8 w6.drew fun r w1 => r = true ∧ Ext (fun _ => False) w w1 := c_livesT E
      have next : okP x y → ∃ n', n' < i - k ∧ ∃ k_1 : Nat, IntKind.i64.wrap ((k : Int) + 1) = (k_1 : Int) ∧ k_1 ≤ i ∧ n' = i - k_1 ∧ (∀ (k' : Nat) (y : Sg), k' < k_1 → L[k']? = some y → okP x y) ∧ Ext (fun _ => False) w w6.drew := fun h =>
        ⟨i - (k + 1), by omega, k + 1, by rw [i64_id (by omega)]; rfl, by omega, rfl, fun k' y' hk' g' => by
          by_cases e : k' = k
          · subst e
            rw [gk] at g'
            cases g'
            exact h
          · exact hs2 k' y' (by omega) g', e6.drew⟩
      obtain ⟨a, ha, _⟩ := VRow.elem gcells_len hR gi (by decide)
      have b1 : (0 : Int) ≤ (i : Int) := by omega
      have b2 : (i : Int) < ((L.length : Nat) : Int) := by omega
      have b3 : (0 : Int) ≤ (k : Int) := by omega
      have b4 : (k : Int) < ((L.length : Nat) : Int) := by omega
      have chain : ∀ {S : World → Prop}, (∀ w, S w → VRow w s 9 (L.flatMap gcells)) → ((x.s.data.toList ≠ [] → y.s.data.toList ≠ [] → ¬ (x.fx = y.fx ∧ x.fy = y.fy) ∧ (x.fy = y.fy → x.hi = y.hi))) → _ := fun {S} hS hxy => list_chain (i := i) (k := k) (I := fun (a : Int) (w' : World) => ∃ n', n' < i - k ∧ ∃ k_1 : Nat, a = (k_1 : Int) ∧ k_1 ≤ i ∧ n' = i - k_1 ∧ (∀ (k' : Nat) (y : Sg), k' < k_1 → L[k']? = some y → okP x y) ∧ Ext (fun _ => False) w w') hS hR gi gk hlv fun h1 h2 h3 h4 => next ⟨hxy, h1, h2, h3, h4⟩
      refine ⟨fun w' => VRow w' s 9 (L.flatMap gcells), hR, b1, b2, ?_⟩
      have hs1 : ∀ {j : Nat} {v : Value}, (gcells x)[j]? = some v → ∀ w', VRow w' s 9 (L.flatMap gcells) → w'.cell? (a.add (i * 9 + j)) = some v := fun hj w' h => gcell_at gi ha h hj
      have hs3 : ∀ {j : Nat} {v : Value}, (gcells y)[j]? = some v → ∀ w', VRow w' s 9 (L.flatMap gcells) → w'.cell? (a.add (k * 9 + j)) = some v := fun hj w' h => gcell_at gk ha h hj
      conv => arg 1; rw [ha]
      refine Nn.of (ldS_mk (x := x.s) (fun w' h => by rw [add_add', Int.toNat_natCast]; exact hs1 rfl w' h) ?_)
      by_cases h1 : x.s.data.toList = []
      · exact Br.f (eqB h1) (chain (fun _ h => h) fun h => absurd h1 h)
      refine Br.t (neB h1) ⟨b3, b4, ?_⟩
      conv => arg 1; rw [ha]
      refine Nn.of (ldS_mk (x := y.s) (fun w' h => by rw [add_add', Int.toNat_natCast]; exact hs3 rfl w' h) ?_)
      by_cases h2 : y.s.data.toList = []
      · exact Br.f (eqB h2) (chain (fun _ h => h) fun _ h => absurd h2 h)
      refine Br.t (neB h2) ⟨b1, b2, ?_⟩
      conv => arg 1; rw [ha]
      refine Nn.of (ldS_mk (x := x.fx) (fun w' h => by rw [add_add', Int.toNat_natCast]; exact hs1 rfl w' h) (ldS_mk (x := x.fy) (fun w' h => by rw [add_add', add_add', Int.toNat_natCast]; exact hs1 rfl w' h) ⟨b3, b4, ?_⟩))
      conv => arg 1; rw [ha]
      refine Nn.of (ldS_mk (x := y.fx) (fun w' h => by rw [add_add', Int.toNat_natCast]; exact hs3 rfl w' h) (ldS_mk (x := y.fy) (fun w' h => by rw [add_add', add_add', Int.toNat_natCast]; exact hs3 rfl w' h) ?_))
      by_cases h3 : x.fx = y.fx ∧ x.fy = y.fy
      · exact Br.t (by rw [h3.1, h3.2]; simp) ⟨fun _ => True, trivial, fun _ => True, trivial, fun _ => True, trivial, hlv⟩
      refine Br.f (by
        rw [Bool.and_true]
        by_cases e : x.fx = y.fx
        · have : x.fy ≠ y.fy := fun e2 => h3 ⟨e, e2⟩
          simp [this]
        · simp [e]) ⟨b1, b2, ?_⟩
      conv => arg 1; rw [ha]
      refine Nn.of (ldS_mk (x := x.fy) (fun w' h => by rw [add_add', add_add', Int.toNat_natCast]; exact hs1 rfl w' h) ⟨b3, b4, ?_⟩)
      conv => arg 1; rw [ha]
      refine Nn.of (ldS_mk (x := y.fy) (fun w' h => by rw [add_add', add_add', Int.toNat_natCast]; exact hs3 rfl w' h) ?_)
      refine Br.eq (fun h4 => ⟨b1, b2, ?_⟩) fun h4 => chain (fun _ h => h) fun _ _ => ⟨h3, fun h => absurd h h4⟩
      conv => arg 1; rw [ha]
      refine Nn.of (ldS_mk (x := x.hi) (fun w' h => by rw [add_add', Int.toNat_natCast]; exact hs1 rfl w' h) ⟨b3, b4, ?_⟩)
      conv => arg 1; rw [ha]
      refine Nn.of (ldS_mk (x := y.hi) (fun w' h => by rw [add_add', Int.toNat_natCast]; exact hs3 rfl w' h) ?_)
      refine Br.ne (fun _ => ⟨fun _ => True, trivial, fun _ => True, trivial, fun _ => True, trivial, hlv⟩) fun h5 => chain (fun _ h => h) fun _ _ => ⟨h3, fun _ => h5⟩
    · have : k = i := by omega
      subst this
      refine ⟨L.length - (k + 1), by omega, k + 1, by rw [i64_id (by omega)]; rfl, by omega, rfl, fun i' k' x' y' h1 h2 g1 g2 => ?_, e6⟩
      by_cases e : i' = k
      · subst e
        rw [gi] at g1
        cases g1
        exact hs2 k' y' h2 g2
      · exact hs i' k' x' y' (by omega) h2 g1 g2
  · have : i = L.length := by omega
    subst this
    have hO : Okl L := fun i k x y h g1 g2 => hs i k x y (List.getElem?_eq_some_iff.1 g1).1 h g1 g2
    have hn0 : 0 < L.length := by omega
    have hc : t % L.length < L.length := Nat.mod_lt _ hn0
    have hrl := rv_len L (t % L.length)
    have et : IntKind.i64.wrap (t : Int) = (t : Int) := i64_id (by omega)
    have em : Int.tmod (t : Int) ((L.length : Nat) : Int) = ((t % L.length : Nat) : Int) := by rw [tmod_id (by omega)]; rfl
    refine ⟨fun m st w1 => ∃ i : Nat, st.2 = (i : Int) ∧ i ≤ L.length ∧ m = L.length - i ∧ Row w1 st.1 32 9 (((rv L (t % L.length)).take i).flatMap gcells) ∧ (∀ j, st.1.own j → w3.heap.size ≤ j) ∧ Ext (fun _ => False) w3 w1, L.length, ⟨0, rfl, Nat.zero_le _, rfl, Row.nil _ _ _, fun j hj => (no_own j hj).elim, Ext.refl _ _⟩, ?_⟩
    rintro m ⟨so, i'⟩ w5 ⟨i, hi', hi, rfl, hR, ho, e5⟩
    simp only at hi' hR ho
    subst hi'
    unfold S7L3
    dsimp only
    rw [hlen]
    refine Br.dec (fun q => ?_) fun q => ?_
    · have hil : i < L.length := by omega
      have e1 : IntKind.i64.wrap ((IntKind.i64.wrap ((IntKind.i64.wrap (2 * ((L.length : Nat) : Int))) - 1)) - (i : Int)) = ((2 * L.length - 1 - i : Nat) : Int) := by
        rw [i64_id (n := 2 * ((L.length : Nat) : Int)) (by omega), i64_id (n := 2 * ((L.length : Nat) : Int) - 1) (by omega), i64_id (by omega)]
        omega
      have e2 : Int.tmod (IntKind.i64.wrap (((2 * L.length - 1 - i : Nat) : Int) + ((t % L.length : Nat) : Int))) ((L.length : Nat) : Int) = (((2 * L.length - 1 - i + t % L.length) % L.length : Nat) : Int) := by
        rw [i64_id (by omega), ← Int.natCast_add, tmod_id (by omega)]
        rfl
      rw [e1, et, em]
      refine Lt.of ⟨q1, Lt.of ?_⟩
      rw [e2]
      have hj : (2 * L.length - 1 - i + t % L.length) % L.length < L.length := Nat.mod_lt _ hn0
      have hat := rv_at hc hil
      have hil2 : i < (rv L (t % L.length)).length := by omega
      have htk := take_one hil2
      rw [List.getElem?_eq_getElem hil2] at hat
      have hmem := List.getElem_mem hil2
      generalize (rv L (t % L.length))[i] = g at *
      generalize (2 * L.length - 1 - i + t % L.length) % L.length = j at *
      obtain ⟨a, ha, hcl⟩ := VRow.elem gcells_len (hG.row.keep (e3.tr e5)) hat.symm (by decide)
      refine ⟨by omega, by omega, ?_⟩
      rw [ha, Int.toNat_natCast]
      refine Nn.of (ldGA (g := g) (fun k v hk => by rw [add_add']; exact hcl k v hk) (Nw.of ?_))
      have e6 := (Ext.refl (fun _ => False) w5).alloc (.cells (gcells g).toArray 32)
      have hso : so.len = ((rv L (t % L.length)).take i).length := VRow.count gcells_len (by decide) (Row.view hR)
      rw [List.length_take] at hso
      obtain ⟨s', w', hrun, hrow, hlen', hext, hown⟩ := elG.app1 (ty := 22) (ys := gcells g) (hR.keep e6 fun _ _ e => e) (Blk.new w5 (gcells g).toArray 32) rfl (gcells_one _) (by omega) (by omega)
      have E2 := e5.tr e6
      refine ⟨s', w', hrun, L.length - (i + 1), by omega, i + 1, by rw [i64_id (by omega)]; rfl, by omega, rfl, ?_, fun j hj => ?_, ext_new E2 hext ho⟩
      · rw [htk, List.flatMap_append]
        simpa using hrow
      · rcases hown j hj with e | e
        · exact ho j e
        · have := E2.size
          omega
    · have : i = L.length := by omega
      subst this
      rw [List.take_of_length_le (Nat.le_of_eq hrl)] at hR
      have E := e3.tr e5
      refine (c_Lines (hG.keep E)).mono ?_
      rintro r7 w7 ⟨⟨ss, hA⟩, e7⟩
      have hG2 : GsV w7 so (rv L (t % L.length)) := ⟨(Row.view hR).keep e7, fun y hy => hG.ok y ((rv_perm L _).mem_iff.1 hy), by rw [lets_perm (rv_perm L _)]; exact hG.lets, by rw [hrl]; exact hmost⟩
      refine (c_Lines hG2).mono ?_
      rintro r8 w8 ⟨⟨tt, hB⟩, e8⟩
      exact list_end (hG.keep (E.tr (e7.tr e8))) hO (hA.keep e8) hB (E.tr (e7.tr e8))
theorem c_ListU {w : World} {s : Slc} {L : List Sg} {a : Int} (hG : GsV w s L) (ha : (Lit.int .u8 a).wf = true) : C7 s a w fun r w1 => r = true ∧ Ext (fun _ => False) w w1 := by
  have h := wf_u8 ha
  have e : a = ((a.toNat : Nat) : Int) := by omega
  rw [e]
  exact c_List hG (by omega)
end Rdg
end Go.Proofs.YtodhdkbhmkinjaaDoor
