/- Great structs in memory: read and written as one. Conditions: none. -/
import Derived.Test.YtpkadliieplblaaDoorEl
namespace Go.Proofs.YtpkadliieplblaaDoor
namespace Sh
set_option linter.unusedVariables false
set_option linter.unusedSimpArgs false
theorem Sig.cells_len : ∀ (ts : List Ty1) (x : Sig ts), (Sig.cells ts x).length = ts.length
  | [], _ => rfl
  | [t], _ => rfl
  | t :: u :: r, x => by
    show (_ :: Sig.cells (u :: r) x.2).length = _
    rw [List.length_cons, Sig.cells_len (u :: r) x.2]
    rfl
theorem LdT.mk {w : World} {b o : Nat} : ∀ (ts : List Ty1) (i : Nat) (x : Sig ts) (K : Sig ts → Prop), (∀ j v, (Sig.cells ts x)[j]? = some v → w.cell? ⟨b, o + i + j, none⟩ = some v) → K x → LdT w ⟨b, o, none⟩ i ts K
  | [], _, _, _, _, k => k
  | [t], i, x, K, h, k => by
    have h0 := h 0 (t.v x) rfl
    refine Ld.mk (x := x) ?_ k
    rw [add_lit]
    exact h0
  | t :: u :: r, i, x, K, h, k => by
    have h0 := h 0 (t.v x.1) rfl
    refine Ld.mk (x := x.1) ?_ (LdT.mk (u :: r) (i + 1) x.2 (fun y => K (x.1, y)) (fun j v hj => ?_) k)
    · rw [add_lit]
      exact h0
    · have := h (j + 1) v hj
      rw [show o + (i + 1) + j = o + i + (j + 1) by omega]
      exact this
theorem LdST.mk {S : World → Prop} {b o : Nat} : ∀ (ts : List Ty1) (i : Nat) (x : Sig ts) (K : Sig ts → Prop), (∀ w, S w → ∀ j v, (Sig.cells ts x)[j]? = some v → w.cell? ⟨b, o + i + j, none⟩ = some v) → K x → LdST S ⟨b, o, none⟩ i ts K
  | [], _, _, _, _, k => k
  | [t], i, x, K, h, k => ⟨x, fun w hw => by rw [add_lit]; exact h w hw 0 (t.v x) rfl, k⟩
  | t :: u :: r, i, x, K, h, k => ⟨x.1, fun w hw => by rw [add_lit]; exact h w hw 0 (t.v x.1) rfl, LdST.mk (u :: r) (i + 1) x.2 (fun y => K (x.1, y)) (fun w hw j v hj => by
      have := h w hw (j + 1) v hj
      rw [show o + (i + 1) + j = o + i + (j + 1) by omega]
      exact this) k⟩
theorem cells_blk {w : World} {b : Nat} {pre post : List Value} {t : TypeId} {ts : List Ty1} {x : Sig ts} (h : Blk w b (pre ++ (Sig.cells ts x ++ post)).toArray t) {j : Nat} {v : Value} (hj : (Sig.cells ts x)[j]? = some v) : w.cell? ⟨b, pre.length + j, none⟩ = some v := by
  have hl := (List.getElem?_eq_some_iff.1 hj).1
  rw [h.cell, List.getElem?_toArray, List.getElem?_append_right (by omega), Nat.add_sub_cancel_left, List.getElem?_append_left hl]
  exact hj
theorem LdT.blk {w : World} {b o : Nat} {pre post : List Value} {t : TypeId} {ts : List Ty1} {x : Sig ts} {K : Sig ts → Prop} (h : Blk w b (pre ++ (Sig.cells ts x ++ post)).toArray t) (ho : pre.length = o) (k : K x) : LdT w ⟨b, o, none⟩ 0 ts K :=
  LdT.mk ts 0 x K (fun j v hj => by rw [← ho]; exact cells_blk h hj) k
theorem LdST.blk {S : World → Prop} {b o : Nat} {pre post : List Value} {t : TypeId} {ts : List Ty1} {x : Sig ts} {K : Sig ts → Prop} (h : ∀ w, S w → Blk w b (pre ++ (Sig.cells ts x ++ post)).toArray t) (ho : pre.length = o) (k : K x) : LdST S ⟨b, o, none⟩ 0 ts K :=
  LdST.mk ts 0 x K (fun w hw j v hj => by rw [← ho]; exact cells_blk (h w hw) hj) k
theorem StT.of {b o : Nat} : ∀ (ts : List Ty1) (i : Nat) (x : Sig ts) (w : World) (K : World → Prop), StL b (o + i) (Sig.cells ts x) w K → StT ⟨b, o, none⟩ i ts x w K
  | [], _, _, _, _, h => h
  | [t], i, x, w, K, h => by
    show St w ((⟨b, o, none⟩ : Addr).add i) (t.v x) K
    rw [add_lit]
    exact h
  | t :: u :: r, i, x, w, K, h => by
    show St w ((⟨b, o, none⟩ : Addr).add i) (t.v x.1) fun w' => StT ⟨b, o, none⟩ (i + 1) (u :: r) x.2 w' K
    rw [add_lit]
    obtain ⟨h1, h2⟩ := h
    exact ⟨h1, StT.of (u :: r) (i + 1) x.2 _ K h2⟩
theorem Hn.stT {w0 w : World} {L : List (Nat × List Value × TypeId)} {b o : Nat} {t : TypeId} {i : Nat} {pre zs post : List Value} {ts : List Ty1} {x : Sig ts} {K : World → Prop} (h : Hn w0 w L) (hi : L[i]? = some (b, pre ++ (zs ++ post), t)) (ho : pre.length = o) (hz : zs.length = ts.length)
    (k : ∀ w2, Hn w0 w2 (L.set i (b, pre ++ (Sig.cells ts x ++ post), t)) → K w2) : StT ⟨b, o, none⟩ 0 ts x w K :=
  StT.of ts 0 x w K (Hn.stL (Sig.cells ts x) zs pre post (o + 0) w h hi ho (by rw [Sig.cells_len]; exact hz) k)
theorem Hn.ldT {w0 w : World} {L : List (Nat × List Value × TypeId)} {b o : Nat} {t : TypeId} {i : Nat} {pre post : List Value} {ts : List Ty1} {x : Sig ts} {K : Sig ts → Prop} (h : Hn w0 w L) (hi : L[i]? = some (b, pre ++ (Sig.cells ts x ++ post), t)) (ho : pre.length = o) (k : K x) : LdT w ⟨b, o, none⟩ 0 ts K :=
  LdT.blk (h.get i hi) ho k
/-- One cell after another of an old block is stored. -/
theorem stL_blk {b : Nat} {t : TypeId} {K : World → Prop} : ∀ (vs zs pre post : List Value) (o : Nat) (w : World), Blk w b (pre ++ (zs ++ post)).toArray t → pre.length = o → zs.length = vs.length → (∀ w2, Blk w2 b (pre ++ (vs ++ post)).toArray t → Ext (· = b) w w2 → K w2) → StL b o vs w K
  | [], zs, pre, post, o, w, h, ho, hz, k => by
    have : zs = [] := List.eq_nil_of_length_eq_zero hz
    subst this
    exact k w h (Ext.refl _ _)
  | v :: vs, [], pre, post, o, w, h, ho, hz, k => by cases hz
  | v :: vs, z :: zs, pre, post, o, w, h, ho, hz, k => by
    refine ⟨h.can (by rw [List.size_toArray, ← ho]; simp), ?_⟩
    have h2 := h.set o v
    have e : (pre ++ (z :: zs ++ post)).set o v = (pre ++ [v]) ++ (zs ++ post) := by
      rw [← ho, List.cons_append, set_at]
      simp
    rw [List.setIfInBounds_toArray, e] at h2
    refine stL_blk vs zs (pre ++ [v]) post (o + 1) _ h2 (by simp [ho]) (by simpa using hz) fun w3 h3 e3 => k w3 (by simpa using h3) (((Ext.refl (· = b) w).set (.inl rfl) v).tr e3)
theorem StT.blk {w : World} {b o : Nat} {t : TypeId} {pre zs post : List Value} {ts : List Ty1} {x : Sig ts} {K : World → Prop} (h : Blk w b (pre ++ (zs ++ post)).toArray t) (ho : pre.length = o) (hz : zs.length = ts.length)
    (k : ∀ w2, Blk w2 b (pre ++ (Sig.cells ts x ++ post)).toArray t → Ext (· = b) w w2 → K w2) : StT ⟨b, o, none⟩ 0 ts x w K :=
  StT.of ts 0 x w K (stL_blk (Sig.cells ts x) zs pre post (o + 0) w h ho (by rw [Sig.cells_len]; exact hz) k)
end Sh
end Go.Proofs.YtpkadliieplblaaDoor
