/- TopRemarks: the law. No condition. -/
import Derived.Test.YtpkadliieplblaaDoorTkH
import Derived.Test.YtpkadliieplblaaDoorFnTk
namespace Go.Proofs.YtpkadliieplblaaDoor
namespace Tk
open Sh Fix Go.Lib
set_option linter.unusedVariables false
set_option linter.unusedSimpArgs false
set_option maxRecDepth 8000
set_option maxHeartbeats 4000000
theorem TkText.len {n : Int} {T W P : By} (h : TkText n T W P) : T.length ≤ 12 ∧ 1 ≤ T.length := by
  have hf := (fr_fill h.p h.p4).2.2.2
  have w6 := h.w6
  rw [h.t, List.length_append, List.length_append, List.length_cons]
  split <;> simp <;> omega
theorem TkText.skip {n : Int} {T W P l : By} (h : TkText n T W P) : skipL (T ++ l) false = 0 := by
  have hl := h.len.2
  cases T with
  | nil => simp at hl
  | cons c T' => exact reg_skip (h.reg c (List.mem_cons_self ..))
theorem drop_len {A B : By} {k : Nat} (h : A.length = k) : (A ++ B).drop k = B := by
  rw [← h, List.drop_append]
  simp
theorem toks_one {n : Int} {T W P : By} {s : ByteArray} (h : TkText n T W P) (hn : inW n = true) (hs : bl s = T ++ 32 :: T) :
    Toks s 0 [(2, ((0 : Nat) : Int), ((0 + T.length : Nat) : Int), n, ⟨#[]⟩), (2, ((T.length + 1 : Nat) : Int), ((T.length + 1 + T.length : Nat) : Int), n, ⟨#[]⟩)] := by
  obtain ⟨l12, _⟩ := h.len
  have sz : s.size = T.length + 1 + T.length := by rw [← bl_size, hs, List.length_append, List.length_cons]; omega
  have d1 : (bl s).drop T.length = 32 :: T := by rw [hs]; exact drop_len rfl
  have d2 : (bl s).drop (T.length + 1) = T := by rw [← List.drop_drop, d1]; rfl
  have d3 : (bl s).drop (T.length + 1 + T.length) = [] := List.drop_of_length_le (by rw [bl_size]; omega)
  refine toks_real h hn (by omega) (by omega) (b := 0) ?_ (rest := 32 :: T) (by rw [hs]; rfl) (fun c hc => by cases hc; rfl) ?_
  · rw [List.drop_zero, hs, h.skip]
  rw [Nat.zero_add]
  refine toks_real h hn (by omega) (by omega) (b := T.length + 1) ?_ (rest := []) (by rw [d2, List.append_nil]) (fun c hc => by cases hc) ?_
  · rw [d1]
    show T.length + (if (32 : UInt8) = 37 then _ else if whB 32 = true then 1 + skipL T false else 0) = _
    rw [if_neg (by decide), if_pos (by decide)]
    have := @TkText.skip n T W P [] h
    rw [List.append_nil] at this
    omega
  exact toks_end (by omega) (by omega) (by rw [d3]; show _ + 0 = _; omega)
theorem toks_two {n : Int} {T W P R : By} {s : ByteArray} (h : TkText n T W P) (hn : inW n = true) (hR : ∀ c ∈ R, c ≠ 13 ∧ c ≠ 10) (hl : R.length ≤ 300) (hs : bl s = T ++ 37 :: (R ++ 10 :: (T ++ 37 :: R))) :
    Toks s 0 [(2, ((0 : Nat) : Int), ((0 + T.length : Nat) : Int), n, ⟨#[]⟩), (2, ((T.length + R.length + 2 : Nat) : Int), ((T.length + R.length + 2 + T.length : Nat) : Int), n, ⟨#[]⟩)] := by
  obtain ⟨l12, _⟩ := h.len
  have sz : s.size = T.length + R.length + 2 + T.length + 1 + R.length := by rw [← bl_size, hs]; simp only [List.length_append, List.length_cons]; omega
  have d1 : (bl s).drop T.length = 37 :: (R ++ 10 :: (T ++ 37 :: R)) := by rw [hs]; exact drop_len rfl
  have d2 : (bl s).drop (T.length + R.length + 2) = T ++ 37 :: R := by
    rw [show T.length + R.length + 2 = T.length + (1 + (R.length + 1)) by omega, ← List.drop_drop, d1, ← List.drop_drop]
    show (R ++ 10 :: (T ++ 37 :: R)).drop (R.length + 1) = _
    rw [← List.drop_drop, drop_len rfl]
    rfl
  have d3 : (bl s).drop (T.length + R.length + 2 + T.length) = 37 :: R := by rw [← List.drop_drop, d2]; exact drop_len rfl
  refine toks_real h hn (by omega) (by omega) (b := 0) ?_ (rest := 37 :: (R ++ 10 :: (T ++ 37 :: R))) (by rw [hs]; rfl) (fun c hc => by cases hc; rfl) ?_
  · rw [List.drop_zero, hs, h.skip]
  rw [Nat.zero_add]
  refine toks_real h hn (by omega) (by omega) (b := T.length + R.length + 2) ?_ (rest := 37 :: R) d2 (fun c hc => by cases hc; rfl) ?_
  · rw [d1]
    show T.length + (if (37 : UInt8) = 37 then 1 + skipL (R ++ 10 :: (T ++ 37 :: R)) true else _) = _
    rw [if_pos rfl, skip_remark hR, h.skip]
    omega
  refine toks_end (by omega) (by omega) ?_
  rw [d3]
  show _ + (if (37 : UInt8) = 37 then 1 + skipL R true else _) = _
  rw [if_pos rfl, skip_remark_end hR]
  omega
theorem text5 {T W P : By} (h : TkText 5 T W P) (hw : W.length ≤ 1) : T = [48, 46, 48, 48, 48, 53] := by
  have d48 : allDig [48] := fun c hc => by rw [List.mem_singleton.1 hc]; unfold isDig; decide
  have e1 : W = [48] := dval_inj h.w d48 (by have := h.w1; show W.length = 1; omega) (by rw [h.wv]; rfl)
  have e2 : P = [48, 48, 48, 53] := dval_inj h.p (fun c hc => by
    simp only [List.mem_cons, List.not_mem_nil, or_false] at hc
    rcases hc with rfl | rfl | rfl | rfl <;> (unfold isDig; decide)) (by rw [h.p4]; rfl) (by rw [h.pv]; rfl)
  rw [h.t, e1, e2]
  decide
section
variable {w w' w1 : World} {rm : ByteArray}
attribute [local irreducible] Ld Sh.St Nw Nn Lt LdS
theorem remarks_law (n : Int) (rm : ByteArray) (w : World) : C3 n rm w fun r w1 => r = true ∧ Ext (fun _ => False) w w1 := by
  refine T3 _ _ _ _ ?_
  unfold S3
  refine (c_textk (n := 5) (k := 1) (by decide) (by decide) (by decide) (by decide) w).mono ?_
  rintro r w2 ⟨⟨W5, P5, h5, h51⟩, e2⟩
  rw [eqL]
  have : decide (r.data.toList = (⟨#[48, 46, 48, 48, 48, 53]⟩ : ByteArray).data.toList) = true := decide_eq_true (text5 h5 h51)
  rw [this]
  refine Br.f rfl (Br.dec (fun _ => ⟨rfl, e2⟩) fun hrm => ?_)
  have hsz : rm.size ≤ 300 := by omega
  have hbl := bl_size rm
  refine ⟨fun c st v => ∃ i : Nat, st = (i : Int) ∧ i ≤ rm.size ∧ c = rm.size - i ∧ v = w2 ∧ ∀ j c, j < i → (bl rm)[j]? = some c → c ≠ 13 ∧ c ≠ 10, rm.size, ⟨0, rfl, by omega, rfl, rfl, fun j c h => by omega⟩, ?_⟩
  rintro c st v ⟨i, rfl, hi, rfl, rfl, hall⟩
  unfold S3L1
  refine Br.dec (fun q => ⟨by omega, by omega, ?_⟩) fun q => ?_
  · have hc := byte_at (t := bl rm) (i := i) (by omega)
    generalize (bl rm).getD i 0 = c at hc
    rw [bAt_bl hc]
    refine Br.eq (fun _ => ⟨rfl, e2⟩) fun h13 => ⟨by omega, by omega, Br.eq (fun _ => ⟨rfl, e2⟩) fun h10 => ?_⟩
    refine ⟨rm.size - (i + 1), by omega, i + 1, by rw [i64_id (by omega)]; rfl, by omega, rfl, rfl, fun j d hj hd => ?_⟩
    by_cases hji : j = i
    · subst hji
      rw [hc] at hd
      cases hd
      exact ⟨fun e => h13 (by rw [e]; rfl), fun e => h10 (by rw [e]; rfl)⟩
    · exact hall j d (by omega) hd
  have hR : ∀ c ∈ bl rm, c ≠ 13 ∧ c ≠ 10 := fun c hc => by
    obtain ⟨j, hj⟩ := List.mem_iff_getElem?.1 hc
    have := (List.getElem?_eq_some_iff.1 hj).1
    exact hall j c (by omega) hj
  clear hall
  refine (c_real n v).mono ?_
  rintro t e w3 ⟨ht, e3⟩
  rcases ht with ⟨rfl, hn, W, P, hT⟩ | ⟨rfl, _⟩
  rotate_left
  · exact Br.ne (fun _ => ⟨rfl, e2.tr e3⟩) fun h => absurd h (by decide)
  refine Br.ne (fun h => absurd rfl h) fun _ => ?_
  obtain ⟨t12, t1⟩ := hT.len
  rw [bl_size] at t12 t1
  have mx : IntKind.i64.max = 9223372036854775807 := by decide
  have z1 : (⟨#[32]⟩ : ByteArray).size = 1 := rfl
  have z2 : (⟨#[37]⟩ : ByteArray).size = 1 := rfl
  have z3 : (⟨#[10]⟩ : ByteArray).size = 1 := rfl
  refine ⟨by omega, by simp only [ByteArray.size_append]; omega, ?_⟩
  refine (c_all (toks_one (s := (t ++ (⟨#[32]⟩ : ByteArray)) ++ t) hT hn (by rw [bl_app, bl_app]; simp; rfl)) (by simp) w3).mono ?_
  rintro r14 r15 w4 ⟨v14, rfl, e4⟩
  refine (Hn.start w4).nw (cs := [.int .i64 0, .int .i64 0]) fun w5 H => ?_
  simp only [List.nil_append, add_lit, Nat.zero_add] at H ⊢
  iterate 2 (refine H.st 0 rfl (by simp) fun _ H => ?_; simp only [List.set_cons_zero, List.set_cons_succ] at H)
  refine ⟨by omega, by simp only [ByteArray.size_append]; omega, by simp only [ByteArray.size_append]; omega, by simp only [ByteArray.size_append]; omega, by simp only [ByteArray.size_append]; omega, Lt.of ⟨by simp only [ByteArray.size_append]; omega, ?_⟩⟩
  refine (c_all (toks_two (R := bl rm) hT hn hR (by omega) (by simp only [bl_app]; simp; rfl)) (by simp) _).mono ?_
  rintro r21 r22 w6 ⟨v21, rfl, e6⟩
  have H := H.keep e6
  have v14 := v14.keep H.ext
  have b1 := H.get 0 rfl
  have E6 := ((e2.tr e3).tr e4).tr H.ext
  clear H
  refine (Hn.start w6).nw (cs := [.int .i64 0, .int .i64 0]) fun w7 H => ?_
  simp only [List.nil_append] at H
  iterate 2 (refine H.st 0 rfl (by simp) fun _ H => ?_; simp only [List.set_cons_zero, List.set_cons_succ] at H)
  have H := H.drew
  have b1 := H.ext.blk b1 id
  have v14 := v14.keep H.ext
  have v21 := v21.keep H.ext
  have EF := E6.tr H.ext
  have n14 : r14.len = 2 := v14.1
  have n21 : r21.len = 2 := v21.1
  obtain ⟨a, ha, hc0⟩ := v14.get (i := 0) rfl
  obtain ⟨a', ha', hc1⟩ := v14.get (i := 1) rfl
  rw [ha] at ha'
  cases ha'
  obtain ⟨d, hd, hd0⟩ := v21.get (i := 0) rfl
  obtain ⟨d', hd', hd1⟩ := v21.get (i := 1) rfl
  rw [hd] at hd'
  cases hd'
  refine Ld.of b1 rfl (Br.t rfl (H.ld 0 rfl rfl (Br.t rfl ?_)))
  rw [n14, n21, ha, hd]
  refine Br.t rfl (Br.t rfl ⟨by decide, by decide, Nn.of (Ld.mk (x := n) (hc0 3 _ rfl) ⟨by decide, by decide, Nn.of (Ld.mk (x := n) (hd0 3 _ rfl) (Br.t (by simp) ⟨by decide, by decide, Nn.of (Ld.mk (x := n) (hc1 3 _ rfl) ⟨by decide, by decide, Nn.of (Ld.mk (x := n) (hd1 3 _ rfl) (Br.t (by simp)
    ⟨by decide, by decide, Nn.of (Ld.mk (x := n) (hd0 3 _ rfl) (Br.t (by simp) ⟨by decide, by decide, Nn.of (Ld.mk (x := (((bl t).length + (bl rm).length + 2 : Nat) : Int)) (hd1 1 _ rfl) (Lt.of ⟨?_, EF⟩))⟩))⟩))⟩)⟩))⟩)⟩)
  rw [i64_id (n := ((t.size : Nat) : Int) + ((rm.size : Nat) : Int)) (by omega), i64_id (by omega), bl_size, bl_size]
  simp
end
end Tk
end Go.Proofs.YtpkadliieplblaaDoor
