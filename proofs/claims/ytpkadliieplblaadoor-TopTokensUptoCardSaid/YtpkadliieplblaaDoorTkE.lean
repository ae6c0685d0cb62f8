/- The lexer: bytes, Skip, runs, classes, words. Conditions: sizes. -/
import Derived.Test.YtpkadliieplblaaDoorTkD
import Derived.Test.YtpkadliieplblaaDoorFnLex
namespace Go.Proofs
open Go.Shelf Go.RowKit
end Go.Proofs
namespace Go.Proofs.YtpkadliieplblaaDoor
namespace Tk
open Sh Fix Go.Lib
set_option linter.unusedVariables false
set_option linter.unusedSimpArgs false
set_option maxRecDepth 8000
set_option maxHeartbeats 4000000
abbrev TT : Type := Int × Int × Int × Int × ByteArray
def tokr (t : TT) : List Value := [.int .i64 t.1, .int .i64 t.2.1, .int .i64 t.2.2.1, .int .i64 t.2.2.2.1, .string t.2.2.2.2]
theorem bAt_bl {s : ByteArray} {i : Nat} {c : UInt8} (h : (bl s)[i]? = some c) : bAt s (i : Int) = (c.toNat : Int) := by
  obtain ⟨hi, e⟩ := List.getElem?_eq_some_iff.1 h
  unfold bAt
  rw [Int.toNat_natCast]
  have hs : i < s.data.size := by simpa [bl] using hi
  rw [Array.getD_eq_getD_getElem?, Array.getElem?_eq_getElem hs]
  simp only [Option.getD_some]
  have : s.data[i] = c := by rw [← e]; rfl
  rw [this]
theorem drop_c {l : By} {i : Nat} {c : UInt8} (h : l[i]? = some c) : l.drop i = c :: l.drop (i + 1) := by
  obtain ⟨hi, e⟩ := List.getElem?_eq_some_iff.1 h
  rw [List.drop_eq_getElem_cons hi, e]
section
variable {w w' w1 : World} {s t : ByteArray}
attribute [local irreducible] Ld Sh.St Nw Nn Lt LdS
theorem c_ixb (s : ByteArray) (c : UInt8) (w : World) : C22 s (c.toNat : Int) w fun r w1 => r = indexByte (bl s) c ∧ w1 = w :=
  (Tryd.strings_IndexByte s (c.toNat : Int) w).mono fun e w' h => ⟨_, h.1, by rw [Int.toNat_natCast]; congr 1; exact UInt8.toNat_inj.1 (by simp [Nat.toUInt8]), h.2⟩
theorem c_white (c : UInt8) (w : World) : C42 (c.toNat : Int) w fun r w1 => r = whB c ∧ w1 = w := by
  refine T42 _ _ _ ?_
  unfold S42
  refine (c_ixb _ c w).mono ?_
  rintro r w1 ⟨rfl, rfl⟩
  exact ⟨ix_contains _ _, rfl⟩
theorem c_delim (c : UInt8) (w : World) : C24 (c.toNat : Int) w fun r w1 => r = dlB c ∧ w1 = w := by
  refine T24 _ _ _ ?_
  unfold S24
  refine (c_ixb _ c w).mono ?_
  rintro r w1 ⟨rfl, rfl⟩
  exact ⟨ix_contains _ _, rfl⟩
theorem c_reg (c : UInt8) (w : World) : C28 (c.toNat : Int) w fun r w1 => r = regB c ∧ w1 = w := by
  refine T28 _ _ _ ?_
  unfold S28
  refine (c_white c w).mono ?_
  rintro r w1 ⟨rfl, rfl⟩
  unfold regB
  cases whB c with
  | true => exact Br.f rfl ⟨rfl, rfl⟩
  | false =>
    refine Br.t rfl ((c_delim c w1).mono ?_)
    rintro r w2 ⟨rfl, rfl⟩
    exact ⟨by simp, rfl⟩
theorem c_ends (c : UInt8) (w : World) : C53 (c.toNat : Int) w fun r w1 => r = (c == 13 || c == 10) ∧ w1 = w := by
  refine T53 _ _ _ ?_
  unfold S53
  have e : ∀ d : UInt8, ((c.toNat : Int) == (d.toNat : Int)) = (c == d) := fun d => by
    rw [Bool.eq_iff_iff, beq_iff_eq, beq_iff_eq]
    exact ⟨fun h => UInt8.toNat_inj.1 (by omega), fun h => by rw [h]⟩
  have e1 := e 13
  have e2 := e 10
  rw [show ((13 : UInt8).toNat : Int) = 13 from rfl] at e1
  rw [show ((10 : UInt8).toNat : Int) = 10 from rfl] at e2
  rw [e1, e2]
  cases c == 13 with
  | true => exact ⟨rfl, rfl⟩
  | false => exact ⟨by simp, rfl⟩
theorem c_skip (s : ByteArray) {a : Nat} (ha : a ≤ s.size) (hs : s.size ≤ 1099511627776) (w : World) : C36 s (a : Int) w fun r w1 => r = ((a + skipL ((bl s).drop a) false : Nat) : Int) ∧ w1 = w := by
  refine T36 _ _ _ _ ?_
  unfold S36
  refine Br.dec (fun h => by omega) fun _ => Br.dec (fun h => by omega) fun _ => ?_
  refine ⟨fun c st v => ∃ (i : Nat) (b : Bool), st = ((i : Int), b) ∧ i ≤ s.size ∧ i + skipL ((bl s).drop i) b = a + skipL ((bl s).drop a) false ∧ c = s.size - i ∧ v = w, s.size - a, ⟨a, false, rfl, ha, rfl, rfl, rfl⟩, ?_⟩
  rintro c st v ⟨i, b, rfl, hi, he, rfl, rfl⟩
  unfold S36L1
  dsimp only
  refine Br.dec (fun q => ⟨by omega, by omega, ?_⟩) fun q => ?_
  · have hl : i < (bl s).length := by rw [bl_size]; omega
    have hc := byte_at hl
    generalize (bl s).getD i 0 = c at hc
    rw [bAt_bl hc]
    rw [drop_c hc] at he
    rw [i64_id (n := (i : Int) + 1) (by omega)]
    have step : ∀ b', i + 1 + skipL ((bl s).drop (i + 1)) b' = a + skipL ((bl s).drop a) false → ∃ m', m' < s.size - i ∧ ∃ (i2 : Nat) (b2 : Bool), (((i : Int) + 1), b') = ((i2 : Int), b2) ∧ i2 ≤ s.size ∧ i2 + skipL ((bl s).drop i2) b2 = a + skipL ((bl s).drop a) false ∧ m' = s.size - i2 ∧ v = v := fun b' h => ⟨s.size - (i + 1), by omega, i + 1, b', rfl, by omega, h, rfl, rfl⟩
    cases b with
    | true =>
      refine Br.t rfl ((c_ends c v).mono ?_)
      rintro r w1 ⟨rfl, rfl⟩
      refine step _ ?_
      have he : i + (1 + skipL ((bl s).drop (i + 1)) (!(c == 13 || c == 10))) = _ := he
      omega
    | false =>
      refine Br.f rfl ?_
      have he : i + (if c = 37 then 1 + skipL ((bl s).drop (i + 1)) true else if whB c = true then 1 + skipL ((bl s).drop (i + 1)) false else 0) = _ := he
      refine Br.eq (fun h37 => ?_) fun h37 => ?_
      · have : c = 37 := UInt8.toNat_inj.1 (by show c.toNat = 37; omega)
        rw [if_pos this] at he
        exact step _ (by omega)
      · rw [if_neg (fun h => by subst h; exact h37 rfl)] at he
        refine (c_white c v).mono ?_
        rintro r w1 ⟨rfl, rfl⟩
        cases hw : whB c with
        | true =>
          rw [hw, if_pos rfl] at he
          exact Br.f rfl (step _ (by omega))
        | false =>
          rw [hw, if_neg (by decide)] at he
          exact Br.t rfl ⟨by omega, rfl⟩
  · have : i = s.size := by omega
    subst this
    rw [List.drop_of_length_le (by rw [bl_size]; exact Nat.le_refl _)] at he
    have he : s.size + 0 = _ := he
    exact ⟨by omega, rfl⟩
theorem c_begins (s p : ByteArray) {a : Nat} (ha : a ≤ s.size) (w : World) : C47 s p (a : Int) w fun r w1 => r = hasPrefix ((bl s).drop a) (bl p) ∧ w1 = w := by
  refine T47 _ _ _ _ _ ?_
  unfold S47
  refine Br.dec (fun _ => Br.dec (fun _ => ⟨by omega, by omega, (c_pre _ _ w).mono ?_⟩) fun h => absurd (by omega) h) fun h => absurd (by omega) h
  rintro r w1 ⟨rfl, rfl⟩
  refine ⟨?_, rfl⟩
  rw [bl_ext, Int.toNat_natCast, List.take_of_length_le (by rw [List.length_drop, bl_size]; exact Nat.le_refl _)]
theorem c_run (s : ByteArray) (x : Int) {a : Nat} (ha : a ≤ s.size) (hs : s.size ≤ 1099511627776) (w : World) : C70 (s, x) (a : Int) w fun r w1 => r = ((a + runL ((bl s).drop a) : Nat) : Int) ∧ Ext (fun _ => False) w w1 := by
  refine T70 (s, x) _ _ _ ?_
  unfold S70
  refine (Hn.start w).nw (cs := [.string s, .int .i64 x]) fun w2 H => ?_
  refine ⟨fun c st v => ∃ i : Nat, st = (i : Int) ∧ i ≤ s.size ∧ i + runL ((bl s).drop i) = a + runL ((bl s).drop a) ∧ c = s.size - i ∧ Hn w v [(w.heap.size, [.string s, .int .i64 x], 81)], s.size - a, ⟨a, rfl, ha, rfl, rfl, H⟩, ?_⟩
  rintro c st v ⟨i, rfl, hi, he, rfl, H⟩
  unfold S70L1
  refine H.ld 0 rfl rfl (Br.dec (fun q => H.ld 0 rfl rfl ⟨by omega, by omega, ?_⟩) fun q => ?_)
  · have hl : i < (bl s).length := by rw [bl_size]; omega
    have hc := byte_at hl
    generalize (bl s).getD i 0 = c at hc
    rw [bAt_bl hc]
    rw [drop_c hc] at he
    have he : i + (if regB c = true then 1 + runL ((bl s).drop (i + 1)) else 0) = _ := he
    refine (c_reg c v).mono ?_
    rintro r w1 ⟨rfl, rfl⟩
    cases hr : regB c with
    | true =>
      rw [hr, if_pos rfl] at he
      exact Br.t rfl ⟨s.size - (i + 1), by omega, i + 1, by rw [i64_id (by omega)]; rfl, by omega, by omega, rfl, H⟩
    | false =>
      rw [hr, if_neg (by decide)] at he
      exact Br.f rfl ⟨by omega, H.ext⟩
  · have : i = s.size := by omega
    subst this
    rw [List.drop_of_length_le (by rw [bl_size]; exact Nat.le_refl _)] at he
    have he : s.size + 0 = _ := he
    exact ⟨by omega, H.ext⟩
theorem c_trimpm (s : ByteArray) (w : World) : C88 s (⟨#[43, 45]⟩ : ByteArray) w fun r w1 => bl r = trimLeftS (bl s) [43, 45] ∧ Ext (fun _ => False) w w1 :=
  (Tryd.trimL s _ w (by decide) (ascii_of_all (by decide))).mono fun e w' h => ⟨_, h.1, by rw [bl_ba], ext_of_below h.2⟩
theorem c_has1 (s : ByteArray) (c : UInt8) (w : World) : C90 s (⟨#[c]⟩ : ByteArray) w fun r w1 => r = (bl s).contains c ∧ w1 = w :=
  (Tryd.strings_Contains_one s c w).mono fun e w' h => ⟨_, h.1, ix_contains _ _, h.2⟩
theorem c_cls_real {n : Int} {W P : By} (h : TkText n (bl t) W P) (hn : inW n = true) (w : World) : C74 t w fun r w1 => r = 2 ∧ Ext (fun _ => False) w w1 := by
  refine T74 _ _ _ ?_
  unfold S74
  obtain ⟨f1, f2, f3, f4, f5⟩ := fr_fill h.p h.p4
  have w6 := h.w6
  have w1 := h.w1
  have ht := h.t
  have h46 : (46 : UInt8) ∈ W ++ 46 :: frF P := List.mem_append_right _ (List.mem_cons_self ..)
  have htl : trimLeftS (bl t) [43, 45] = W ++ 46 :: frF P := by
    have hd : trimLeftS (W ++ 46 :: frF P) [43, 45] = W ++ 46 :: frF P := by
      cases W with
      | nil => simp at w1
      | cons c0 W' =>
        have hc0 := h.w c0 (List.mem_cons_self ..)
        unfold trimLeftS
        rw [List.cons_append, List.dropWhile_cons, if_neg]
        have : ([43, 45] : By).contains c0 = false := by
          rw [← Bool.not_eq_true, List.contains_iff_mem]
          intro hm
          simp only [List.mem_cons, List.not_mem_nil, or_false] at hm
          rcases hm with rfl | rfl
          · exact absurd hc0.1 (by decide)
          · exact absurd hc0.1 (by decide)
        rw [this]
        decide
    rw [ht]
    split
    · show trimLeftS (45 :: (W ++ 46 :: frF P)) [43, 45] = _
      unfold trimLeftS at hd ⊢
      rw [List.dropWhile_cons, if_pos (by decide)]
      exact hd
    · exact hd
  have hlen : t.size = (if n < 0 then 1 else 0) + (W.length + 1 + (frF P).length) := by
    rw [← bl_size, ht, List.length_append, List.length_append, List.length_cons]
    split <;> simp <;> omega
  refine (c_trimpm t w).mono ?_
  rintro r w2 ⟨hr, e2⟩
  rw [htl] at hr
  have hrl : r.size = W.length + 1 + (frF P).length := by rw [← bl_size, hr, List.length_append, List.length_cons]; omega
  rw [hlen, hrl]
  refine Br.dec (fun _ => ?_) fun q => absurd (by rw [i64_id] <;> split <;> omega) q
  rw [eqL]
  have hne : decide (r.data.toList = (⟨#[]⟩ : ByteArray).data.toList) = false := decide_eq_false fun q => by
    have q : bl r = [] := q
    rw [hr] at q
    have := congrArg List.length q
    rw [List.length_append, List.length_cons, List.length_nil] at this
    omega
  rw [hne]
  refine Br.t rfl ((c_trim10 r (by omega) w2).mono ?_)
  rintro r6 w3 ⟨h6, e3⟩
  rw [eqL]
  have hne6 : decide (r6.data.toList = (⟨#[]⟩ : ByteArray).data.toList) = false := decide_eq_false fun q => by
    have q : bl r6 = [] := q
    rw [h6, hr] at q
    exact trim_mem h46 (by decide) q
  rw [hne6]
  refine Br.f rfl ((c_has1 t 46 w3).mono ?_)
  rintro r8 w4 ⟨rfl, rfl⟩
  have : (bl t).contains 46 = true := by
    rw [List.contains_iff_mem, ht]
    exact List.mem_append_right _ h46
  rw [this]
  exact ⟨rfl, e2.tr e3⟩
theorem c_word_real {n : Int} {W P T rest : By} {b : Nat} (h : TkText n T W P) (hn : inW n = true) (hd : (bl s).drop b = T ++ rest) (hr : ∀ c, rest.head? = some c → regB c = false) (hb : b ≤ s.size) (hs : s.size ≤ 1099511627776) (w : World) :
    C52 (s, (b : Int)) w fun r e w1 => r = (2, (b : Int), ((b + T.length : Nat) : Int), n, ⟨#[]⟩) ∧ e = 0 ∧ Ext (fun _ => False) w w1 := by
  refine T52 (s, (b : Int)) _ _ ?_
  unfold S52
  refine (Hn.start w).nw (cs := [.string s, .int .i64 (b : Int)]) fun w2 H => ?_
  refine H.nw (cs := [.int .i64 0, .int .i64 0, .int .i64 0, .int .i64 0, .string ⟨#[]⟩]) fun w3 H => ?_
  simp only [List.cons_append, List.nil_append, add_lit, Nat.zero_add] at H ⊢
  iterate 3 refine H.ld 0 rfl rfl ?_
  refine (c_run s _ hb hs w3).mono ?_
  rintro r w4 ⟨hr4, e4⟩
  rw [hd, runL_app h.reg hr] at hr4
  subst hr4
  have H := H.keep e4
  have hTl : b + T.length ≤ s.size := by
    have := congrArg List.length hd
    rw [List.length_drop, List.length_append, bl_size] at this
    omega
  iterate 2 refine H.ld 0 rfl rfl ?_
  have hx : bl (s.extract ((b : Int)).toNat (((b + T.length : Nat) : Int)).toNat) = T := by
    rw [bl_ext, Int.toNat_natCast, Int.toNat_natCast, hd, show b + T.length - b = T.length by omega]
    simp
  refine ⟨by omega, by omega, by omega, by omega, ?_⟩
  rw [← hx] at h
  refine (c_cls_real h hn w4).mono ?_
  rintro r w5 ⟨rfl, e5⟩
  have H := H.keep e5
  refine Br.f rfl (Br.t rfl ((c_read h hn w5).mono ?_))
  rintro r e w6 ⟨rfl, rfl, e6⟩
  have H := H.keep e6
  refine Br.t rfl (H.ld 0 rfl rfl ?_)
  iterate 5 (refine H.st 1 rfl (by simp) fun _ H => ?_; simp only [List.set_cons_zero, List.set_cons_succ] at H)
  iterate 5 refine H.ld 1 rfl rfl ?_
  exact ⟨rfl, by trivial, H.ext⟩
end
end Tk
end Go.Proofs.YtpkadliieplblaaDoor
