/- The lexer: Next. Conditions: sizes. -/
import Derived.Test.YtpkadliieplblaaDoorTkE
namespace Go.Proofs.YtpkadliieplblaaDoor
namespace Tk
open Sh Fix Go.Lib
set_option linter.unusedVariables false
set_option linter.unusedSimpArgs false
set_option maxRecDepth 8000
set_option maxHeartbeats 4000000
section
variable {w w' w1 : World} {s t : ByteArray} {a : Nat}
attribute [local irreducible] Ld Sh.St Nw Nn Lt LdS
theorem c_next_end (ha : a ≤ s.size) (hs : s.size ≤ 1099511627776) (hb : a + skipL ((bl s).drop a) false = s.size) (w : World) : C35 s (a : Int) w fun r e w1 => r = (0, (s.size : Int), (s.size : Int), 0, ⟨#[]⟩) ∧ e = 0 ∧ Ext (fun _ => False) w w1 := by
  refine T35 _ _ _ _ ?_
  unfold S35
  refine (Hn.start w).nw (cs := [.int .i64 0, .int .i64 0, .int .i64 0, .int .i64 0, .string ⟨#[]⟩]) fun w2 H => ?_
  refine Br.dec (fun h => by omega) fun _ => Br.dec (fun h => by omega) fun _ => (c_skip s ha hs w2).mono ?_
  rintro r w3 ⟨rfl, rfl⟩
  rw [hb]
  refine H.nw (cs := [.string ⟨#[]⟩, .int .i64 0]) fun w4 H => ?_
  simp only [List.cons_append, List.nil_append, add_lit, Nat.zero_add] at H ⊢
  iterate 2 (refine H.st 1 rfl (by simp) fun _ H => ?_; simp only [List.set_cons_zero, List.set_cons_succ] at H)
  refine H.ld 1 rfl rfl (Br.t (by simp) ?_)
  iterate 2 refine H.ld 1 rfl rfl ?_
  iterate 5 (refine H.st 0 rfl (by simp) fun _ H => ?_; simp only [List.set_cons_zero, List.set_cons_succ] at H)
  iterate 5 refine H.ld 0 rfl rfl ?_
  exact ⟨rfl, by trivial, H.ext⟩
/-- The first part of Next, up to the byte. -/
theorem c_next_pre {b : Nat} {c : UInt8} (ha : a ≤ s.size) (hs : s.size ≤ 1099511627776) (hb : a + skipL ((bl s).drop a) false = b) (hc : (bl s)[b]? = some c) (w : World) {R : TT → Int → World → Prop}
    (k : ∀ (w2 v : World), Hn w v [(w.heap.size, [.int .i64 0, .int .i64 0, .int .i64 0, .int .i64 0, .string ⟨#[]⟩], 32), (w2.heap.size, [.string s, .int .i64 (b : Int)], 81)] →
      S35J1 w s w2 (hasPrefix ((bl s).drop (b + 1)) [c]) (b : Int) R ((c == 91) || (c == 93) || (c == 123) || (c == 125)) v) : C35 s (a : Int) w R := by
  refine T35 _ _ _ _ ?_
  unfold S35
  have hbl : b < s.size := by
    have := (List.getElem?_eq_some_iff.1 hc).1
    rw [bl_size] at this
    exact this
  refine (Hn.start w).nw (cs := [.int .i64 0, .int .i64 0, .int .i64 0, .int .i64 0, .string ⟨#[]⟩]) fun w2 H => ?_
  refine Br.dec (fun h => by omega) fun _ => Br.dec (fun h => by omega) fun _ => (c_skip s ha hs w2).mono ?_
  rintro r w3 ⟨rfl, rfl⟩
  rw [hb]
  refine H.nw (cs := [.string ⟨#[]⟩, .int .i64 0]) fun w4 H => ?_
  simp only [List.cons_append, List.nil_append, add_lit, Nat.zero_add] at H ⊢
  iterate 2 (refine H.st 1 rfl (by simp) fun _ H => ?_; simp only [List.set_cons_zero, List.set_cons_succ] at H)
  refine H.ld 1 rfl rfl (Br.eq (fun h => by omega) fun _ => ?_)
  have H := H.drew
  iterate 2 refine H.ld 1 rfl rfl ?_
  rw [i64_id (n := (b : Int) + 1) (by omega)]
  have t1 : ((b : Int) + 1).toNat = b + 1 := by omega
  rw [t1, Int.toNat_natCast]
  refine ⟨by omega, by omega, by omega, by omega, H.ld 1 rfl rfl ?_⟩
  rw [i64_id (n := (b : Int) + 1) (by omega)]
  refine (c_begins s (s.extract b (b + 1)) (a := b + 1) (by omega) _).mono ?_
  rintro r w5 ⟨rfl, rfl⟩
  have hx : bl (s.extract b (b + 1)) = [c] := by
    rw [bl_ext, drop_c hc, show b + 1 - b = 1 by omega]
    rfl
  rw [hx]
  refine H.ld 1 rfl rfl ⟨by omega, by omega, Join.intro ?_⟩
  rw [bAt_bl hc]
  have e : ∀ d : UInt8, ((c.toNat : Int) == (d.toNat : Int)) = (c == d) := fun d => by
    rw [Bool.eq_iff_iff, beq_iff_eq, beq_iff_eq]
    exact ⟨fun h => UInt8.toNat_inj.1 (by omega), fun h => by rw [h]⟩
  have e1 : ((c.toNat : Int) == 91) = (c == 91) := e 91
  have e2 : ((c.toNat : Int) == 93) = (c == 93) := e 93
  have e3 : ((c.toNat : Int) == 123) = (c == 123) := e 123
  have e4 : ((c.toNat : Int) == 125) = (c == 125) := e 125
  rw [e1, e2, e3, e4]
  have K := k _ _ H
  cases h1 : c == 91 with
  | true => rw [h1] at K; exact Br.t rfl (by simpa using K)
  | false =>
    refine Br.f rfl ?_
    cases h2 : c == 93 with
    | true => rw [h1, h2] at K; exact Br.t rfl (by simpa using K)
    | false =>
      refine Br.f rfl ?_
      cases h3 : c == 123 with
      | true => rw [h1, h2, h3] at K; exact Br.t rfl (by simpa using K)
      | false =>
        refine Br.f rfl ?_
        rw [h1, h2, h3] at K
        simpa using K
theorem byte_ne {c d : UInt8} (h : c ≠ d) : (c.toNat : Int) ≠ (d.toNat : Int) := fun e => h (UInt8.toNat_inj.1 (by omega))
theorem c_next_word {b : Nat} {c : UInt8} {r0 : TT} {e0 : Int} (ha : a ≤ s.size) (hs : s.size ≤ 1099511627776) (hb : a + skipL ((bl s).drop a) false = b) (hc : (bl s)[b]? = some c) (hr : regB c = true)
    (hw : ∀ v, C52 (s, (b : Int)) v fun r e w1 => r = r0 ∧ e = e0 ∧ Ext (fun _ => False) v w1) (w : World) : C35 s (a : Int) w fun r e w1 => r = r0 ∧ e = e0 ∧ Ext (fun _ => False) w w1 := by
  have hd : dlB c = false := by
    unfold regB at hr
    simp only [Bool.and_eq_true, Bool.not_eq_true'] at hr
    exact hr.2
  have hn : ∀ d ∈ ([40, 41, 60, 62, 91, 93, 123, 125, 47, 37] : By), c ≠ d := fun d hm e => by
    subst e
    unfold dlB at hd
    rw [← Bool.not_eq_true, List.contains_iff_mem] at hd
    exact hd hm
  refine c_next_pre ha hs hb hc w fun w2 v H => ?_
  unfold S35J1
  have f : ((c == 91) || (c == 93) || (c == 123) || (c == 125)) = false := by
    have h1 := hn 91 (by decide)
    have h2 := hn 93 (by decide)
    have h3 := hn 123 (by decide)
    have h4 := hn 125 (by decide)
    simp [h1, h2, h3, h4]
  rw [f, bAt_bl hc]
  refine Br.f rfl (Br.eq (fun h => absurd h (byte_ne (hn 60 (by decide)))) fun _ => Br.eq (fun h => absurd h (byte_ne (hn 62 (by decide)))) fun _ => Br.eq (fun h => absurd h (byte_ne (hn 47 (by decide)))) fun _ =>
    Br.eq (fun h => absurd h (byte_ne (hn 40 (by decide)))) fun _ => Br.eq (fun h => absurd h (byte_ne (hn 41 (by decide)))) fun _ => ?_)
  simp only [add_lit, Nat.zero_add]
  iterate 2 refine H.ld 1 rfl rfl ?_
  refine (hw v).mono ?_
  rintro r e w3 ⟨rfl, rfl, e3⟩
  have H := H.keep e3
  iterate 5 (refine H.st 0 rfl (by simp) fun _ H => ?_; simp only [List.set_cons_zero, List.set_cons_succ] at H)
  iterate 5 refine H.ld 0 rfl rfl ?_
  exact ⟨rfl, rfl, H.ext⟩
/-! ### Tokens, one after another -/
/-- The tokens of a string from a place on. -/
inductive Toks (s : ByteArray) : Nat → List TT → Prop where
  | nil {a : Nat} (ha : a ≤ s.size) (h : ∀ w, C35 s (a : Int) w fun r e w1 => r.1 = 0 ∧ e = 0 ∧ Ext (fun _ => False) w w1) : Toks s a []
  | cons {a b : Nat} {t : TT} {L : List TT} (ha : a ≤ s.size) (h : ∀ w, C35 s (a : Int) w fun r e w1 => r = t ∧ e = 0 ∧ Ext (fun _ => False) w w1) (hk : t.1 ≠ 0) (hto : t.2.2.1 = (b : Int)) (k : Toks s b L) : Toks s a (t :: L)
theorem toks_end (ha : a ≤ s.size) (hs : s.size ≤ 1099511627776) (hb : a + skipL ((bl s).drop a) false = s.size) : Toks s a [] :=
  .nil ha fun w => (c_next_end ha hs hb w).mono fun r e w1 h => ⟨by rw [h.1], h.2⟩
theorem toks_real {n : Int} {W P T rest : By} {b : Nat} {L : List TT} (h : TkText n T W P) (hn : inW n = true) (ha : a ≤ s.size) (hs : s.size ≤ 1099511627776) (hb : a + skipL ((bl s).drop a) false = b) (hd : (bl s).drop b = T ++ rest) (hr : ∀ c, rest.head? = some c → regB c = false)
    (k : Toks s (b + T.length) L) : Toks s a ((2, (b : Int), ((b + T.length : Nat) : Int), n, ⟨#[]⟩) :: L) := by
  have hb2 : b ≤ s.size := by
    have := skipL_le ((bl s).drop a) false
    rw [List.length_drop, bl_size] at this
    omega
  obtain ⟨c, T', hT⟩ : ∃ c T', T = c :: T' := by
    cases T with
    | nil =>
      have := congrArg List.length h.t
      rw [List.length_append, List.length_append, List.length_cons, List.length_nil] at this
      omega
    | cons c T' => exact ⟨c, T', rfl⟩
  have hc : (bl s)[b]? = some c := by
    have : ((bl s).drop b)[0]? = some c := by rw [hd, hT]; rfl
    rw [List.getElem?_drop] at this
    exact this
  exact .cons ha (c_next_word ha hs hb hc (h.reg c (by rw [hT]; exact List.mem_cons_self ..)) fun v => c_word_real h hn hd hr hb2 hs v) (show (2 : Int) ≠ 0 by decide) rfl k
end
end Tk
end Go.Proofs.YtpkadliieplblaaDoor
