/- The lexer: Next at a name, a string, a number, a word; the tokens of the law's text. Conditions: sizes. -/
import Derived.Test.YtpkadliieplblaaDoorTlH
namespace Go.Proofs.YtpkadliieplblaaDoor
namespace Tl
open Sh Fix Tk Bui Go.Lib
set_option linter.unusedVariables false
set_option linter.unusedSimpArgs false
set_option maxRecDepth 8000
set_option maxHeartbeats 4000000
theorem hexL_head (l rest : By) : hasPrefix (hexL l ++ 62 :: rest) [60] = false := by
  cases l with
  | nil => rfl
  | cons c l =>
    have hc := byte_lt c
    have h : hx (c.toNat / 16) ≠ 60 := by
      have : ∀ m : Fin 16, hx m.val ≠ 60 := by decide
      exact this ⟨c.toNat / 16, by omega⟩
    show hasPrefix (hx (c.toNat / 16) :: _) [60] = false
    unfold hasPrefix
    simp only [List.isPrefixOf, Bool.and_true, beq_eq_false_iff_ne]
    exact fun e => h e.symm
section
variable {w0 w : World} {s t : ByteArray} {a : Nat}
attribute [local irreducible] Ld Sh.St Nw Nn Lt LdS
theorem skip_le {b : Nat} (ha : a ≤ s.size) (hb : a + skipL ((bl s).drop a) false = b) : b ≤ s.size := by
  have := skipL_le ((bl s).drop a) false
  rw [List.length_drop, bl_size] at this
  omega
theorem c_next_name {b : Nat} {l rest : By} (ha : a ≤ s.size) (hs : s.size ≤ 1099511627776) (hb : a + skipL ((bl s).drop a) false = b) (hd : (bl s).drop b = nameF l ++ rest) (hr : ∀ c, rest.head? = some c → regB c = false) (hl : l.length ≤ 100) (h0 : 0 ∉ l) (w : World) :
    C35 s (a : Int) w fun r e w1 => r = (4, (b : Int), ((b + (nameF l).length : Nat) : Int), 0, ba l) ∧ e = 0 ∧ Ext (fun _ => False) w w1 := by
  have hc : (bl s)[b]? = some 47 := at_drop (j := 0) hd rfl
  refine c_next_pre ha hs hb hc w fun w2 v H => ?_
  unfold S35J1
  rw [bAt_bl hc]
  refine Br.f rfl (Br.f rfl (Br.f rfl (Br.t rfl ?_)))
  simp only [add_lit, Nat.zero_add]
  iterate 2 refine H.ld 1 rfl rfl ?_
  refine (c_namel hd hr (skip_le ha hb) hs hl h0 v).mono ?_
  rintro r e w3 ⟨rfl, rfl, e3⟩
  have H := H.keep e3
  iterate 5 (refine H.st 0 rfl (by simp) fun _ H => ?_; simp only [List.set_cons_zero, List.set_cons_succ] at H)
  iterate 5 refine H.ld 0 rfl rfl ?_
  exact ⟨rfl, by trivial, H.ext⟩
theorem c_next_str {b : Nat} {l rest : By} (ha : a ≤ s.size) (hs : s.size ≤ 1099511627776) (hb : a + skipL ((bl s).drop a) false = b) (hd : (bl s).drop b = strF l ++ rest) (hl : l.length ≤ 1000) (w : World) :
    C35 s (a : Int) w fun r e w1 => r = (3, (b : Int), ((b + (strF l).length : Nat) : Int), 0, ba l) ∧ e = 0 ∧ Ext (fun _ => False) w w1 := by
  have hc : (bl s)[b]? = some 40 := at_drop (j := 0) hd rfl
  refine c_next_pre ha hs hb hc w fun w2 v H => ?_
  unfold S35J1
  rw [bAt_bl hc]
  refine Br.f rfl (Br.f rfl (Br.f rfl (Br.f rfl (Br.t rfl ?_))))
  simp only [add_lit, Nat.zero_add]
  iterate 2 refine H.ld 1 rfl rfl ?_
  refine (c_texts hd (skip_le ha hb) hs hl v).mono ?_
  rintro r e w3 ⟨rfl, rfl, e3⟩
  have H := H.keep e3
  iterate 5 (refine H.st 0 rfl (by simp) fun _ H => ?_; simp only [List.set_cons_zero, List.set_cons_succ] at H)
  iterate 5 refine H.ld 0 rfl rfl ?_
  exact ⟨rfl, by trivial, H.ext⟩
theorem c_next_hex {b : Nat} {l rest : By} (ha : a ≤ s.size) (hs : s.size ≤ 1099511627776) (hb : a + skipL ((bl s).drop a) false = b) (hd : (bl s).drop b = hexF l ++ rest) (hl : l.length ≤ 1000) (w : World) :
    C35 s (a : Int) w fun r e w1 => r = (3, (b : Int), ((b + (hexF l).length : Nat) : Int), 0, ba l) ∧ e = 0 ∧ Ext (fun _ => False) w w1 := by
  have hc : (bl s)[b]? = some 60 := at_drop (j := 0) hd rfl
  refine c_next_pre ha hs hb hc w fun w2 v H => ?_
  unfold S35J1
  have hd1 : (bl s).drop (b + 1) = hexL l ++ 62 :: rest := by
    rw [← List.drop_drop, hd]
    simp [hexF]
  rw [bAt_bl hc, hd1, hexL_head]
  refine Br.f rfl (Br.t rfl (Br.f rfl ?_))
  simp only [add_lit, Nat.zero_add]
  iterate 2 refine H.ld 1 rfl rfl ?_
  refine (c_hexs hd (skip_le ha hb) hs hl v).mono ?_
  rintro r e w3 ⟨rfl, rfl, e3⟩
  have H := H.keep e3
  iterate 5 (refine H.st 0 rfl (by simp) fun _ H => ?_; simp only [List.set_cons_zero, List.set_cons_succ] at H)
  iterate 5 refine H.ld 0 rfl rfl ?_
  exact ⟨rfl, by trivial, H.ext⟩
theorem toks_name {b : Nat} {l rest : By} {L : List TT} (ha : a ≤ s.size) (hs : s.size ≤ 1099511627776) (hb : a + skipL ((bl s).drop a) false = b) (hd : (bl s).drop b = nameF l ++ rest) (hr : ∀ c, rest.head? = some c → regB c = false) (hl : l.length ≤ 100) (h0 : 0 ∉ l)
    (k : Toks s (b + (nameF l).length) L) : Toks s a ((4, (b : Int), ((b + (nameF l).length : Nat) : Int), 0, ba l) :: L) := .cons ha (fun w => c_next_name ha hs hb hd hr hl h0 w) (show (4 : Int) ≠ 0 by decide) rfl k
theorem toks_str {b : Nat} {l rest : By} {L : List TT} (ha : a ≤ s.size) (hs : s.size ≤ 1099511627776) (hb : a + skipL ((bl s).drop a) false = b) (hd : (bl s).drop b = strF l ++ rest) (hl : l.length ≤ 1000)
    (k : Toks s (b + (strF l).length) L) : Toks s a ((3, (b : Int), ((b + (strF l).length : Nat) : Int), 0, ba l) :: L) := .cons ha (fun w => c_next_str ha hs hb hd hl w) (show (3 : Int) ≠ 0 by decide) rfl k
theorem toks_hex {b : Nat} {l rest : By} {L : List TT} (ha : a ≤ s.size) (hs : s.size ≤ 1099511627776) (hb : a + skipL ((bl s).drop a) false = b) (hd : (bl s).drop b = hexF l ++ rest) (hl : l.length ≤ 1000)
    (k : Toks s (b + (hexF l).length) L) : Toks s a ((3, (b : Int), ((b + (hexF l).length : Nat) : Int), 0, ba l) :: L) := .cons ha (fun w => c_next_hex ha hs hb hd hl w) (show (3 : Int) ≠ 0 by decide) rfl k
theorem IntT.head {n : Int} {T D : By} (h : IntT n T D) : ∃ c T', T = c :: T' := by
  have h1 := h.len
  have h2 := h.d1
  cases T with
  | nil => rw [List.length_nil] at h1; split at h1 <;> omega
  | cons c T' => exact ⟨c, T', rfl⟩
theorem toks_int {n : Int} {D T rest : By} {b : Nat} {L : List TT} (h : IntT n T D) (h1 : -2147483647 ≤ n) (h2 : n ≤ 2147483647) (ha : a ≤ s.size) (hs : s.size ≤ 1099511627776) (hb : a + skipL ((bl s).drop a) false = b) (hd : (bl s).drop b = T ++ rest) (hr : ∀ c, rest.head? = some c → regB c = false)
    (k : Toks s (b + T.length) L) : Toks s a ((1, (b : Int), ((b + T.length : Nat) : Int), n, ⟨#[]⟩) :: L) := by
  obtain ⟨c, T', hT⟩ := h.head
  have hc : (bl s)[b]? = some c := at_drop (j := 0) hd (by rw [hT]; rfl)
  exact .cons ha (c_next_word ha hs hb hc (h.reg c (by rw [hT]; exact List.mem_cons_self ..)) fun v => c_word_int h h1 h2 hd hr (skip_le ha hb) hs v) (show (1 : Int) ≠ 0 by decide) rfl k
theorem toks_obj {rest : By} {b : Nat} {L : List TT} (ha : a ≤ s.size) (hs : s.size ≤ 1099511627776) (hb : a + skipL ((bl s).drop a) false = b) (hd : (bl s).drop b = objB ++ rest) (hr : ∀ c, rest.head? = some c → regB c = false)
    (k : Toks s (b + 3) L) : Toks s a ((5, (b : Int), ((b + 3 : Nat) : Int), 0, ba objB) :: L) := by
  have hc : (bl s)[b]? = some 111 := at_drop (j := 0) hd rfl
  exact .cons ha (c_next_word ha hs hb hc (by decide) fun v => c_word_obj hd hr (skip_le ha hb) hs v) (show (5 : Int) ≠ 0 by decide) rfl k
theorem reg_skipA {c : UInt8} {r : By} (h : whB c = false) (h2 : c ≠ 37) : skipL (c :: r) false = 0 := by
  show (if c = 37 then _ else if whB c = true then _ else 0) = 0
  rw [if_neg h2, h]
  rfl
theorem sp_skip {c : UInt8} {r : By} (h : regB c = true) : skipL (32 :: c :: r) false = 1 := by
  show (if (32 : UInt8) = 37 then _ else if whB 32 = true then 1 + skipL (c :: r) false else 0) = 1
  rw [if_neg (by decide), if_pos (by decide), reg_skip h]
/-- The text that shows that the program does something. -/
theorem toks_three : Toks (⟨#[49, 40, 97, 41, 47, 98]⟩ : ByteArray) 0 [(1, 0, 1, 1, ⟨#[]⟩), (3, 1, 4, 0, ba [97]), (4, 4, 6, 0, ba [98])] := by
  have hI : IntT 1 [49] [49] := ⟨fun c hc => by rw [List.mem_singleton.1 hc]; unfold isDig; decide, by decide, by decide, by decide, by decide⟩
  refine toks_int (n := 1) (b := 0) hI (by decide) (by decide) (by decide) (by decide) rfl (rest := [40, 97, 41, 47, 98]) rfl (fun c hc => by cases hc; rfl) ?_
  refine toks_str (b := 1) (l := [97]) (by decide) (by decide) rfl (rest := [47, 98]) rfl (by decide) ?_
  refine toks_name (b := 4) (l := [98]) (by decide) (by decide) rfl (rest := []) rfl (fun c hc => by cases hc) (by decide) (by decide) ?_
  exact toks_end (by decide) (by decide) rfl
/-- The law's text. -/
theorem toks_six {n u : Int} {s : ByteArray} {A DA B W P l m : By} (hA : IntT n A DA) (h1 : -2147483647 ≤ n) (h2 : n ≤ 2147483647) (hB : TkText u B W P) (hu : inW u = true) (hl : l.length ≤ 1000) (hm : m.length ≤ 100) (h0 : 0 ∉ m) (hs : s.size ≤ 1099511627776)
    (he : bl s = A ++ 32 :: (B ++ (strF l ++ (nameF m ++ (hexF l ++ objB))))) :
    ∃ L, Toks s 0 L ∧ L.map (fun t : TT => (t.1, t.2.2.2)) = [(1, n, ⟨#[]⟩), (2, u, ⟨#[]⟩), (3, 0, ba l), (4, 0, ba m), (3, 0, ba l), (5, 0, ba objB)] := by
  obtain ⟨a0, A', hA0⟩ := hA.head
  obtain ⟨b12, b1⟩ := hB.len
  obtain ⟨b0, B', hB0⟩ : ∃ c T', B = c :: T' := by
    cases B with
    | nil => simp at b1
    | cons c T' => exact ⟨c, T', rfl⟩
  have ra : regB a0 = true := hA.reg a0 (by rw [hA0]; exact List.mem_cons_self ..)
  have rb : regB b0 = true := hB.reg b0 (by rw [hB0]; exact List.mem_cons_self ..)
  have d1 : (bl s).drop A.length = 32 :: (B ++ (strF l ++ (nameF m ++ (hexF l ++ objB)))) := by rw [he]; exact drop_len rfl
  have d2 : (bl s).drop (A.length + 1) = B ++ (strF l ++ (nameF m ++ (hexF l ++ objB))) := by rw [← List.drop_drop, d1]; rfl
  have d3 : (bl s).drop (A.length + 1 + B.length) = strF l ++ (nameF m ++ (hexF l ++ objB)) := by rw [← List.drop_drop, d2]; exact drop_len rfl
  have d4 : (bl s).drop (A.length + 1 + B.length + (strF l).length) = nameF m ++ (hexF l ++ objB) := by rw [← List.drop_drop, d3]; exact drop_len rfl
  have d5 : (bl s).drop (A.length + 1 + B.length + (strF l).length + (nameF m).length) = hexF l ++ objB := by rw [← List.drop_drop, d4]; exact drop_len rfl
  have d6 : (bl s).drop (A.length + 1 + B.length + (strF l).length + (nameF m).length + (hexF l).length) = objB := by rw [← List.drop_drop, d5]; exact drop_len rfl
  have hsz : s.size = A.length + 1 + B.length + (strF l).length + (nameF m).length + (hexF l).length + 3 := by
    rw [← bl_size, he]
    simp only [List.length_append, List.length_cons, objB, List.length_nil]
    omega
  have k6 : Toks s (A.length + 1 + B.length + (strF l).length + (nameF m).length + (hexF l).length + 3) [] := toks_end (by omega) hs (by
    rw [show A.length + 1 + B.length + (strF l).length + (nameF m).length + (hexF l).length + 3 = s.size by omega, List.drop_of_length_le (by rw [bl_size]; exact Nat.le_refl _)]
    rfl)
  have k5 := toks_obj (a := A.length + 1 + B.length + (strF l).length + (nameF m).length + (hexF l).length) (b := A.length + 1 + B.length + (strF l).length + (nameF m).length + (hexF l).length) (by omega) hs (by
    rw [d6, show objB = 111 :: [98, 106] from rfl, reg_skipA (by decide) (by decide)]; rfl) (rest := []) (by rw [d6]; rfl) (fun c hc => by cases hc) k6
  have k4 := toks_hex (a := A.length + 1 + B.length + (strF l).length + (nameF m).length) (b := A.length + 1 + B.length + (strF l).length + (nameF m).length) (by omega) hs (by
    rw [d5, show hexF l ++ objB = 60 :: ((hexL l ++ [62]) ++ objB) from rfl, reg_skipA (by decide) (by decide)]; rfl) d5 hl k5
  have k3 := toks_name (a := A.length + 1 + B.length + (strF l).length) (b := A.length + 1 + B.length + (strF l).length) (by omega) hs (by
    rw [d4, show nameF m ++ (hexF l ++ objB) = 47 :: (m.flatMap escN ++ (hexF l ++ objB)) from rfl, reg_skipA (by decide) (by decide)]; rfl) d4 (fun c hc => by cases hc; rfl) hm h0 k4
  have k2 := toks_str (a := A.length + 1 + B.length) (b := A.length + 1 + B.length) (by omega) hs (by
    rw [d3, show strF l ++ (nameF m ++ (hexF l ++ objB)) = 40 :: ((l.flatMap escS ++ [41]) ++ (nameF m ++ (hexF l ++ objB))) from rfl, reg_skipA (by decide) (by decide)]; rfl) d3 hl k3
  have k1 := toks_real hB hu (a := A.length) (b := A.length + 1) (by omega) hs (by
    rw [d1, hB0, List.cons_append, sp_skip rb]) d2 (fun c hc => by cases hc; rfl) k2
  have k0 := toks_int hA h1 h2 (a := 0) (b := 0) (by omega) hs (by
    rw [List.drop_zero, he, hA0, List.cons_append, reg_skip ra]) (rest := 32 :: (B ++ (strF l ++ (nameF m ++ (hexF l ++ objB))))) he (fun c hc => by cases hc; rfl) (by rw [Nat.zero_add]; exact k1)
  exact ⟨_, k0, rfl⟩
end
end Tl
end Go.Proofs.YtpkadliieplblaaDoor
