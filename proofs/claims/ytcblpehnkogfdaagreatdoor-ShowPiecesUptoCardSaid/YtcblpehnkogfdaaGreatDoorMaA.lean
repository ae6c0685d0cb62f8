/- Text machines: what they do, plain; small functions. Conditions: sizes, the laid tables. -/
import Derived.Test.YtcblpehnkogfdaaGreatDoorSwD
import Derived.Test.YtcblpehnkogfdaaGreatDoorNuA
import Derived.Test.YtcblpehnkogfdaaGreatDoorFnMach
namespace Go.Proofs.YtcblpehnkogfdaaGreatDoor
namespace Ma
open Sh Mat Fix Fo Sw Opr Pat
set_option linter.unusedVariables false
set_option linter.unusedSimpArgs false
set_option maxRecDepth 4000
set_option maxHeartbeats 4000000
structure Mc where
  on : Bool
  text : Mx
  line : Mx
def mcc (m : Mc) : List Value := [.bool m.on, .int .i64 (m.text.1), .int .i64 (m.text.2.1), .int .i64 (m.text.2.2.1), .int .i64 (m.text.2.2.2.1), .int .i64 (m.text.2.2.2.2.1), .int .i64 (m.text.2.2.2.2.2), .int .i64 (m.line.1), .int .i64 (m.line.2.1), .int .i64 (m.line.2.2.1), .int .i64 (m.line.2.2.2.1), .int .i64 (m.line.2.2.2.2.1), .int .i64 (m.line.2.2.2.2.2)]
theorem mcc_len (m : Mc) : (mcc m).length = 13 := rfl
def m0 : Mc := ⟨false, one, one⟩
abbrev TK : TypeId := 73
abbrev TU : TypeId := 94
abbrev TG : TypeId := 31
abbrev TF : TypeId := 35
abbrev TM : TypeId := 24
abbrev OpT := ByteArray × Slc × ByteArray
/-- The cells of a turn. -/
def tcl (m : Mc) (g : GT) (x : FT) (o : OpT) (ns gs : Slc) : List Value := [.bool m.on, .int .i64 (m.text.1), .int .i64 (m.text.2.1), .int .i64 (m.text.2.2.1), .int .i64 (m.text.2.2.2.1), .int .i64 (m.text.2.2.2.2.1), .int .i64 (m.text.2.2.2.2.2), .int .i64 (m.line.1), .int .i64 (m.line.2.1), .int .i64 (m.line.2.2.1), .int .i64 (m.line.2.2.2.1), .int .i64 (m.line.2.2.2.2.1), .int .i64 (m.line.2.2.2.2.2), .int .i64 (g.1), .int .i64 (g.2.1), .int .i64 (g.2.2.1), .int .i64 (g.2.2.2.1), .int .i64 (g.2.2.2.2.1), .int .i64 (g.2.2.2.2.2.1), .int .i64 (g.2.2.2.2.2.2.1), .int .i64 (g.2.2.2.2.2.2.2.1), .int .i64 (g.2.2.2.2.2.2.2.2.1), .int .i64 (g.2.2.2.2.2.2.2.2.2.1), Slc.v (g.2.2.2.2.2.2.2.2.2.2.1), .int .i64 (g.2.2.2.2.2.2.2.2.2.2.2.1), .int .i64 (g.2.2.2.2.2.2.2.2.2.2.2.2.1), .int .i64 (g.2.2.2.2.2.2.2.2.2.2.2.2.2.1), .int .i64 (g.2.2.2.2.2.2.2.2.2.2.2.2.2.2.1), .int .i64 (g.2.2.2.2.2.2.2.2.2.2.2.2.2.2.2.1), .int .i64 (g.2.2.2.2.2.2.2.2.2.2.2.2.2.2.2.2.1), .int .i64 (g.2.2.2.2.2.2.2.2.2.2.2.2.2.2.2.2.2.1), .int .i64 (g.2.2.2.2.2.2.2.2.2.2.2.2.2.2.2.2.2.2.1), .int .i64 (g.2.2.2.2.2.2.2.2.2.2.2.2.2.2.2.2.2.2.2.1), .int .i64 (g.2.2.2.2.2.2.2.2.2.2.2.2.2.2.2.2.2.2.2.2.1), .int .i64 (g.2.2.2.2.2.2.2.2.2.2.2.2.2.2.2.2.2.2.2.2.2.1), .int .i64 (g.2.2.2.2.2.2.2.2.2.2.2.2.2.2.2.2.2.2.2.2.2.2.1), .int .i64 (g.2.2.2.2.2.2.2.2.2.2.2.2.2.2.2.2.2.2.2.2.2.2.2.1), .int .i64 (g.2.2.2.2.2.2.2.2.2.2.2.2.2.2.2.2.2.2.2.2.2.2.2.2.1), .int .i64 (g.2.2.2.2.2.2.2.2.2.2.2.2.2.2.2.2.2.2.2.2.2.2.2.2.2.1), .int .i64 (g.2.2.2.2.2.2.2.2.2.2.2.2.2.2.2.2.2.2.2.2.2.2.2.2.2.2.1), .int .i64 (g.2.2.2.2.2.2.2.2.2.2.2.2.2.2.2.2.2.2.2.2.2.2.2.2.2.2.2.1), .string (g.2.2.2.2.2.2.2.2.2.2.2.2.2.2.2.2.2.2.2.2.2.2.2.2.2.2.2.2.1), .int .i64 (g.2.2.2.2.2.2.2.2.2.2.2.2.2.2.2.2.2.2.2.2.2.2.2.2.2.2.2.2.2), .string (x.1), .bool (x.2.1), .int .i64 (x.2.2.1), Slc.v (x.2.2.2.1), .int .i64 (x.2.2.2.2.1), Slc.v (x.2.2.2.2.2.1), Slc.v (x.2.2.2.2.2.2), .string o.1, Slc.v o.2.1, .string o.2.2, Slc.v ns, Slc.v gs]
@[simp] theorem tcl_len (m : Mc) (g : GT) (x : FT) (o : OpT) (ns gs : Slc) : (tcl m g x o ns gs).length = 55 := rfl
def ten : List Opr.By := [[66, 84], [69, 84], [84, 100], [84, 68], [84, 42], [84, 109], [84, 106], [39], [34], [84, 74]]
def isNum (o : Ob) : Bool := decide (o.1 = 2) || decide (o.1 = 3)
def moveF (line : Mx) (a b : Int) : Option Mx := mulP (moveM a b) line
def nextF (g : GT) (line : Mx) : Option Mx := if useG g = true then moveF line 0 (-(tlead g)) else none
/-- A string shown behind the glyphs so far: the error, the glyphs, the text matrix. -/
noncomputable def showF (g : GT) (f : Font) (text : Mx) (gl : List GlT) (s : ByteArray) : Int × List GlT × Mx :=
  if (stringF g text f s).2.2 ≠ 0 then ((stringF g text f s).2.2, gl, text) else if 16384 < gl.length + (stringF g text f s).1.length then (6, gl, text) else (0, gl ++ (stringF g text f s).1, (stringF g text f s).2.1)
def near3 (n : Int) : Int := (n + 500) / 1000
def backF (g : GT) (text : Mx) (n : Int) : Option Mx := if useG g = true then (mulO (near3 n) (tsize g)).bind fun w => (scaledP g w).bind fun t => mulP (moveM (-t) 0) text else none
noncomputable def kidF (g : GT) (f : Font) (text : Mx) (gl : List GlT) (o : Ob) : Int × List GlT × Mx := if o.1 = 4 then showF g f text gl o.2.2.2.1 else match backF g text ((numV o).getD 0) with
  | some m => (0, gl, m)
  | none => (2, gl, text)
noncomputable def rowF (g : GT) (f : Font) : List Ob → Mx → List GlT → Int × List GlT × Mx
  | [], text, gl => (0, gl, text)
  | o :: K, text, gl => if (kidF g f text gl o).1 ≠ 0 then ((kidF g f text gl o).1, gl, text) else rowF g f K (kidF g f text gl o).2.2 (kidF g f text gl o).2.1
def kidOk (o : Ob) : Bool := (numV o).isSome || decide (o.1 = 4)
/-- The state with word and character spacing replaced. -/
def spaced (g : GT) (a b : Int) : GT := (g.1, g.2.1, g.2.2.1, g.2.2.2.1, g.2.2.2.2.1, g.2.2.2.2.2.1, g.2.2.2.2.2.2.1, g.2.2.2.2.2.2.2.1, g.2.2.2.2.2.2.2.2.1, g.2.2.2.2.2.2.2.2.2.1, g.2.2.2.2.2.2.2.2.2.2.1, g.2.2.2.2.2.2.2.2.2.2.2.1, g.2.2.2.2.2.2.2.2.2.2.2.2.1, g.2.2.2.2.2.2.2.2.2.2.2.2.2.1, g.2.2.2.2.2.2.2.2.2.2.2.2.2.2.1, g.2.2.2.2.2.2.2.2.2.2.2.2.2.2.2.1, g.2.2.2.2.2.2.2.2.2.2.2.2.2.2.2.2.1, g.2.2.2.2.2.2.2.2.2.2.2.2.2.2.2.2.2.1, g.2.2.2.2.2.2.2.2.2.2.2.2.2.2.2.2.2.2.1, g.2.2.2.2.2.2.2.2.2.2.2.2.2.2.2.2.2.2.2.1, g.2.2.2.2.2.2.2.2.2.2.2.2.2.2.2.2.2.2.2.2.1, g.2.2.2.2.2.2.2.2.2.2.2.2.2.2.2.2.2.2.2.2.2.1, b, a, (tx g).2.2)
/-- The error, the machine, the glyphs. -/
noncomputable def shownF (g : GT) (f : Font) (m : Mc) (s : ByteArray) : Int × Mc × List GlT :=
  ((showF g f m.text [] s).1, { m with text := (showF g f m.text [] s).2.2 }, (showF g f m.text [] s).2.1)
noncomputable def linedF (g : GT) (f : Font) (m : Mc) (s : ByteArray) : Int × Mc × List GlT := match nextF g m.line with
  | some l => shownF g f ⟨m.on, l, l⟩ s
  | none => (2, m, [])
def movedF (m : Mc) (p : Option Mx) : Int × Mc × List GlT := match p with
  | some l => (0, ⟨m.on, l, l⟩, [])
  | none => (2, m, [])
def arg (L : List Ob) (i : Nat) : Ob := L.getD i ob0
noncomputable def actF (g : GT) (f : Font) (m : Mc) (nm : Opr.By) (L K : List Ob) (n : List Int) : Int × Mc × List GlT :=
  if nm = [66, 84] then (0, ⟨true, one, one⟩, []) else if nm = [69, 84] then (0, m0, []) else if nm = [84, 100] ∨ nm = [84, 68] then movedF m (moveF m.line (n.getD 0 0) (n.getD 1 0))
  else if nm = [84, 42] then movedF m (nextF g m.line) else if nm = [84, 109] then movedF m (if Mat.okM (n.getD 0 0, n.getD 1 0, n.getD 2 0, n.getD 3 0, n.getD 4 0, n.getD 5 0) = true then some (n.getD 0 0, n.getD 1 0, n.getD 2 0, n.getD 3 0, n.getD 4 0, n.getD 5 0) else none)
  else if nm = [84, 106] then shownF g f m (arg L 0).2.2.2.1 else if nm = [39] then linedF g f m (arg L 0).2.2.2.1 else if nm = [34] then linedF (spaced g (n.getD 0 0) (n.getD 1 0)) f m (arg L 2).2.2.2.1
  else if K.all kidOk = false then (28, m, []) else ((rowF g f K m.text []).1, { m with text := (rowF g f K m.text []).2.2 }, (rowF g f K m.text []).2.1)
/-- What Do answers: the error, the machine behind it, the glyphs. -/
noncomputable def doF (g : GT) (f : Font) (m : Mc) (nm : Opr.By) (L K : List Ob) (d : Opr.By) : Int × Mc × List GlT :=
  if nm ∉ ten then (8, m, []) else if Opr.chkF nm L d ≠ 0 then (Opr.chkF nm L d, m, []) else if m.on = decide (nm = [66, 84]) then (29, m, []) else match nmO (L.filter isNum) with
  | none => (2, m, [])
  | some n => if (actF g f m nm L K n).1 ≠ 0 then ((actF g f m nm L K n).1, m, []) else actF g f m nm L K n
attribute [local irreducible] Ld Sh.St Nw Nn Lt LdS
theorem c_new (w : World) : C7 w fun r w1 => ∃ b, r = some ⟨b, 0, none⟩ ∧ w.heap.size ≤ b ∧ Blk w1 b (mcc m0).toArray TK ∧ Ext (fun _ => False) w w1 := by
  refine T7 _ _ ?_
  unfold S7
  refine (Mat.c_one _).mono ?_
  rintro r1 w2 ⟨rfl, e2⟩
  refine (Mat.c_one _).mono ?_
  rintro r3 w4 ⟨rfl, e4⟩
  have H := ((Hn.start w).keep e2).keep e4
  refine H.nw fun w5 H => ⟨_, rfl, (e2.tr e4).size, H.get 0 rfl, H.ext⟩
section
variable {w : World} {m : Mc} {b : Nat}
theorem c_on (h : Blk w b (mcc m).toArray TK) : C16 (some (⟨b, 0, none⟩ : Addr)) w fun r w1 => r = m.on ∧ w1 = w := by
  refine T16 _ _ _ ?_
  unfold S16
  exact Sh.Br.t rfl (Nn.of (Ld.of h (x := m.on) rfl ⟨rfl, rfl⟩))
theorem c_matrix (h : Blk w b (mcc m).toArray TK) : C17 (some (⟨b, 0, none⟩ : Addr)) w fun r w1 => r = m.text ∧ Ext (fun _ => False) w w1 := by
  refine T17 _ _ _ ?_
  unfold S17
  refine (Hn.start w).nw fun w2 H => Sh.Br.f rfl (Nn.of ?_)
  have hb := H.ext.blk h id
  refine Ld.of hb (x := m.text.1) rfl (Ld.of hb (x := m.text.2.1) rfl (Ld.of hb (x := m.text.2.2.1) rfl (Ld.of hb (x := m.text.2.2.2.1) rfl (Ld.of hb (x := m.text.2.2.2.2.1) rfl (Ld.of hb (x := m.text.2.2.2.2.2) rfl ?_)))))
  iterate 6 (refine H.st 0 rfl (by simp) fun _ H => ?_; simp only [List.nil_append, List.cons_append, List.set_cons_zero, List.set_cons_succ, Nat.zero_add] at H)
  iterate 6 refine H.ld 0 rfl rfl ?_
  exact ⟨rfl, H.ext⟩
theorem c_knowsT (a : ByteArray) (w : World) : C40 a w fun r w1 => r = decide (Opr.bl a ∈ ten) ∧ Ext (fun _ => False) w w1 := by
  refine T40 _ _ _ ?_
  unfold S40
  refine (Hn.start w).nw (cs := strsB ten) fun w2 H => ?_
  refine (c_contains (SL.blk (H.get 0 rfl) rfl) (by decide) a).mono ?_
  rintro r w3 ⟨rfl, rfl⟩
  exact ⟨rfl, H.ext⟩
theorem c_mustO (x : OpT) (e : Int) (w : World) : C41 x e w (fun r w1 => r = x ∧ e = 0 ∧ Ext (fun _ => False) w w1) fun v w1 => v = Sw.gup e ∧ e ≠ 0 ∧ Ext (fun _ => False) w w1 := by
  refine T41 _ _ _ _ _ ?_
  unfold S41
  refine (Hn.start w).nw fun w3 H => H.nw fun w4 H => ?_
  refine (Sw.c_need _ e _).mono (fun w5 h => ?_) fun v w5 h => ⟨h.1, by simpa using h.2.1, by rw [h.2.2]; exact H.ext⟩
  obtain ⟨h1, rfl⟩ := h
  repeat (first | refine Lt.of ?_ | refine Nn.of ?_ | refine H.ld 0 rfl rfl ?_ | refine H.ld 1 rfl rfl ?_ | refine H.ld 2 rfl rfl ?_ | refine H.ld 3 rfl rfl ?_ | refine H.ld 4 rfl rfl ?_ | refine H.ld 5 rfl rfl ?_ | (refine H.st 0 rfl (by simp) fun _ H => ?_; simp only [List.nil_append, List.cons_append, List.set_cons_zero, List.set_cons_succ, Nat.zero_add] at H) | (refine H.st 1 rfl (by simp) fun _ H => ?_; simp only [List.nil_append, List.cons_append, List.set_cons_zero, List.set_cons_succ, Nat.zero_add] at H) | (refine H.st 2 rfl (by simp) fun _ H => ?_; simp only [List.nil_append, List.cons_append, List.set_cons_zero, List.set_cons_succ, Nat.zero_add] at H) | (refine H.st 3 rfl (by simp) fun _ H => ?_; simp only [List.nil_append, List.cons_append, List.set_cons_zero, List.set_cons_succ, Nat.zero_add] at H) | (refine H.st 4 rfl (by simp) fun _ H => ?_; simp only [List.nil_append, List.cons_append, List.set_cons_zero, List.set_cons_succ, Nat.zero_add] at H) | (refine H.st 5 rfl (by simp) fun _ H => ?_; simp only [List.nil_append, List.cons_append, List.set_cons_zero, List.set_cons_succ, Nat.zero_add] at H))
  exact ⟨rfl, by simpa using h1, H.ext⟩
theorem c_mustN (x : Slc) (e : Int) (w : World) : C75 x e w (fun r w1 => r = x ∧ e = 0 ∧ w1 = w) fun v w1 => v = Sw.gup e ∧ e ≠ 0 ∧ w1 = w := by
  refine T75 _ _ _ _ _ ?_
  unfold S75
  exact (Sw.c_need _ e w).mono (fun w1 h => ⟨rfl, by simpa using h.1, h.2⟩) fun v w1 h => ⟨h.1, by simpa using h.2.1, h.2.2⟩
end
end Ma
end Go.Proofs.YtcblpehnkogfdaaGreatDoor
/- Text machines: the numbers of an operator. Conditions: sizes, the laid tables. -/
namespace Go.Proofs.YtcblpehnkogfdaaGreatDoor
namespace Ma
open Sh Mat Fix Fo Sw Opr Pat
set_option linter.unusedVariables false
set_option linter.unusedSimpArgs false
set_option maxRecDepth 4000
set_option maxHeartbeats 4000000
theorem fits_at {t : Opr.By} {L : List Ob} {i : Nat} {b : UInt8} {o : Ob} (h : fitsT t L = true) (hb : t[i]? = some b) (ho : L[i]? = some o) : fitsK b o.1 = true := by
  cases hf : fitsK b o.1 with
  | true => rfl
  | false =>
    have := fitsT_no hb ho hf
    rw [h] at this
    cases this
theorem chk_parts {nm d : Opr.By} {L : List Ob} (h : Opr.chkF nm L d = 0) : (takes nm).length = L.length ∧ fitsT (takes nm) L = true := by
  unfold Opr.chkF at h
  split at h
  · cases h
  · split at h
    · cases h
    · rename_i h2
      split at h
      · cases h
      · rename_i h3
        exact ⟨Decidable.of_not_not h2, by simpa using h3⟩
theorem ten_letters : (ten.all fun nm => (takes nm).all fun b => b == 110 || b == 115 || b == 97) = true := by decide +kernel
theorem letter_num {nm d : Opr.By} {L : List Ob} (h : Opr.chkF nm L d = 0) (hten : nm ∈ ten) {i : Nat} (hi : i < L.length) : ∃ b : UInt8, (takes nm)[i]? = some b ∧ decide (b = 110) = isNum L[i] := by
  obtain ⟨h1, h2⟩ := chk_parts h
  have hi2 : i < (takes nm).length := by omega
  refine ⟨(takes nm)[i], List.getElem?_eq_getElem hi2, ?_⟩
  have h3 := fits_at h2 (List.getElem?_eq_getElem hi2) (List.getElem?_eq_getElem hi)
  have h4 := List.all_eq_true.1 (List.all_eq_true.1 ten_letters nm hten) _ (List.getElem_mem hi2)
  generalize (takes nm)[i] = b at *
  generalize L[i] = o at *
  unfold fitsK at h3
  unfold isNum
  by_cases hb : b = 110
  · subst hb
    rw [if_pos rfl] at h3
    rw [decide_eq_true rfl]
    simpa using h3.symm
  · rw [decide_eq_false hb]
    rw [if_neg hb] at h3
    have hb2 : b = 115 ∨ b = 97 := by simpa [hb] using h4
    rcases hb2 with rfl | rfl
    · have : o.1 = 4 := by simpa using h3
      simp [this]
    · have : o.1 = 6 := by simpa using h3
      simp [this]
attribute [local irreducible] Ld Sh.St Nw Nn Lt LdS
section
variable {w : World} {o : OpT} {L : List Ob}
theorem c_numbers (hT : AS w) (hL : OV w o.2.1 L) (hk : Opr.chkF (Opr.bl o.1) L (Opr.bl o.2.2) = 0) (hten : Opr.bl o.1 ∈ ten) : C43 o w (fun r w1 => ∃ n, nmO (L.filter isNum) = some n ∧ IV w1 r n ∧ Ext (fun _ => False) w w1)
    fun v w1 => v = Sw.gup 2 ∧ nmO (L.filter isNum) = none ∧ Ext (fun _ => False) w w1 := by
  refine T43 _ _ _ _ ?_
  unfold S43
  have h6 : L.length ≤ 6 := by
    have := (takes_low (Opr.bl o.1)).1
    have := (chk_parts hk).1
    omega
  refine (Hn.start w).nw fun w2 H => ?_
  refine H.ld 0 rfl (x := o.1) rfl ?_
  refine (c_takes (hT.keep H.ext) o.1).mono ?_
  rintro r4 w5 ⟨rfl, e5⟩
  have H := H.keep e5
  refine H.ld 0 rfl (x := o.1) rfl ?_
  have hlt5 := H.lt 0 rfl
  refine H.nw fun w7 H => ?_
  simp only [List.nil_append, List.cons_append, List.set_cons_zero, List.set_cons_succ, Nat.zero_add] at H
  iterate 3 (refine H.st 1 rfl (by simp) fun _ H => ?_; simp only [List.nil_append, List.cons_append, List.set_cons_zero, List.set_cons_succ, Nat.zero_add] at H)
  refine H.ld 0 rfl (x := o.2.1) rfl ?_
  have hsz : (ba (takes (Opr.bl o.1))).size = L.length := by rw [ba_size, (chk_parts hk).1]
  refine ⟨fun n st w1 => ∃ (i : Nat) (r : Slc), st = (i : Int) ∧ i ≤ L.length ∧ n = L.length - i ∧ Hn w w1 [(w.heap.size, [.string o.1, Slc.v o.2.1, .string o.2.2], 48), (w5.heap.size, [.string o.1, Slc.v r, .string ⟨#[]⟩], 48)] ∧
    Row w1 r 61 6 (((L.take i).filter isNum).flatMap obrow) ∧ (∀ j, r.own j → w5.heap.size < j) ∧ w5.heap.size < w1.heap.size, L.length, ⟨0, ⟨none, 0, 0⟩, rfl, Nat.zero_le _, rfl, H, Row.nil _ _ _, fun j hj => (no_own j hj).elim, H.lt 1 rfl⟩, ?_⟩
  rintro n st w42 ⟨i, r, rfl, hi, rfl, H, hR, ho, hlt⟩
  unfold S43L1
  rw [hL.1]
  refine Br.dec (fun q => ⟨by omega, by omega, ?_⟩) fun q => ?_
  · have hil : i < L.length := by omega
    obtain ⟨a, ha, c0, c1, c2, c3, c4, c5⟩ := (hL.keep H.ext).get (List.getElem?_eq_getElem hil)
    rw [ha, Int.toNat_natCast]
    refine Nn.of (Ld.mk c0 (Ld.mk c1 (Ld.mk c2 (Ld.mk c3 (Ld.mk c4 (Ld.mk c5 ?_))))))
    have HM := H
    have H := Hn.start w42
    refine H.nw fun w51 H => ?_
    simp only [List.nil_append, List.cons_append, List.set_cons_zero, List.set_cons_succ, Nat.zero_add] at H
    iterate 6 (refine H.st 0 rfl (by simp) fun _ H => ?_; simp only [List.nil_append, List.cons_append, List.set_cons_zero, List.set_cons_succ, Nat.zero_add] at H)
    refine ⟨by omega, by rw [hsz]; omega, ?_⟩
    obtain ⟨b, hb, hbn⟩ := letter_num hk hten hil
    have hbt : bAt (ba (takes (Opr.bl o.1))) (i : Int) = (b.toNat : Int) := by
      rw [bAt_list]
      have : (ba (takes (Opr.bl o.1))).data.toList.getD i 0 = b := by
        show (Opr.bl (ba (takes (Opr.bl o.1)))).getD i 0 = b
        rw [bl_ba, List.getD_eq_getElem?_getD, hb]
        rfl
      rw [this]
    rw [hbt]
    have htk : (L.take (i + 1)).filter isNum = (L.take i).filter isNum ++ (if isNum L[i] = true then [L[i]] else []) := by
      rw [Sh.take_succ hil, List.filter_append]
      cases hn : isNum L[i] with
      | true => simp [hn]
      | false => simp [hn]
    rename_i wq
    have HMq := HM.keep H.ext
    refine Br.eq (fun q2 => ?_) fun q2 => ?_
    · have hb1 : b = 110 := by
        apply UInt8.toNat_inj.1
        have : (110 : UInt8).toNat = 110 := rfl
        omega
      have hn : isNum L[i] = true := by rw [← hbn]; exact decide_eq_true hb1
      refine HMq.ld 1 rfl (x := r) rfl ?_
      iterate 6 refine H.ld 0 rfl rfl ?_
      refine Nw.of ?_
      have e1 := (Ext.refl (fun _ => False) wq).alloc (.cells (obrow L[i]).toArray 61)
      have hrl : r.len * 6 = ((L.take i).filter isNum).length * 6 := by
        have := hR.1
        rw [obs_len] at this
        omega
      have hfl : ((L.take i).filter isNum).length ≤ 6 := by
        have := List.length_filter_le isNum (L.take i)
        rw [List.length_take] at this
        omega
      obtain ⟨s', w', hrun, hrow, hlen', hext, hown⟩ := elOb.app1 (ty := 46) (ys := obrow L[i]) ((hR.keep H.ext fun _ _ e => e).keep e1 fun _ _ e => e) (Blk.new wq (obrow L[i]).toArray 61) rfl (ob_one _) (by omega) (by omega)
      refine ⟨s', w', hrun, ?_⟩
      have HA : Hn w w' [(w.heap.size, [.string o.1, Slc.v o.2.1, .string o.2.2], 48), (w5.heap.size, [.string o.1, Slc.v r, .string ⟨#[]⟩], 48)] := (HMq.keep e1).other hext fun j hj => by
        have h1 := ho j hj
        refine ⟨by omega, ?_⟩
        simp only [List.map_cons, List.map_nil, List.mem_cons, List.not_mem_nil, or_false]
        omega
      have hs1 := H.size
      have hs2 := e1.size
      have hs3 := hext.size
      have own2 : ∀ j, s'.own j → w5.heap.size < j := fun j hj => by
        rcases hown j hj with h1 | h1
        · exact ho j h1
        · omega
      refine HA.st' 1 rfl (by simp) fun w68 HB he => ⟨L.length - (i + 1), by omega, i + 1, s', by rw [i64_id (by omega)]; rfl, by omega, rfl, HB, ?_, own2, by have := he.size; omega⟩
      rw [htk, hn, if_pos rfl, List.flatMap_append]
      refine Row.keep (by simpa using hrow) he fun j hj e => ?_
      have e : j = w5.heap.size := e
      have := own2 j hj
      omega
    · have hn : isNum L[i] = false := by
        rw [← hbn]
        refine decide_eq_false fun e => q2 ?_
        rw [e]
        rfl
      refine ⟨L.length - (i + 1), by omega, i + 1, r, by rw [i64_id (by omega)]; rfl, by omega, rfl, HMq, ?_, ho, by have := H.size; omega⟩
      rw [htk, hn, if_neg (by decide), List.append_nil]
      exact hR.keep H.ext fun _ _ e => e
  · have : i = L.length := by omega
    subst this
    rw [List.take_length] at hR
    refine H.ld 1 rfl (x := o.1) rfl (H.ld 1 rfl (x := r) rfl (H.ld 1 rfl (x := ⟨#[]⟩) rfl ?_))
    have hov : OV w42 r (L.filter isNum) := ⟨by have := hR.1; rw [obs_len] at this; omega, hR.view⟩
    have hle := List.length_filter_le isNum L
    refine (c_nums (a := o.1) (d := ⟨#[]⟩) hov (by omega) (fun o2 ho2 => ?_)).mono ?_
    · have := (List.mem_filter.1 ho2).2
      unfold isNum at this
      simpa using this
    · rintro r2 e w74 ⟨e74, hm⟩
      have E := H.ext.tr e74
      cases hn : nmO (L.filter isNum) with
      | none =>
        rw [hn] at hm
        obtain rfl : e = 2 := hm
        exact (c_mustN _ 2 _).mono (fun r3 w3 h => by cases h.2.1) fun v w3 h => ⟨h.1, rfl, by rw [h.2.2]; exact E⟩
      | some l =>
        rw [hn] at hm
        obtain ⟨rfl, hio⟩ : e = 0 ∧ IO w42 w74 r2 l := hm
        refine (c_mustN _ 0 _).mono (fun r3 w3 h => ?_) fun v w3 h => absurd rfl h.2.1
        obtain ⟨rfl, _, rfl⟩ := h
        exact ⟨l, rfl, hio.iv, E⟩
end
end Ma
end Go.Proofs.YtcblpehnkogfdaaGreatDoor
