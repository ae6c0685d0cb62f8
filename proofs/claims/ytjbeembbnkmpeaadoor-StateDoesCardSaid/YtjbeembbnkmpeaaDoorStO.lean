/- What operators keep: a refused one changes nothing, dashes are not negative, what was saved comes back; plain. No condition. -/
import Derived.Test.YtjbeembbnkmpeaaDoorStM
import Derived.Test.YtjbeembbnkmpeaaDoorStN
import Derived.Test.YtjbeembbnkmpeaaDoorObS
namespace Go.Proofs.YtjbeembbnkmpeaaDoor
namespace Ste
open Sh Mat Opr
set_option linter.unusedVariables false
set_option linter.unusedSimpArgs false
section
variable {m m' : Mc} {q : Opn} {p : P} {r old : List P} {e : Int}
theorem doF_stay (h : doF m q = (e, m')) (he : e ≠ 0) : m' = m := by
  by_cases hk : q.nm ∈ known
  case neg =>
    rw [doF_unk hk] at h
    cases h
    rfl
  by_cases hc : chkF q.nm q.L q.d = 0
  case neg =>
    rw [doF_chk hk hc] at h
    cases h
    rfl
  by_cases hq : q.nm = [113]
  · by_cases hl : m.saved.length < 28
    · rw [doF_q hk hc hq hl] at h
      cases h
      exact absurd rfl he
    · rw [doF_qE hk hc hq hl] at h
      cases h
      rfl
  by_cases hQ : q.nm = [81]
  · cases hs : m.saved with
    | nil =>
      rw [doF_QE hk hc hQ hs] at h
      cases h
      rfl
    | cons p r =>
      rw [doF_Q hk hc hQ hs] at h
      cases h
      exact absurd rfl he
  cases hg : chgF q.nm q.L q.K m.now with
  | error e' =>
    rw [doF_er hk hc hq hQ hg] at h
    cases h
    rfl
  | ok p =>
    rw [doF_ok hk hc hq hQ hg] at h
    cases h
    exact absurd rfl he
/-- No dash is negative. -/
def posM (m : Mc) : Prop := (∀ n ∈ m.now.2, 0 ≤ n) ∧ ∀ p ∈ m.saved, ∀ n ∈ p.2, 0 ≤ n
theorem doF_pos (h : doF m q = (e, m')) (hm : posM m) : posM m' := by
  by_cases he : e = 0
  case neg => rw [doF_stay h he]; exact hm
  subst he
  by_cases hk : q.nm ∈ known
  case neg =>
    rw [doF_unk hk] at h
    cases h
  by_cases hc : chkF q.nm q.L q.d = 0
  case neg =>
    rw [doF_chk hk hc] at h
    injection h with h1 h2
    rw [← h2]
    exact hm
  by_cases hq : q.nm = [113]
  · by_cases hl : m.saved.length < 28
    · rw [doF_q hk hc hq hl] at h
      cases h
      refine ⟨hm.1, fun p hp => ?_⟩
      rcases List.mem_cons.1 hp with rfl | hp
      · exact hm.1
      · exact hm.2 p hp
    · rw [doF_qE hk hc hq hl] at h
      cases h
  by_cases hQ : q.nm = [81]
  · cases hs : m.saved with
    | nil =>
      rw [doF_QE hk hc hQ hs] at h
      cases h
    | cons p r =>
      rw [doF_Q hk hc hQ hs] at h
      cases h
      refine ⟨hm.2 p (by rw [hs]; exact List.mem_cons_self ..), fun p' hp => hm.2 p' (by rw [hs]; exact List.mem_cons_of_mem _ hp)⟩
  cases hg : chgF q.nm q.L q.K m.now with
  | error e' =>
    rw [doF_er hk hc hq hQ hg] at h
    injection h with h1 h2
    rw [← h2]
    exact hm
  | ok p =>
    rw [doF_ok hk hc hq hQ hg] at h
    cases h
    refine ⟨?_, hm.2⟩
    rcases chg_dash hg with hd | ⟨_, hd⟩
    · show ∀ n ∈ p.2, 0 ≤ n
      rw [hd]
      exact hm.1
    · exact hd
theorem sames {x : G} {D : List Int} : True := trivial
/-- The state p and the older ones lie below; above them only what was saved later. -/
def Above (m : Mc) (p : P) (old : List P) : Prop := ∃ pre, m.saved = pre ++ (p :: old)
theorem doF_above (h : doF m q = (e, m')) (hm : Above m p old) (hq2 : q.nm ≠ [81] ∨ old.length + 1 < m.saved.length) : Above m' p old := by
  obtain ⟨pre, hp⟩ := hm
  by_cases he : e = 0
  case neg => rw [doF_stay h he]; exact ⟨pre, hp⟩
  subst he
  by_cases hk : q.nm ∈ known
  case neg =>
    rw [doF_unk hk] at h
    cases h
  by_cases hc : chkF q.nm q.L q.d = 0
  case neg =>
    rw [doF_chk hk hc] at h
    injection h with h1 h2
    rw [← h2]
    exact ⟨pre, hp⟩
  by_cases hq : q.nm = [113]
  · by_cases hl : m.saved.length < 28
    · rw [doF_q hk hc hq hl] at h
      cases h
      exact ⟨m.now :: pre, by show m.now :: m.saved = _; rw [hp]; rfl⟩
    · rw [doF_qE hk hc hq hl] at h
      cases h
  by_cases hQ : q.nm = [81]
  · have hlen := hq2.resolve_left (fun h => h hQ)
    cases pre with
    | nil =>
      rw [hp] at hlen
      simp at hlen
    | cons a pre =>
      rw [doF_Q hk hc hQ (by rw [hp]; rfl)] at h
      cases h
      exact ⟨pre, rfl⟩
  cases hg : chgF q.nm q.L q.K m.now with
  | error e' =>
    rw [doF_er hk hc hq hQ hg] at h
    injection h with h1 h2
    rw [← h2]
    exact ⟨pre, hp⟩
  | ok p' =>
    rw [doF_ok hk hc hq hQ hg] at h
    cases h
    exact ⟨pre, hp⟩
theorem known_q : ([113] : By) ∈ known := by decide
theorem known_Q : ([81] : By) ∈ known := by decide
theorem chk_q : chkF [113] [] [] = 0 := by decide
theorem chk_Q : chkF [81] [] [] = 0 := by decide
/-- What q answers. -/
theorem do_q (m : Mc) : doF m ⟨[113], [], [], []⟩ = if m.saved.length < 28 then (0, ⟨m.now, m.now :: m.saved⟩) else (6, m) := by
  by_cases hl : m.saved.length < 28
  · rw [if_pos hl]
    exact doF_q (q := ⟨[113], [], [], []⟩) known_q chk_q rfl hl
  · rw [if_neg hl]
    exact doF_qE (q := ⟨[113], [], [], []⟩) known_q chk_q rfl hl
/-- What Q answers with a state saved. -/
theorem do_Q (h : m.saved = p :: r) : doF m ⟨[81], [], [], []⟩ = (0, ⟨p, r⟩) := doF_Q (q := ⟨[81], [], [], []⟩) known_Q chk_Q rfl h
theorem sameB_er {x y : G} {D E : List Int} (h : er x = er y) : sameB x y D E = sameB x x D E := by
  have e1 : sameB x y D E = sameB (up10 x nilS) (up10 y nilS) D E := (sameB_up x y nilS nilS D E).symm
  have e2 : sameB x x D E = sameB (up10 x nilS) (up10 x nilS) D E := (sameB_up x x nilS nilS D E).symm
  have e3 : up10 y nilS = up10 x nilS := by
    have : er x = up10 x nilS := rfl
    have : er y = up10 y nilS := rfl
    rw [← this, ← h]
    assumption
  rw [e1, e2, e3]
end
end Ste
end Go.Proofs.YtjbeembbnkmpeaaDoor
/- Operators as arguments: what their reading tells. No condition. -/
namespace Go.Proofs.YtjbeembbnkmpeaaDoor
namespace Ste
open Sh Mat Opr
set_option linter.unusedVariables false
set_option linter.unusedSimpArgs false
set_option maxRecDepth 4000
abbrev OpT : Type := ByteArray × Slc × ByteArray
def oprow (o : OpT) : List Value := [.string o.1, Slc.v o.2.1, .string o.2.2]
/-- An operator and its operands. -/
abbrev OpA : Type := OpT × List Ob
def OpOk (w : World) (q : OpA) : Prop := ∃ n, q.2.length ≤ maxLen ∧ OV w q.1.2.1 q.2 ∧ ∀ o ∈ q.2, OT w n o
/-- The operators of a slice. -/
structure OpsV (w : World) (s : Slc) (P : List OpA) : Prop where
  len : s.len = P.length
  most : P.length ≤ maxLen
  at' : ∀ (i : Nat) (q : OpA), P[i]? = some q → ∃ a, s.p = some a ∧ w.cell? (a.add (i * 3)) = some (.string q.1.1) ∧ w.cell? ((a.add (i * 3)).add 1) = some (Slc.v q.1.2.1) ∧ w.cell? ((a.add (i * 3)).add 2) = some (.string q.1.2.2)
  ok : ∀ q ∈ P, OpOk w q
theorem maxLen_le : maxLen ≤ 9223372036854775807 := by decide
theorem OpOk.kids {w : World} {q : OpA} (h : OpOk w q) : ∃ K, OV w (ob0 q.2).2.2.2.2.2 K ∧ K.length ≤ 9223372036854775807 := by
  obtain ⟨n, _, hov, hot⟩ := h
  have hm := maxLen_le
  cases hq : q.2 with
  | nil => exact ⟨[], OVnil w, by simp⟩
  | cons o L =>
    have ho := hot o (by rw [hq]; exact List.mem_cons_self ..)
    cases n with
    | zero => exact ho.elim
    | succ n =>
      obtain ⟨_, K, h1, h2, _⟩ := ho
      exact ⟨K, h2, by omega⟩
theorem op_fields : fieldsAt Tryd.prog 63 = some [(0, 9), (1, 60), (2, 9)] := by kernel_rfl
theorem op_rd {w : World} {n : Nat} {cs : List Value} (h : RdC Tryd.prog w n 63 cs) : ∃ q : OpA, cs = oprow q.1 ∧ OpOk w q := by
  obtain ⟨hl, m, hf⟩ := rdC_struct op_fields h
  rw [show Tryd.prog.cellsOf 63 = 3 by kernel_rfl] at hl
  obtain ⟨c0, c1, c2, rfl⟩ : ∃ c0 c1 c2, cs = [c0, c1, c2] := by
    match cs, hl with
    | [c0, c1, c2], _ => exact ⟨c0, c1, c2, rfl⟩
  have f0 := hf 0 0 9 rfl
  have f1 := hf 1 1 60 rfl
  have f2 := hf 2 2 9 rfl
  rw [show Tryd.prog.cellsOf 9 = 1 by kernel_rfl] at f0 f2
  rw [show Tryd.prog.cellsOf 60 = 1 by kernel_rfl] at f1
  obtain ⟨x0, e0, _⟩ := rdC_string Tryd.underlying9 f0
  obtain ⟨x2, e2, _⟩ := rdC_string Tryd.underlying9 f2
  cases m with
  | zero => exact f1.elim
  | succ m =>
    have : Inhabited Ob := ⟨Mat.ob0⟩
    obtain ⟨x1, L, e1, l1, m1, g1⟩ := rdC_slice' (Q := fun (o : Ob) cs => cs = obrow o ∧ OT w m o) Tryd.underlying60 (show Tryd.prog.cellsOf 81 = 6 by kernel_rfl) f1 fun cs' h => ob_rd m cs' h
    obtain rfl : c0 = .string x0 := by simpa using e0
    obtain rfl : c1 = Slc.v x1 := by simpa using e1
    obtain rfl : c2 = .string x2 := by simpa using e2
    refine ⟨((x0, x1, x2), L), rfl, m, m1, ⟨l1, by rw [obs_len, l1], fun j v hj => ?_⟩, fun o' ho => ?_⟩
    · have hjl : j < L.length * 6 := by
        rw [← obs_len]
        exact (List.getElem?_eq_some_iff.1 hj).1
      have hi : j / 6 < L.length := by omega
      have hjj : j = j / 6 * 6 + j % 6 := by omega
      have hLi : L[j / 6]? = some L[j / 6] := List.getElem?_eq_getElem hi
      obtain ⟨a, cs', ha, hc, rfl, _⟩ := g1 _ _ hLi
      refine ⟨a, ha, ?_⟩
      have h1 := hc (j % 6) (by omega)
      rw [hjj] at hj ⊢
      rw [obs_get hLi (by omega)] at hj
      rw [h1]
      exact hj
    · obtain ⟨i, hi, rfl⟩ := List.mem_iff_getElem.1 ho
      obtain ⟨_, _, _, _, _, h⟩ := g1 i _ (List.getElem?_eq_getElem hi)
      exact h
theorem und_ops : Tryd.prog.underlying 84 = some (.slice 63) := by kernel_rfl
theorem ops_arg {H : Type} {enc : TypeId × Value → H} {W : World} {spare : Nat → Bool} {held : Bool} {v : Value} {d : DataW H} {ps : List MemPlace} {rr : Reach} {b0 : Nat}
    (h0 : Value.okWide Tryd.prog W rr b0 84 v) (h : DataW.Trod enc Tryd.prog W 0 spare held 84 v d ps) : ∃ (s : Slc) (P : List OpA), v = Slc.v s ∧ OpsV W s P := by
  obtain ⟨n, hn⟩ := rdC_arg_slice und_ops h0 h
  have : Inhabited OpA := ⟨((⟨#[]⟩, nilS, ⟨#[]⟩), [])⟩
  obtain ⟨s, L, e, l5, m5, g5⟩ := rdC_slS (Q := fun (q : OpA) cs => cs = oprow q.1 ∧ OpOk W q) und_ops (show Tryd.prog.cellsOf 63 = 3 by kernel_rfl) hn fun m cs' hl h => op_rd h
  refine ⟨s, L, by simpa using e, l5, m5, fun i q hi => ?_, fun q hq => ?_⟩
  · obtain ⟨a, cs', ha, hc, rfl, _⟩ := g5 i q hi
    have h0 := hc 0 (by omega)
    have h1 := hc 1 (by omega)
    have h2 := hc 2 (by omega)
    refine ⟨a, ha, h0, ?_, ?_⟩
    · rw [add_add']
      exact h1
    · rw [add_add']
      exact h2
  · obtain ⟨i, hi, rfl⟩ := List.mem_iff_getElem.1 hq
    obtain ⟨_, _, _, _, _, h⟩ := g5 i _ (List.getElem?_eq_getElem hi)
    exact h
end Ste
end Go.Proofs.YtjbeembbnkmpeaaDoor
