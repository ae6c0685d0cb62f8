/- A stable sort of coins: the whole sort. Conditions: sizes. -/
import Derived.Test.YtjkoafjnmkchdaaGreatDoorQIZe7
import Derived.Test.YtjkoafjnmkchdaaGreatDoorQIZe2
import Derived.Test.YtjkoafjnmkchdaaGreatDoorQIZe5
import Derived.Test.YtjkoafjnmkchdaaGreatDoorQIZe3
import Derived.Shelf.Pu.Clone
import Derived.Test.YtjkoafjnmkchdaaGreatDoorQIZe6
namespace Go.Proofs.YtjkoafjnmkchdaaGreatDoor
namespace Srt
open Sh
set_option linter.unusedVariables false
set_option linter.unusedSimpArgs false
set_option maxRecDepth 4000
set_option maxHeartbeats 4000000
attribute [local irreducible] Ld St Nw Nn Lt LdS
theorem Sz.tail {bs : Nat} {B C : List E} {r : List (List E)} (h : Sz bs (B :: C :: r)) : Sz bs r := by
  match r, h with
  | [], _ => trivial
  | D :: r, h => exact h.2.2
theorem flat_snoc (Ms : List (List E)) (M : List E) : (Ms ++ [M]).flatten = Ms.flatten ++ M := by simp
section
variable {w w1 : World} {s : Slc} {T : List E} {W : Nat → Int} {c : Addr}
theorem c_stable (h : SS w s T c W) (hT : T.Pairwise fun x y => x.2 < y.2) : C131 s ((T.length : Nat) : Int) (clos c) w fun w1 => Ext s.own w w1 ∧ ∃ T', T'.Perm T ∧ So W T' ∧ SS w1 s T' c W := by
  refine T131_F126 _ _ _ _ _ ?_
  unfold S131_F126
  have hbig := h.big
  have tagged : ∀ k x y, x ∈ T.take k → y ∈ T.drop k → x.2 < y.2 := fun k x y hx hy => by
    have := hT
    rw [← List.take_append_drop k T] at this
    exact (List.pairwise_append.1 this).2.2 x hx y hy
  refine ⟨fun n st w1 => ∃ (k : Nat) (Ms : List (List E)), st = (((20 * k : Nat) : Int), ((20 * k + 20 : Nat) : Int)) ∧ 20 * k ≤ T.length ∧ n = T.length - 20 * k ∧ (∀ M ∈ Ms, M.length = 20) ∧ Bk W Ms ∧ Ms.flatten.Perm (T.take (20 * k)) ∧ SS w1 s (Ms.flatten ++ T.drop (20 * k)) c W ∧ Ext s.own w w1, T.length,
    ⟨0, [], rfl, by omega, rfl, fun M hM => (by cases hM), ⟨fun B hB => (by cases hB), List.Pairwise.nil⟩, by simp, by simpa using h, Ext.refl _ _⟩, ?_⟩
  rintro n st w1 ⟨k, Ms, rfl, hk, rfl, hM, hB, hp, H1, e1⟩
  unfold S131_F126L3
  dsimp only
  have lMs : Ms.flatten.length = 20 * k := by rw [hp.length_eq, List.length_take]; omega
  have tgM : ∀ M', (∀ x ∈ M', x ∈ T.drop (20 * k)) → ∀ A ∈ Ms, Tg A M' := fun M' hM' A hA a ha b hb => tagged (20 * k) a b (hp.mem_iff.1 (List.mem_flatten.2 ⟨A, hA, ha⟩)) (hM' b hb)
  refine Br.dec (fun q => ?_) fun q => ?_
  · have hsplit : T.drop (20 * k) = (T.drop (20 * k)).take 20 ++ T.drop (20 * k + 20) := by
      rw [← List.drop_drop, List.take_append_drop]
    have lM : ((T.drop (20 * k)).take 20).length = 20 := by rw [List.length_take, List.length_drop]; omega
    have hTM : ((T.drop (20 * k)).take 20).Pairwise fun x y => x.2 < y.2 := (hT.drop).take
    have htk : T.take (20 * k + 20) = T.take (20 * k) ++ (T.drop (20 * k)).take 20 := List.take_add
    have hsub : ∀ x ∈ (T.drop (20 * k)).take 20, x ∈ T.drop (20 * k) := fun x hx => List.mem_of_mem_take hx
    rw [hsplit, ← List.append_assoc] at H1
    generalize (T.drop (20 * k)).take 20 = M at *
    refine (c_ins (P := Ms.flatten) (M := M) (Q := T.drop (20 * k + 20)) H1 hTM lMs (by omega)).mono ?_
    rintro w2 ⟨e2, M', pM, sM, H2⟩
    have ek : 20 * (k + 1) = 20 * k + 20 := by omega
    refine ⟨T.length - 20 * (k + 1), by omega, k + 1, Ms ++ [M'], pair_eq (by omega) (by rw [i64_id (by omega)]; omega), by omega, rfl, fun X hX => ?_, ⟨fun X hX => ?_, ?_⟩, ?_, ?_, e1.tr e2⟩
    · rcases List.mem_append.1 hX with hX | hX
      · exact hM X hX
      · rw [List.mem_singleton.1 hX, pM.length_eq, lM]
    · rcases List.mem_append.1 hX with hX | hX
      · exact hB.so X hX
      · rw [List.mem_singleton.1 hX]; exact sM
    · refine List.pairwise_append.2 ⟨hB.tg, List.pairwise_singleton _ _, fun A hA X hX => ?_⟩
      rw [List.mem_singleton.1 hX]
      exact tgM M' (fun x hx => hsub x (pM.mem_iff.1 hx)) A hA
    · rw [flat_snoc, ek, htk]
      exact hp.append pM
    · rw [flat_snoc, ek]
      exact H2
  · refine (c_ins (P := Ms.flatten) (M := T.drop (20 * k)) (Q := []) (by simpa using H1) (hT.drop) lMs (b := T.length) (by rw [List.length_drop]; omega)).mono ?_
    rintro w2 ⟨e2, M', pM, sM, H2⟩
    have lM' : M'.length = T.length - 20 * k := by rw [pM.length_eq, List.length_drop]
    obtain ⟨Bs, hfl, hsz, hbk⟩ : ∃ Bs, Bs.flatten = Ms.flatten ++ M' ∧ Sz 20 Bs ∧ Bk W Bs := by
      by_cases hnil : M' = []
      · refine ⟨Ms, by rw [hnil]; simp, ?_, hB⟩
        have := Sz.app (bs := 20) (Rs := []) hM trivial (by decide)
        simpa using this
      · refine ⟨Ms ++ [M'], flat_snoc _ _, Sz.app hM ⟨List.length_pos_iff.2 hnil, by omega⟩ (by decide), ⟨fun X hX => ?_, ?_⟩⟩
        · rcases List.mem_append.1 hX with hX | hX
          · exact hB.so X hX
          · rw [List.mem_singleton.1 hX]; exact sM
        · refine List.pairwise_append.2 ⟨hB.tg, List.pairwise_singleton _ _, fun A hA X hX => ?_⟩
          rw [List.mem_singleton.1 hX]
          exact tgM M' (fun x hx => pM.mem_iff.1 hx) A hA
    have hperm : Bs.flatten.Perm T := by
      rw [hfl]
      have := hp.append pM
      rwa [List.take_append_drop] at this
    have H2 : SS w2 s Bs.flatten c W := by rw [hfl]; simpa using H2
    refine ⟨fun n st w1 => ∃ (bs : Nat) (Bs : List (List E)), st = ((bs : Nat) : Int) ∧ 20 ≤ bs ∧ bs ≤ 2 * T.length + 20 ∧ n = T.length - bs ∧ Sz bs Bs ∧ Bk W Bs ∧ Bs.flatten.Perm T ∧ SS w1 s Bs.flatten c W ∧ Ext s.own w w1, T.length - 20, ⟨20, Bs, rfl, by omega, by omega, rfl, hsz, hbk, hperm, H2, e1.tr e2⟩, ?_⟩
    clear hperm H2 hsz hbk hfl e2 H1 e1
    rintro n st w3 ⟨bs, Bs, rfl, hb20, hbT, rfl, hsz, hbk, hperm, H3, e3⟩
    unfold S131_F126L2
    refine Br.dec (fun q2 => ?_) fun q2 => ⟨e3, _, hperm, hbk.done hsz (by omega) (by rw [hperm.length_eq]; omega), H3⟩
    rw [i64_id (n := 2 * (bs : Int)) (by omega)]
    refine ⟨fun n st w1 => ∃ (Ms Rs : List (List E)), st = (((Ms.length * (2 * bs) : Nat) : Int), ((Ms.length * (2 * bs) + 2 * bs : Nat) : Int)) ∧ n = Rs.length ∧ (∀ M ∈ Ms, M.length = 2 * bs) ∧ Sz bs Rs ∧ Bk W (Ms ++ Rs) ∧ (Ms ++ Rs).flatten.Perm T ∧ SS w1 s (Ms ++ Rs).flatten c W ∧ Ext s.own w w1, Bs.length,
      ⟨[], Bs, pair_eq (by simp) (by simp), rfl, fun M hM => (by cases hM), hsz, hbk, hperm, H3, e3⟩, ?_⟩
    clear hperm H3 hsz hbk e3
    rintro n st w4 ⟨Ms, Rs, rfl, rfl, hM, hsz, hbk, hperm, H4, e4⟩
    unfold S131_F126L1
    dsimp only
    have lMs := flat_full hM
    have ltot : Ms.flatten.length + Rs.flatten.length = T.length := by rw [← List.length_append, ← List.flatten_append]; exact hperm.length_eq
    have hb0 : 1 ≤ bs := by omega
    have fin : ∀ (w5 : World) (Rs' : List (List E)), Sz (2 * bs) Rs' → Bk W (Ms ++ Rs') → (Ms ++ Rs').flatten.Perm T → SS w5 s (Ms ++ Rs').flatten c W → Ext s.own w w5 → ∃ n', n' < T.length - bs ∧ ∃ (bs' : Nat) (Bs : List (List E)), IntKind.i64.wrap ((bs : Int) * 2) = ((bs' : Nat) : Int) ∧ 20 ≤ bs' ∧ bs' ≤ 2 * T.length + 20 ∧ n' = T.length - bs' ∧ Sz bs' Bs ∧ Bk W Bs ∧ Bs.flatten.Perm T ∧ SS w5 s Bs.flatten c W ∧ Ext s.own w w5 :=
      fun w5 Rs' z1 z2 z3 z4 z5 => ⟨T.length - 2 * bs, by omega, 2 * bs, Ms ++ Rs', by rw [i64_id (by omega)]; omega, by omega, by omega, rfl, Sz.app hM z1 (by omega), z2, z3, z4, z5⟩
    generalize hA : Ms.length * (2 * bs) = A at *
    rw [i64_id (n := (A : Int) + (bs : Int)) (by omega), show (A : Int) + (bs : Int) = ((A + bs : Nat) : Int) by omega]
    refine Br.dec (fun q3 => ?_) fun q3 => Br.dec (fun q4 => ?_) fun q4 => ?_
    · match Rs, hsz, hbk, hperm, H4, ltot with
      | [], _, _, _, _, ltot => simp only [List.flatten_nil, List.length_nil] at ltot; omega
      | [B], hsz, _, _, _, ltot =>
        have h2 := hsz.2
        simp only [List.flatten_cons, List.flatten_nil, List.length_append, List.length_nil, List.append_nil] at ltot
        omega
      | B :: C :: r, hsz, hbk, hperm, H4, ltot =>
        have lB := hsz.1
        have lC : C.length = bs := by
          match r, hsz with
          | [], hsz =>
            have h2 := hsz.2.2
            simp only [List.flatten_cons, List.flatten_nil, List.length_append, List.length_nil, List.append_nil] at ltot
            omega
          | D :: r, hsz => exact hsz.2.1
        have sB := hbk.so B (by simp)
        have sC := hbk.so C (by simp)
        have tBC : Tg B C := by
          have := (List.pairwise_append.1 hbk.tg).2.1
          exact (List.pairwise_cons.1 this).1 C (by simp)
        refine (c_sym (B.length + C.length) (P := Ms.flatten) (U := B) (V := C) (Q := r.flatten) (a := A) (m := A + bs) (b := A + 2 * bs) (by simpa using H4) sB sC tBC (by intro e; rw [e] at lB; simp at lB; omega) (by intro e; rw [e] at lC; simp at lC; omega) (by omega) (by omega) (by omega) (Nat.le_refl _)).mono ?_
        rintro w5 ⟨e5, M, pM, sM, H5⟩
        have eq1 : (Ms ++ [M]) ++ r = Ms ++ M :: r := by simp
        refine ⟨r.length, by simp; omega, Ms ++ [M], r, ?_, rfl, fun X hX => ?_, hsz.tail, by rw [eq1]; exact hbk.merge sM pM, by rw [eq1]; exact merge_perm hperm pM, by rw [eq1]; simpa using H5, e4.tr e5⟩
        · have eA : (Ms ++ [M]).length * (2 * bs) = A + 2 * bs := by rw [List.length_append, Nat.add_mul, hA]; simp
          rw [eA]
          exact pair_eq rfl (by rw [i64_id (n := 2 * (bs : Int)) (by omega), i64_id (by omega)]; omega)
        · rcases List.mem_append.1 hX with hX | hX
          · exact hM X hX
          · rw [List.mem_singleton.1 hX, pM.length_eq, List.length_append]; omega
    · match Rs, hsz, hbk, hperm, H4, ltot with
      | [], _, _, _, _, ltot => simp only [List.flatten_nil, List.length_nil] at ltot; omega
      | [B], hsz, _, _, _, ltot =>
        have h2 := hsz.2
        simp only [List.flatten_cons, List.flatten_nil, List.length_append, List.length_nil, List.append_nil] at ltot
        omega
      | B :: C :: D :: r, hsz, _, _, _, ltot =>
        have lB := hsz.1
        have lC := hsz.2.1
        simp only [List.flatten_cons, List.flatten_nil, List.length_append, List.length_nil, List.append_nil] at ltot
        omega
      | [B, C], hsz, hbk, hperm, H4, ltot =>
        have lB := hsz.1
        have lC := hsz.2
        have sB := hbk.so B (by simp)
        have sC := hbk.so C (by simp)
        have tBC : Tg B C := by
          have := (List.pairwise_append.1 hbk.tg).2.1
          exact (List.pairwise_cons.1 this).1 C (by simp)
        simp only [List.flatten_cons, List.flatten_nil, List.append_nil, List.length_append] at ltot
        refine (c_sym (B.length + C.length) (P := Ms.flatten) (U := B) (V := C) (Q := []) (a := A) (m := A + bs) (b := T.length) (by simpa using H4) sB sC tBC (by intro e; rw [e] at lB; simp at lB; omega) (by intro e; have := lC.1; rw [e] at this; simp at this) (by omega) (by omega) (by omega) (Nat.le_refl _)).mono ?_
        rintro w5 ⟨e5, M, pM, sM, H5⟩
        have lM : M.length = B.length + C.length := by rw [pM.length_eq, List.length_append]
        have hlc := lC.1
        have hlc2 := lC.2
        exact fin w5 [M] ⟨by omega, by omega⟩ (hbk.merge sM pM) (merge_perm hperm pM) (by simpa using H5) (e4.tr e5)
    · match Rs, hsz, hbk, hperm, H4, ltot with
      | [], hsz, hbk, hperm, H4, ltot => exact fin w4 [] trivial hbk hperm H4 e4
      | [B], hsz, hbk, hperm, H4, ltot => exact fin w4 [B] ⟨hsz.1, by have := hsz.2; omega⟩ hbk hperm H4 e4
      | B :: C :: r, hsz, _, _, _, ltot =>
        have lB := hsz.1
        have lC := (Sz.len hb0 hsz.2 C (by simp)).1
        simp only [List.flatten_cons, List.flatten_nil, List.length_append, List.length_nil, List.append_nil] at ltot
        omega
theorem c_sort (h : SS w s T c W) (hT : T.Pairwise fun x y => x.2 < y.2) : C125 s (clos c) w fun w1 => Ext s.own w w1 ∧ ∃ T', T'.Perm T ∧ So W T' ∧ SS w1 s T' c W := by
  refine T125_F126 _ _ _ _ ?_
  unfold S125_F126
  rw [h.row.len]
  exact c_stable h hT
end
end Srt
end Go.Proofs.YtjkoafjnmkchdaaGreatDoor

/- What 'append(s, make(n)...)' does to a nil slice; a slice cut to nothing. Conditions: sizes. -/
namespace Go.Proofs.YtjkoafjnmkchdaaGreatDoor
namespace Sh
set_option linter.unusedVariables false
set_option linter.unusedSimpArgs false
section
variable {P : Program} {t e ti : TypeId} {k B : Nat} {z : Value} {w : World} {ty : TypeId}
theorem El.grow (h : El P t e k B z) (hti : P.underlying ti = some (.int .i64)) {n : Nat} (hn : 0 < n) (hk : 0 < k) (hb : n * B ≤ 140737488355328) (h63 : n ≤ 4611686018427387904) :
    ∃ s' w', RunV P (Builtin.append_ #[t, ti] ty #[Slc.v ⟨none, 0, 0⟩, .int .i64 (n : Int)]) w (Slc.v s') w' ∧ Row w' (s'.cut k 0 0 s'.cap) e k [] ∧ Ext (fun _ => False) w w' ∧ (∀ j, s'.own j → w.heap.size ≤ j) := by
  obtain ⟨i, hi, rfl, rfl, hz⟩ := h.info
  have hge := grownCap_ge w n 0 e
  have hfit : ¬ (281474976710656 < Builtin.nextslicecap n 0 * i.bytes) := by
    have := growslice_fits (need := n) (old := 0) (bytes := i.bytes) hn hb
    omega
  have h6 : ¬ (9223372036854775807 < (n : Int)) := by omega
  have hw : IntKind.i64.wrap (n : Int) = (n : Int) := IntWalk.i64_in n (by omega)
  have hn0 : ¬ (n = 0) := by omega
  have hk0 : ¬ (i.size = 0) := by omega
  have hbytes : ¬ (281474976710656 < (n : Int) * (i.bytes : Int)) := by
    have : ((n * i.bytes : Nat) : Int) ≤ 140737488355328 := by omega
    rw [Int.natCast_mul] at this
    omega
  have hneg : ¬ ((n : Int) < 0) := by omega
  refine ⟨⟨some ⟨w.heap.size, 0, none⟩, n, grownCap w n 0 e⟩, w.drew.alloc (.cells (Builtin.zeroCells z.cells n ++ Builtin.zeroCells z.cells (grownCap w n 0 e - n)) e), ?_, ⟨by simp [Slc.cut], .inr ⟨w.heap.size, _, ?_, Blk.new w.drew _ _, ?_, ?_, ?_⟩⟩, ((Ext.refl _ w).drew).alloc _, fun j hj => ?_⟩
  · simp [RunV, Slc.v, Builtin.append_, run_underlying h.und, run_underlying hti, sizeOf, typeInfo, zeroValue, asInt, asIntOf, hi, hz, hw, hneg, hbytes, hn0, hk0, h6, hfit, Question.forced, run_firstCells_none, newRow, grownCap]
    intro h0
    have := Nat.mul_pos hn hk
    omega
  · show (if grownCap w n 0 e = 0 then some (⟨w.heap.size, 0, none⟩ : Addr) else _) = _
    rw [if_neg (by omega)]
    simp
  · exact Nat.zero_le _
  · show _ = (grownCap w n 0 e - 0) * i.size
    simp only [Array.size_append, size_zeroCells, h.cells]
    rw [← Nat.add_mul]
    congr 1
    omega
  · simp [Slc.cut]
  · obtain ⟨a, ha, rfl⟩ := hj
    cases ha
    exact Nat.le_refl _
end
end Sh
end Go.Proofs.YtjkoafjnmkchdaaGreatDoor

/- Rows of coins as trees: joined and sorted is merged. Conditions: sizes. -/
namespace Go.Proofs.YtjkoafjnmkchdaaGreatDoor
namespace Srt
open Sh Pm
set_option linter.unusedVariables false
set_option linter.unusedSimpArgs false
set_option maxRecDepth 4000
set_option maxHeartbeats 4000000
theorem elP : El Tryz.prog 143 144 1 8 (.pointer none) := ⟨by kernel_rfl, by kernel_rfl, by kernel_rfl, by kernel_rfl, rfl⟩
theorem Blk.ty {w : World} {b : Nat} {cs cs' : Array Value} {t t' : TypeId} (h : Blk w b cs t) (k : Blk w b cs' t') : t = t' := by
  unfold Blk at h k
  rw [h] at k
  cases k
  rfl
/-- A tree in memory. -/
def CT (w : World) (b : Nat) : Tr → Prop
  | .leaf s x => Blk w b #[.int .i64 x, .int .i64 (s : Int), .pointer none, .pointer none] 146
  | .node l r => ∃ b1 b2 : Nat, Blk w b #[.int .i64 (l.w + r.w), .int .i64 0, ptr b1, ptr b2] 146 ∧ CT w b1 l ∧ CT w b2 r
theorem CT.blk {w : World} : ∀ {b : Nat} {t : Tr}, CT w b t → ∃ cs, Blk w b cs 146 ∧ cs[0]? = some (.int .i64 t.w)
  | b, .leaf s x, h => ⟨_, h, rfl⟩
  | b, .node l r, ⟨b1, b2, h, _, _⟩ => ⟨_, h, rfl⟩
/-- Other types' blocks may turn. -/
theorem CT.keep {F : Nat → Prop} {w w' : World} (he : Ext F w w') (hF : ∀ j, F j → ∀ cs, ¬ Blk w j cs 146) : ∀ {b : Nat} {t : Tr}, CT w b t → CT w' b t
  | b, .leaf s x, h => he.blk h fun hf => hF _ hf _ h
  | b, .node l r, ⟨b1, b2, h, h1, h2⟩ => ⟨b1, b2, he.blk h fun hf => hF _ hf _ h, CT.keep he hF h1, CT.keep he hF h2⟩
theorem CT.still {w w' : World} (he : Ext (fun _ => False) w w') {b : Nat} {t : Tr} (h : CT w b t) : CT w' b t := CT.keep he (fun _ h => h.elim) h
theorem CT.wt {w : World} {b : Nat} {t : Tr} (h : CT w b t) : w.cell? ⟨b, 0, none⟩ = some (.int .i64 t.w) := by
  obtain ⟨cs, h1, h2⟩ := h.blk
  rw [h1.cell]
  exact h2
/-- A row of trees. -/
def pl (L : List (Nat × Tr)) : List Value := L.map fun p => ptr p.1
def RT (w : World) (s : Slc) (L : List (Nat × Tr)) : Prop := Row w s 144 1 (pl L) ∧ ∀ p ∈ L, CT w p.1 p.2
theorem pl_len (L : List (Nat × Tr)) : (pl L).length = L.length := by unfold pl; simp
theorem pl_app (L M : List (Nat × Tr)) : pl (L ++ M) = pl L ++ pl M := by unfold pl; simp
theorem pl_one (L : List (Nat × Tr)) : ∀ v ∈ pl L, v.oneCell' = true := by
  intro v hv
  obtain ⟨p, _, rfl⟩ := List.mem_map.1 hv
  rfl
section
variable {w w1 : World} {s s2 : Slc} {L M : List (Nat × Tr)}
theorem RT.len (h : RT w s L) : s.len = L.length := by
  have := h.1.1
  rw [pl_len] at this
  omega
theorem RT.nil (w : World) : RT w ⟨none, 0, 0⟩ [] := ⟨Row.nil _ _ _, fun p hp => by cases hp⟩
theorem RT.own_ty (h : RT w s L) {j : Nat} (hj : s.own j) : ∃ cs, Blk w j cs 144 := by
  obtain ⟨a, ha, rfl⟩ := hj
  rcases h.1.2 with rfl | ⟨g, cur, hp, hb, _⟩
  · cases ha
  · rw [hp] at ha
    cases ha
    exact ⟨_, hb⟩
theorem own_coin (h : RT w s L) : ∀ j, s.own j → ∀ cs, ¬ Blk w j cs 146 := fun j hj cs hb => by
  obtain ⟨cs', hb'⟩ := h.own_ty hj
  have := Blk.ty hb hb'
  revert this
  decide
theorem RT.keep (h : RT w s L) (he : Ext (fun _ => False) w w1) : RT w1 s L := ⟨h.1.keep he fun _ _ e => e, fun p hp => (h.2 p hp).still he⟩
theorem RT.get (h : RT w s L) {i : Nat} {p : Nat × Tr} (hi : L[i]? = some p) : ∃ g, s.p = some ⟨g, 0, none⟩ ∧ w.cell? ⟨g, i, none⟩ = some (ptr p.1) ∧ CT w p.1 p.2 := by
  obtain ⟨g, hg, hc⟩ := h.1.cell (j := i) (v := ptr p.1) (by unfold pl; rw [List.getElem?_map, hi]; rfl)
  exact ⟨g, hg, hc, h.2 p (List.mem_of_getElem? hi)⟩
theorem RT.snoc {ty : TypeId} {b gb : Nat} {t : Tr} (h : RT w s L) (hb : Blk w gb #[ptr b] 144) (ht : CT w b t) (hL : L.length ≤ 100000) :
    ∃ s' w', RunV Tryz.prog (Builtin.append_ #[143, 143] ty #[Slc.v s, Slc.v ⟨some ⟨gb, 0, none⟩, 1, 1⟩]) w (Slc.v s') w' ∧ RT w' s' (L ++ [(b, t)]) ∧ Ext s.own w w' ∧ ∀ j, s'.own j → s.own j ∨ w.heap.size ≤ j := by
  have hl := h.len
  obtain ⟨s', w', r1, r2, r3, r4, r5⟩ := elP.app1 (ty := ty) (ys := [ptr b]) h.1 hb rfl (by intro v hv; rw [List.mem_singleton.1 hv]; rfl) (by omega) (by omega)
  refine ⟨s', w', r1, ⟨by rw [pl_app]; exact r2, fun p hp => ?_⟩, r4, r5⟩
  rcases List.mem_append.1 hp with hp | hp
  · exact (h.2 p hp).keep r4 (own_coin h)
  · rw [List.mem_singleton.1 hp]
    exact CT.keep r4 (own_coin h) ht
theorem RT.app {ty : TypeId} (h : RT w s L) (k : RT w s2 M) (hL : L.length + M.length ≤ 100000) :
    ∃ s' w', RunV Tryz.prog (Builtin.append_ #[143, 143] ty #[Slc.v s, Slc.v s2]) w (Slc.v s') w' ∧ RT w' s' (L ++ M) ∧ Ext s.own w w' ∧ ∀ j, s'.own j → s.own j ∨ w.heap.size ≤ j := by
  have hl := h.len
  have hk := k.len
  obtain ⟨s', w', r1, r2, r3, r4, r5⟩ := elP.app (ty := ty) h.1 k.1.view (pl_one _) (by omega) (by omega)
  refine ⟨s', w', r1, ⟨by rw [pl_app]; exact r2, fun p hp => ?_⟩, r4, r5⟩
  rcases List.mem_append.1 hp with hp | hp
  · exact (h.2 p hp).keep r4 (own_coin h)
  · exact (k.2 p hp).keep r4 (own_coin h)
attribute [local irreducible] Ld St Nw Nn Lt LdS
theorem c_grow (w : World) {n : Nat} (hn : n ≤ 200000) : C130 ⟨none, 0, 0⟩ (n : Int) w (fun r w1 => RT w1 r [] ∧ Ext (fun _ => False) w w1 ∧ ∀ j, r.own j → w.heap.size ≤ j) fun _ _ => False := by
  refine T130 _ _ _ _ _ ?_
  unfold S130
  refine Br.dec (fun q => by omega) fun q => Lt.of ?_
  have e : IntKind.i64.wrap ((n : Int) - IntKind.i64.wrap (((0 : Nat) : Int) - ((0 : Nat) : Int))) = (n : Int) := by
    rw [i64_id (n := ((0 : Nat) : Int) - ((0 : Nat) : Int)) (by omega), i64_id (by omega)]
    omega
  show Br (decide (IntKind.i64.wrap ((n : Int) - IntKind.i64.wrap (((0 : Nat) : Int) - ((0 : Nat) : Int))) > 0)) _ _
  rw [e]
  refine Br.dec (fun q1 => ⟨by omega, by omega, ?_⟩) fun q1 => ⟨RT.nil _, Ext.refl _ _, fun j hj => by obtain ⟨a, ha, _⟩ := hj; cases ha⟩
  obtain ⟨s', w', r1, r2, r3, r4⟩ := elP.grow (w := w) (ti := 3) (ty := 143) (by kernel_rfl) (n := n) (by omega) (by decide) (by omega) (by omega)
  refine ⟨s', w', r1, by simp only [Slc.cap]; omega, by show ((0 : Nat) : Int) ≤ _; omega, ⟨r2, fun p hp => by cases hp⟩, r3, fun j hj => ?_⟩
  obtain ⟨a, ha, rfl⟩ := hj
  refine r4 _ ?_
  have ha : (if s'.cap = 0 then s'.p else s'.p.map (·.add (0 * 1))) = some a := ha
  split at ha
  · exact ⟨a, ha, rfl⟩
  · obtain ⟨x, hx, rfl⟩ := Option.map_eq_some_iff.1 ha
    exact ⟨x, hx, (add_block x _).symm⟩
theorem c_concat (h : RT w s L) (k : RT w s2 M) (hL : L.length + M.length ≤ 100000) {g : Nat} (hg : Blk w g #[Slc.v s, Slc.v s2] 143) :
    C124 ⟨some ⟨g, 0, none⟩, 2, 2⟩ w (fun r w1 => RT w1 r (L ++ M) ∧ Ext (fun _ => False) w w1 ∧ ∀ j, r.own j → w.heap.size ≤ j) fun _ _ => False := by
  refine T124 _ _ _ _ ?_
  unfold S124
  have hl := h.len
  have hk := k.len
  have c0 : w.cell? ⟨g, 0, none⟩ = some (Slc.v s) := by rw [hg.cell]; rfl
  have c1 : w.cell? ⟨g, 1, none⟩ = some (Slc.v s2) := by rw [hg.cell]; rfl
  refine ⟨fun n st w1 => w1 = w ∧ ((n = 2 ∧ st = ((0 : Int), (0 : Int))) ∨ (n = 1 ∧ st = (((L.length : Nat) : Int), (1 : Int))) ∨ (n = 0 ∧ st = (((L.length + M.length : Nat) : Int), (2 : Int)))), 2, ⟨rfl, .inl ⟨rfl, rfl⟩⟩, ?_⟩
  rintro n st w1 ⟨rfl, hst⟩
  unfold S124L2
  rcases hst with ⟨rfl, rfl⟩ | ⟨rfl, rfl⟩ | ⟨rfl, rfl⟩
  · refine Srt.Br.t rfl ⟨by simp, by simp, Nn.of (Ld.mk c0 (Br.dec (fun q => ?_) fun q => ⟨1, by decide, rfl, .inr (.inl ⟨rfl, ?_⟩)⟩))⟩
    · dsimp only at q
      rw [i64_id (by omega)] at q
      omega
    · dsimp only
      rw [i64_id (by omega)]
      exact pair_eq (by omega) rfl
  · refine Srt.Br.t rfl ⟨by simp, by simp, Nn.of (Ld.mk c1 (Br.dec (fun q => ?_) fun q => ⟨0, by decide, rfl, .inr (.inr ⟨rfl, ?_⟩)⟩))⟩
    · dsimp only at q
      rw [i64_id (by omega)] at q
      omega
    · dsimp only
      rw [i64_id (by omega)]
      exact pair_eq (by omega) rfl
  · refine Srt.Br.f rfl ?_
    dsimp only
    refine (c_grow w1 (by omega)).mono ?_ (fun _ _ h => h)
    rintro r w2 ⟨hr, e2, o2⟩
    have h2 := h.keep e2
    have k2 := k.keep e2
    have c0 : w2.cell? ⟨g, 0, none⟩ = some (Slc.v s) := e2.cell_same c0
    have c1 : w2.cell? ⟨g, 1, none⟩ = some (Slc.v s2) := e2.cell_same c1
    have hg1 : g < w1.heap.size := hg.lt
    have other : ∀ {w3 w4 : World} {r : Slc} (hw : w1.heap.size ≤ w3.heap.size), (∀ j, r.own j → w1.heap.size ≤ j) → Ext r.own w3 w4 → Ext (fun _ => False) w1 w3 → Ext (fun _ => False) w1 w4 := fun {w3 w4 r} hw ho he he2 => he2.trans he (fun _ h => h) fun i hi hh => absurd hi (by have := ho i hh; omega)
    refine ⟨fun n st w3 => Ext (fun _ => False) w1 w3 ∧ (∀ j, st.1.own j → w1.heap.size ≤ j) ∧ ((n = 2 ∧ st.2 = (0 : Int) ∧ RT w3 st.1 []) ∨ (n = 1 ∧ st.2 = (1 : Int) ∧ RT w3 st.1 L) ∨ (n = 0 ∧ st.2 = (2 : Int) ∧ RT w3 st.1 (L ++ M))), 2, ⟨e2, o2, .inl ⟨rfl, rfl, hr⟩⟩, ?_⟩
    rintro n ⟨r, i⟩ w3 ⟨e3, o3, hst⟩
    unfold S124L1
    dsimp only at *
    have h3 := h.keep e3
    have k3 := k.keep e3
    have c0 : w3.cell? ⟨g, 0, none⟩ = some (Slc.v s) := e3.cell_same (by rw [hg.cell]; rfl)
    have c1 : w3.cell? ⟨g, 1, none⟩ = some (Slc.v s2) := e3.cell_same (by rw [hg.cell]; rfl)
    rcases hst with ⟨rfl, rfl, hr⟩ | ⟨rfl, rfl, hr⟩ | ⟨rfl, rfl, hr⟩
    · obtain ⟨s', w4, r1, r2, r3, r4⟩ := hr.app (ty := 143) h3 (by simp; omega)
      refine Srt.Br.t rfl ⟨by simp, by simp, Nn.of (Ld.mk c0 ⟨s', w4, r1, 1, by decide, other e3.size o3 r3 e3, fun j hj => ?_, .inr (.inl ⟨rfl, rfl, r2⟩)⟩)⟩
      have := e3.size
      rcases r4 j hj with hh | hh
      · exact o3 j hh
      · omega
    · obtain ⟨s', w4, r1, r2, r3, r4⟩ := hr.app (ty := 143) k3 (by omega)
      refine Srt.Br.t rfl ⟨by simp, by simp, Nn.of (Ld.mk c1 ⟨s', w4, r1, 0, by decide, other e3.size o3 r3 e3, fun j hj => ?_, .inr (.inr ⟨rfl, rfl, r2⟩)⟩)⟩
      have := e3.size
      rcases r4 j hj with hh | hh
      · exact o3 j hh
      · omega
    · exact Srt.Br.f rfl ⟨hr, e3, o3⟩
/-! ### Tags -/
def tag : Nat → List (Nat × Tr) → List E
  | _, [] => []
  | n, p :: r => (p.1, n) :: tag (n + 1) r
theorem tag_ptrs : ∀ (n : Nat) (L : List (Nat × Tr)), ptrs (tag n L) = pl L
  | _, [] => rfl
  | n, p :: r => by
    have := tag_ptrs (n + 1) r
    unfold ptrs pl at *
    simp [tag, this]
theorem tag_ge : ∀ (n : Nat) (L : List (Nat × Tr)), ∀ e ∈ tag n L, n ≤ e.2 ∧ e.2 < n + L.length ∧ ∃ p, L[e.2 - n]? = some p ∧ p.1 = e.1
  | _, [], e, h => by cases h
  | n, p :: r, e, h => by
    rcases List.mem_cons.1 h with rfl | h
    · exact ⟨Nat.le_refl _, by simp, p, by simp, rfl⟩
    · obtain ⟨h1, h2, q, h3, h4⟩ := tag_ge (n + 1) r e h
      refine ⟨by omega, by simp; omega, q, ?_, h4⟩
      rw [show e.2 - n = (e.2 - (n + 1)) + 1 by omega]
      simpa using h3
theorem tag_up : ∀ (n : Nat) (L : List (Nat × Tr)), (tag n L).Pairwise fun x y => x.2 < y.2
  | _, [] => List.Pairwise.nil
  | n, p :: r => List.pairwise_cons.2 ⟨fun e he => by have := (tag_ge _ _ e he).1; show n < e.2; omega, tag_up (n + 1) r⟩
theorem tag_app : ∀ (n : Nat) (L M : List (Nat × Tr)), tag n (L ++ M) = tag n L ++ tag (n + L.length) M
  | n, [], M => by simp [tag]
  | n, p :: r, M => by
    have := tag_app (n + 1) r M
    simp only [List.cons_append, tag, this, List.length_cons]
    rw [show n + 1 + r.length = n + (r.length + 1) by omega]
theorem tag_len : ∀ (n : Nat) (L : List (Nat × Tr)), (tag n L).length = L.length
  | _, [] => rfl
  | n, p :: r => by simp [tag, tag_len (n + 1) r]
/-- What a tag stands for. -/
def un (L : List (Nat × Tr)) (e : E) : Nat × Tr := L.getD e.2 default
theorem un_tag (K : List (Nat × Tr)) : ∀ (n : Nat) (L : List (Nat × Tr)), (∀ i p, L[i]? = some p → K[n + i]? = some p) → (tag n L).map (un K) = L
  | _, [], _ => rfl
  | n, p :: r, h => by
    have h0 := h 0 p rfl
    have ih := un_tag K (n + 1) r fun i q hq => by
      have := h (i + 1) q (by simpa using hq)
      rw [show n + 1 + i = n + (i + 1) by omega]
      exact this
    simp only [tag, List.map_cons, ih]
    congr 1
    unfold un
    rw [List.getD_eq_getElem?_getD]
    rw [Nat.add_zero] at h0
    simp only [h0, Option.getD_some]
def wOf (w : World) (b : Nat) : Int := match w.cell? ⟨b, 0, none⟩ with
  | some (.int .i64 x) => x
  | _ => 0
theorem wOf_ct {b : Nat} {t : Tr} (h : CT w b t) : wOf w b = t.w := by
  unfold wOf
  rw [h.wt]
def leE (W : Nat → Int) (a b : E) : Bool := decide (W a.1 ≤ W b.1)
theorem so_merge {W : Nat → Int} : ∀ (N : Nat) (A B : List E), A.length + B.length ≤ N → So W A → So W B → Tg A B → So W (List.merge A B (leE W))
  | _, [], B, _, _, hB, _ => by simpa [List.merge] using hB
  | _, a :: A, [], _, hA, _, _ => by simpa [List.merge] using hA
  | 0, a :: A, b :: B, h, _, _, _ => by simp at h
  | N + 1, a :: A, b :: B, h, hA, hB, hT => by
    simp only [List.length_cons] at h
    obtain ⟨a1, a2⟩ := List.pairwise_cons.1 hA
    obtain ⟨b1, b2⟩ := List.pairwise_cons.1 hB
    by_cases hab : W a.1 ≤ W b.1
    · rw [List.cons_merge_cons_pos _ _ _ (by simpa [leE] using hab)]
      have hlt : lt W a b := lt_of hab (hT a (by simp) b (by simp))
      refine List.pairwise_cons.2 ⟨fun y hy => ?_, so_merge N A (b :: B) (by simp only [List.length_cons]; omega) a2 hB (hT.sub (fun x hx => List.mem_cons_of_mem _ hx) fun x hx => hx)⟩
      rcases List.mem_merge.1 hy with hy | hy
      · exact a1 y hy
      · rcases List.mem_cons.1 hy with rfl | hy
        · exact hlt
        · exact lt_trans hlt (b1 y hy)
    · rw [List.cons_merge_cons_neg _ _ _ (by simpa [leE] using hab)]
      have hlt : lt W b a := .inl (by omega)
      refine List.pairwise_cons.2 ⟨fun y hy => ?_, so_merge N (a :: A) B (by simp only [List.length_cons]; omega) hA b2 (hT.sub (fun x hx => hx) fun x hx => List.mem_cons_of_mem _ hx)⟩
      rcases List.mem_merge.1 hy with hy | hy
      · rcases List.mem_cons.1 hy with rfl | hy
        · exact hlt
        · exact lt_trans hlt (a1 y hy)
      · exact b1 y hy
theorem so_tag {W : Nat → Int} : ∀ (n : Nat) (L : List (Nat × Tr)), (∀ p ∈ L, W p.1 = p.2.w) → Up (L.map (·.2)) → So W (tag n L)
  | _, [], _, _ => List.Pairwise.nil
  | n, p :: r, hW, hU => by
    obtain ⟨h1, h2⟩ := List.pairwise_cons.1 hU
    refine List.pairwise_cons.2 ⟨fun e he => ?_, so_tag (n + 1) r (fun q hq => hW q (by simp [hq])) h2⟩
    obtain ⟨g1, g2, q, g3, g4⟩ := tag_ge _ _ e he
    have hq : q ∈ r := List.mem_of_getElem? g3
    refine lt_of ?_ (by show n < e.2; omega)
    have := h1 q.2 (List.mem_map_of_mem hq)
    show W p.1 ≤ W e.1
    rw [← g4, hW q (by simp [hq]), hW p (by simp)]
    exact this
end
end Srt
end Go.Proofs.YtjkoafjnmkchdaaGreatDoor

/- Package-merge as the program does it: merged, pairs, each. Conditions: sizes. -/
namespace Go.Proofs.YtjkoafjnmkchdaaGreatDoor
namespace Srt
open Sh Pm
set_option linter.unusedVariables false
set_option linter.unusedSimpArgs false
set_option maxRecDepth 4000
set_option maxHeartbeats 4000000
attribute [local irreducible] Ld St Nw Nn Lt LdS
def trs (L : List (Nat × Tr)) : List Tr := L.map (·.2)
theorem trs_len (L : List (Nat × Tr)) : (trs L).length = L.length := by unfold trs; simp
theorem trs_app (L M : List (Nat × Tr)) : trs (L ++ M) = trs L ++ trs M := by unfold trs; simp
theorem trs_get {L : List (Nat × Tr)} {i : Nat} {p : Nat × Tr} (h : L[i]? = some p) : (trs L)[i]? = some p.2 := by
  unfold trs
  rw [List.getElem?_map, h]
  rfl
section
variable {w w1 : World} {s s2 : Slc} {L M : List (Nat × Tr)}
def dT : Tr := .leaf 0 0
/-- The stable order of a list: there is one alone. -/
def Stb (A S : List Tr) : Prop := ∃ js : List Nat, js.Perm (List.range A.length) ∧ js.Pairwise (fun i j => (A.getD i dT).w < (A.getD j dT).w ∨ ((A.getD i dT).w = (A.getD j dT).w ∧ i < j)) ∧ S = js.map fun i => A.getD i dT
theorem Stb.one {A S S' : List Tr} (h : Stb A S) (k : Stb A S') : S = S' := by
  obtain ⟨a, a1, a2, rfl⟩ := h
  obtain ⟨b, b1, b2, rfl⟩ := k
  have : a = b := (a1.trans b1.symm).eq_of_pairwise (le := fun i j => (A.getD i dT).w < (A.getD j dT).w ∨ ((A.getD i dT).w = (A.getD j dT).w ∧ i < j)) (fun i j _ _ h k => by omega) a2 b2
  rw [this]
theorem tag_snd : ∀ (n : Nat) (L : List (Nat × Tr)), (tag n L).map (·.2) = List.range' n L.length
  | n, [] => rfl
  | n, p :: L => by
    show n :: (tag (n + 1) L).map (·.2) = _
    rw [tag_snd, List.length_cons, List.range'_succ]
/-- A row is sorted, whatever sorts it; two sorted rows are merged. -/
def Mg (L M R : List (Nat × Tr)) : Prop := R.Perm (L ++ M) ∧ Up (trs R) ∧ (Up (trs L) → Up (trs M) → trs R = mg (trs L) (trs M)) ∧ Stb (trs (L ++ M)) (trs R)
theorem sorted_mg {W : Nat → Int} {T' : List E} (hW : ∀ p ∈ L ++ M, W p.1 = p.2.w) (hp : T'.Perm (tag 0 (L ++ M))) (hs : So W T') : Mg L M (T'.map (un (L ++ M))) ∧ pl (T'.map (un (L ++ M))) = ptrs T' := by
  have hun : ∀ e ∈ T', ∃ p ∈ L ++ M, un (L ++ M) e = p ∧ p.1 = e.1 := fun e he => by
    obtain ⟨g1, g2, p, g3, g4⟩ := tag_ge _ _ e (hp.mem_iff.1 he)
    rw [Nat.sub_zero] at g3
    refine ⟨p, List.mem_of_getElem? g3, ?_, g4⟩
    unfold un
    rw [List.getD_eq_getElem?_getD, g3]
    rfl
  have hid : (tag 0 (L ++ M)).map (un (L ++ M)) = L ++ M := un_tag (L ++ M) 0 (L ++ M) fun i p h => by rw [Nat.zero_add]; exact h
  refine ⟨⟨?_, ?_, fun uL uM => ?_, ?_⟩, ?_⟩
  · have := hp.map (un (L ++ M))
    rwa [hid] at this
  · unfold trs
    rw [List.map_map]
    refine List.pairwise_map.2 ?_
    refine List.Pairwise.imp_of_mem ?_ hs
    intro a b ha hb hab
    obtain ⟨p, hp1, hp2, hp3⟩ := hun a ha
    obtain ⟨q, hq1, hq2, hq3⟩ := hun b hb
    have := le_of_lt hab
    simp only [Function.comp, hp2, hq2]
    rw [← hW p hp1, ← hW q hq1, hp3, hq3]
    exact this
  · have sL : So W (tag 0 L) := so_tag 0 L (fun p hp => hW p (List.mem_append_left _ hp)) uL
    have sM : So W (tag L.length M) := so_tag _ M (fun p hp => hW p (List.mem_append_right _ hp)) uM
    have tT : Tg (tag 0 L) (tag L.length M) := fun a ha b hb => by
      have := (tag_ge _ _ a ha).2.1
      have := (tag_ge _ _ b hb).1
      omega
    have e0 : tag 0 (L ++ M) = tag 0 L ++ tag L.length M := by rw [tag_app, Nat.zero_add]
    have e1 : T' = List.merge (tag 0 L) (tag L.length M) (leE W) := so_unique hs (so_merge _ _ _ (Nat.le_refl _) sL sM tT) (by rw [e0] at hp; exact hp.trans (List.merge_perm_append _).symm)
    have iL : (tag 0 L).map (un (L ++ M)) = L := un_tag _ 0 L fun i p h => by
      rw [Nat.zero_add, List.getElem?_append_left (List.getElem?_eq_some_iff.1 h).1]
      exact h
    have iM : (tag L.length M).map (un (L ++ M)) = M := un_tag _ _ M fun i p h => by
      rw [List.getElem?_append_right (by omega), Nat.add_sub_cancel_left]
      exact h
    have eL : (tag 0 L).map (fun e => (un (L ++ M) e).2) = trs L := by
      unfold trs
      conv => rhs; rw [← iL]
      rw [List.map_map]
      rfl
    have eM : (tag L.length M).map (fun e => (un (L ++ M) e).2) = trs M := by
      unfold trs
      conv => rhs; rw [← iM]
      rw [List.map_map]
      rfl
    unfold trs
    rw [List.map_map, e1]
    show List.map (fun e => (un (L ++ M) e).2) _ = _
    rw [List.map_merge (s := le) (f := fun e => (un (L ++ M) e).2), eL, eM]
    · rfl
    · intro a ha b hb
      have ha' : a ∈ T' := by rw [e1]; exact List.mem_merge.2 (.inl ha)
      have hb' : b ∈ T' := by rw [e1]; exact List.mem_merge.2 (.inr hb)
      obtain ⟨p, hp1, hp2, hp3⟩ := hun a ha'
      obtain ⟨q, hq1, hq2, hq3⟩ := hun b hb'
      unfold leE le
      rw [hp2, hq2, ← hW p hp1, ← hW q hq1, hp3, hq3]
  · have key : ∀ e ∈ T', (trs (L ++ M)).getD e.2 dT = (un (L ++ M) e).2 ∧ (un (L ++ M) e).2.w = W e.1 := fun e he => by
      obtain ⟨g1, g2, p, g3, g4⟩ := tag_ge _ _ e (hp.mem_iff.1 he)
      rw [Nat.sub_zero] at g3
      have hu : un (L ++ M) e = p := by
        unfold un
        rw [List.getD_eq_getElem?_getD, g3]
        rfl
      refine ⟨?_, ?_⟩
      · rw [List.getD_eq_getElem?_getD, trs_get g3, hu]
        rfl
      · rw [hu, ← hW p (List.mem_of_getElem? g3), g4]
    refine ⟨T'.map (·.2), ?_, ?_, ?_⟩
    · have := hp.map (·.2)
      rw [tag_snd, ← List.range_eq_range'] at this
      rw [trs_len]
      exact this
    · refine List.pairwise_map.2 ?_
      refine List.Pairwise.imp_of_mem ?_ hs
      intro a b ha hb hab
      obtain ⟨a1, a2⟩ := key a ha
      obtain ⟨b1, b2⟩ := key b hb
      rw [a1, b1, a2, b2]
      exact hab
    · unfold trs
      rw [List.map_map, List.map_map]
      refine List.map_congr_left fun e he => ?_
      have := (key e he).1
      unfold trs at this
      simp only [Function.comp]
      exact this.symm
  · unfold pl ptrs
    rw [List.map_map]
    refine List.map_congr_left fun e he => ?_
    obtain ⟨p, hp1, hp2, hp3⟩ := hun e he
    simp only [Function.comp, hp2, hp3]
theorem c_merged (h : RT w s L) (k : RT w s2 M) (hL : L.length + M.length ≤ 100000) : C95 s s2 w (fun r w1 => Ext (fun _ => False) w w1 ∧ (∀ j, r.own j → w.heap.size ≤ j) ∧ ∃ R, RT w1 r R ∧ Mg L M R) fun _ _ => False := by
  refine T95 _ _ _ _ _ ?_
  unfold S95
  refine C113.mono (T113_F114 s s2 w (fun r w1 => Ext (fun _ => False) w w1 ∧ (∀ j, r.own j → w.heap.size ≤ j) ∧ ∃ R, RT w1 r R ∧ Mg L M R) (fun _ _ => False) ?_) (fun _ _ h => h) fun _ _ h => h
  unfold S113_F114
  refine (Hn.start w).nw fun w2 H => ?_
  refine H.nw fun w3 H => ?_
  have hc := H.get 0 rfl
  have hg := H.get 1 rfl
  have e3 := H.ext
  refine (c_concat (h.keep e3) (k.keep e3) hL hg).mono ?_ (fun _ _ h => h)
  rintro r w4 ⟨hr, e4, o4⟩
  have hc4 : w4.cell? ⟨w.heap.size, 0, none⟩ = some wfn := by
    have : w3.cell? ⟨w.heap.size, 0, none⟩ = some wfn := by rw [hc.cell]; rfl
    exact e4.cell_same this
  have hlt : w.heap.size < w3.heap.size := H.lt 0 rfl
  have hlen := hr.len
  rw [List.length_append] at hlen
  have hW : ∀ p ∈ L ++ M, wOf w4 p.1 = p.2.w := fun p hp => wOf_ct (hr.2 p hp)
  have HS : SS w4 r (tag 0 (L ++ M)) ⟨w.heap.size, 0, none⟩ (wOf w4) := by
    refine ⟨?_, hc4, fun e he => ?_, fun e he hj => ?_, fun hj => ?_, by rw [tag_len, List.length_append]; omega⟩
    · unfold PR
      rw [tag_ptrs]
      exact hr.1
    · obtain ⟨_, _, p, g3, g4⟩ := tag_ge _ _ e he
      have hp := List.mem_of_getElem? g3
      rw [← g4, hW p hp]
      exact (hr.2 p hp).wt
    · obtain ⟨_, _, p, g3, g4⟩ := tag_ge _ _ e he
      obtain ⟨cs, hb, _⟩ := (hr.2 p (List.mem_of_getElem? g3)).blk
      rw [g4] at hb
      exact own_coin hr _ hj _ hb
    · have := o4 _ hj
      simp only at this
      omega
  refine (c_sort HS (tag_up _ _)).mono ?_
  rintro w5 ⟨e5, T', hp, hs, H5⟩
  obtain ⟨hm, hpl⟩ := sorted_mg hW hp hs
  have E4 := e3.tr e4
  refine ⟨E4.trans e5 (fun _ h => h) fun i hi hh => absurd hi (by have := o4 i hh; omega), fun j hj => by have := o4 j hj; omega, _, ⟨by rw [hpl]; exact H5.row, fun p hp' => ?_⟩, hm⟩
  exact (hr.2 p (hm.1.mem_iff.1 hp')).keep e5 (own_coin hr)
theorem prs_snoc {l : List Tr} {k : Nat} {x y : Tr} (hx : l[2 * k]? = some x) (hy : l[2 * k + 1]? = some y) : prs (l.take (2 * (k + 1))) = prs (l.take (2 * k)) ++ [.node x y] := by
  have ly := (List.getElem?_eq_some_iff.1 hy).1
  have hlt : k < (prs l).length := by rw [prs_len]; omega
  obtain ⟨x', y', h1, h2, h3⟩ := prs_get k l _ (List.getElem?_eq_getElem hlt)
  rw [hx] at h1
  rw [hy] at h2
  cases h1
  cases h2
  rw [prs_take, prs_take, List.take_add_one, List.getElem?_eq_getElem hlt, h3]
  rfl
theorem c_pairs (h : RT w s L) (hL : L.length ≤ 100000) (hw : ∀ p ∈ L, 0 ≤ p.2.w ∧ p.2.w ≤ 1000000000000000) : C96 s w fun r w1 => Ext (fun _ => False) w w1 ∧ (∀ j, r.own j → w.heap.size ≤ j) ∧ ∃ R, RT w1 r R ∧ trs R = prs (trs L) := by
  refine T96 _ _ _ ?_
  unfold S96
  have hl := h.len
  refine ⟨fun n st w1 => ∃ (k : Nat) (R : List (Nat × Tr)), st.2 = ((2 * k : Nat) : Int) ∧ 2 * k ≤ L.length + 1 ∧ n = L.length + 2 - 2 * k ∧ R.length = k ∧ RT w1 st.1 R ∧ trs R = prs ((trs L).take (2 * k)) ∧ Ext (fun _ => False) w w1 ∧ ∀ j, st.1.own j → w.heap.size ≤ j, L.length + 2, ⟨0, [], rfl, by omega, rfl, rfl, RT.nil _, by simp [trs, prs], Ext.refl _ _, fun j hj => by obtain ⟨a, ha, _⟩ := hj; cases ha⟩, ?_⟩
  rintro n ⟨r, i⟩ w1 ⟨k, R, hi, hk, rfl, hR, h1, h2, e1, o1⟩
  unfold S96L1
  dsimp only at *
  subst hi
  rw [i64_id (n := ((2 * k : Nat) : Int) + 1) (by omega)]
  refine Br.dec (fun q => ?_) fun q => ?_
  · obtain ⟨p1, hp1⟩ : ∃ p, L[2 * k]? = some p := ⟨_, List.getElem?_eq_getElem (by omega)⟩
    obtain ⟨p2, hp2⟩ : ∃ p, L[2 * k + 1]? = some p := ⟨_, List.getElem?_eq_getElem (by omega)⟩
    have hd : Ext (fun _ => False) w w1.drew := e1.drew
    have hd1 := h.keep hd
    obtain ⟨g, hg, c1, t1⟩ := hd1.get hp1
    obtain ⟨g', hg', c2, t2⟩ := hd1.get hp2
    rw [hg] at hg'
    cases hg'
    have b1 := hw _ (List.mem_of_getElem? hp1)
    have b2 := hw _ (List.mem_of_getElem? hp2)
    rw [hg]
    refine ⟨fun w' => w' = w1.drew, rfl, by omega, by omega, Nn.of ?_⟩
    simp only [add_lit, Int.toNat_natCast, Nat.mul_one, Nat.zero_add]
    have e2k : (((2 * k : Nat) : Int) + 1).toNat = 2 * k + 1 := by omega
    refine ldS_mk (x := some ⟨p1.1, 0, none⟩) (fun w' e => e ▸ c1) (Nn.of (ldS_mk (x := p1.2.w) (fun w' e => e ▸ t1.wt) ⟨by omega, by omega, Nn.of ?_⟩))
    simp only [add_lit, e2k, Nat.mul_one, Nat.zero_add]
    refine ldS_mk (x := some ⟨p2.1, 0, none⟩) (fun w' e => e ▸ c2) (Nn.of (ldS_mk (x := p2.2.w) (fun w' e => e ▸ t2.wt) ⟨by omega, by omega, Nn.of ?_⟩))
    simp only [add_lit, Int.toNat_natCast, Nat.mul_one, Nat.zero_add]
    refine ldS_mk (x := some ⟨p1.1, 0, none⟩) (fun w' e => e ▸ c1) ⟨by omega, by omega, Nn.of ?_⟩
    simp only [add_lit, e2k, Nat.mul_one, Nat.zero_add]
    refine ldS_mk (x := some ⟨p2.1, 0, none⟩) (fun w' e => e ▸ c2) ?_
    rw [i64_id (n := p1.2.w + p2.2.w) (by omega)]
    refine (Hn.start w1.drew).nw fun w2 H => ?_
    refine H.nw fun w3 H => ?_
    have hb := H.get 0 rfl
    have hp := H.get 1 rfl
    have e3 := H.ext
    have hnode : CT w3 w1.drew.heap.size (.node p1.2 p2.2) := ⟨p1.1, p2.1, hb, t1.still e3, t2.still e3⟩
    have h13 : RT w3 r R := h1.keep (Ext.tr (Ext.refl _ w1).drew e3)
    obtain ⟨s', w4, r1, r2, r3, r4⟩ := h13.snoc (ty := 143) hp hnode (by omega)
    have E3 : Ext (fun _ => False) w w3 := hd.tr e3
    refine ⟨s', w4, r1, L.length + 2 - 2 * (k + 1), by omega, k + 1, R ++ [(w1.drew.heap.size, .node p1.2 p2.2)], by rw [i64_id (by omega)]; omega, by omega, rfl, by rw [List.length_append, hR]; rfl, r2, ?_, E3.trans r3 (fun _ h => h) fun i hi hh => absurd hi (by have := o1 i hh; omega), fun j hj => ?_⟩
    · rw [trs_app, h2, prs_snoc (trs_get hp1) (trs_get hp2)]
      rfl
    · have := E3.size
      rcases r4 j hj with hh | hh
      · exact o1 j hh
      · omega
  · refine ⟨e1, o1, R, h1, ?_⟩
    rw [h2]
    by_cases e : 2 * k ≤ L.length
    · have hl2 : (trs L).length / 2 = k := by rw [trs_len]; omega
      rw [prs_take, List.take_of_length_le (by rw [prs_len, hl2]; exact Nat.le_refl _)]
    · rw [List.take_of_length_le (by rw [trs_len]; omega)]
/-! ### Counting the signs -/
def lst (f : Nat → Nat) (n : Nat) : List Int := (List.range n).map fun i => (f i : Int)
theorem lst_len (f : Nat → Nat) (n : Nat) : (lst f n).length = n := by unfold lst; simp
theorem lst_get {f : Nat → Nat} {n i : Nat} (h : i < n) : (Inf.ints (lst f n))[i]? = some (.int .i64 (f i : Int)) := by
  unfold Inf.ints lst
  rw [List.getElem?_map, List.getElem?_map, List.getElem?_range h]
  rfl
theorem lst_set {f : Nat → Nat} {n i : Nat} {x : Nat} (h : i < n) : (Inf.ints (lst f n)).set i (.int .i64 (x : Int)) = Inf.ints (lst (fun j => if i = j then x else f j) n) := by
  rw [Inf.ints_set]
  congr 1
  apply List.ext_getElem?
  intro j
  unfold lst
  rw [List.getElem?_set, List.length_map, List.length_range, List.getElem?_map, List.getElem?_map]
  by_cases e : i = j
  · subst e
    rw [if_pos rfl, if_pos h, List.getElem?_range h]
    simp
  · rw [if_neg e]
    by_cases hj : j < n
    · rw [List.getElem?_range hj]
      simp [e]
    · rw [List.getElem?_eq_none (by rw [List.length_range]; omega)]
      rfl
/-- The row that is counted in, and the variable that holds it. -/
structure OB (w : World) (g cO n : Nat) (f : Nat → Nat) : Prop where
  row : Blk w g (Inf.ints (lst f n)).toArray 3
  var : w.cell? ⟨cO, 0, none⟩ = some (Slc.v ⟨some ⟨g, 0, none⟩, n, n⟩)
  ne : cO ≠ g
theorem OB.coin {g cO n : Nat} {f : Nat → Nat} (h : OB w g cO n f) : ∀ j, j = g → ∀ cs, ¬ Blk w j cs 146 := fun j hj cs hb => by
  subst hj
  have := Blk.ty hb h.row
  revert this
  decide
theorem c_tell {g cO n i : Nat} {f : Nat → Nat} (h : OB w g cO n f) (hi : i < n) (hf : f i ≤ 1000000) : C98 (i : Int) ⟨cO, 0, none⟩ w fun w1 => Ext (· = g) w w1 ∧ OB w1 g cO n fun j => f j + if i = j then 1 else 0 := by
  refine T98 _ _ _ _ ?_
  unfold S98
  refine Ld.mk h.var ⟨by omega, by show (i : Int) < ((n : Nat) : Int); omega, Nn.of ?_⟩
  simp only [add_lit, Int.toNat_natCast, Nat.mul_one, Nat.zero_add]
  refine Ld.mk (x := (f i : Int)) (by rw [h.row.cell]; simpa using lst_get hi) ⟨by omega, by omega, Nn.of ?_⟩
  rw [i64_id (by omega), show (f i : Int) + 1 = ((f i + 1 : Nat) : Int) by omega]
  simp only [add_lit, Int.toNat_natCast, Nat.mul_one, Nat.zero_add]
  have e1 : Ext (· = g) w (w.setCell ⟨g, i, none⟩ (.int .i64 ((f i + 1 : Nat) : Int))) := (Ext.refl (· = g) w).set (.inl rfl) _
  unfold St
  refine ⟨h.row.can (by rw [List.size_toArray, Inf.ints_len, lst_len]; exact hi), e1, ?_, ?_, h.ne⟩
  · have := h.row.set i (.int .i64 ((f i + 1 : Nat) : Int))
    rw [List.setIfInBounds_toArray, lst_set hi] at this
    have e : (fun j => if i = j then f i + 1 else f j) = fun j => f j + if i = j then 1 else 0 := by
      funext j
      by_cases e : i = j
      · subst e; simp
      · simp [e]
    rw [e] at this
    exact this
  · rw [e1.cell (cell_lt' h.var) h.ne]
    exact h.var
theorem c_each {g cO n : Nat} : ∀ (t : Tr) {w : World} {b : Nat} {f : Nat → Nat} {c : List Int}, CT w b t → OB w g cO n f → t.ok c → c.length = n → (∀ i, f i + t.cnt i ≤ 1000000) →
    C97 (some ⟨b, 0, none⟩) (.func (.func 98) #[] #[.pointer (some ⟨cO, 0, none⟩)]) w fun w1 => Ext (· = g) w w1 ∧ OB w1 g cO n fun j => f j + t.cnt j
  | .leaf sn x, w, b, f, c, ht, ho, hk, hn, hf => by
    refine T97_F98 _ _ _ _ ?_
    unfold S97_F98
    have ht : Blk w b #[.int .i64 x, .int .i64 (sn : Int), .pointer none, .pointer none] 146 := ht
    refine Nn.of ?_
    simp only [add_lit, Nat.zero_add]
    refine Ld.mk (x := none) (by rw [ht.cell]; rfl) (Srt.Br.t rfl (Nn.of ?_))
    simp only [add_lit, Nat.zero_add]
    refine Ld.mk (x := (sn : Int)) (by rw [ht.cell]; rfl) ?_
    have := hf sn
    exact c_tell ho (by rw [← hn]; exact hk.1) (by omega)
  | .node l r, w, b, f, c, ht, ho, hk, hn, hf => by
    refine T97_F98 _ _ _ _ ?_
    unfold S97_F98
    obtain ⟨b1, b2, hb, hl, hr⟩ := ht
    refine Nn.of ?_
    simp only [add_lit, Nat.zero_add]
    refine Ld.mk (x := some ⟨b1, 0, none⟩) (by rw [hb.cell]; rfl) (Srt.Br.f rfl (Nn.of ?_))
    simp only [add_lit, Nat.zero_add]
    refine Ld.mk (x := some ⟨b1, 0, none⟩) (by rw [hb.cell]; rfl) ?_
    refine (c_each l hl ho hk.1 hn fun i => by have := hf i; simp only [Tr.cnt] at this; omega).mono ?_
    rintro w1 ⟨e1, ho1⟩
    have hb1 : Blk w1 b _ 146 := e1.blk hb fun hh => ho.coin _ hh _ hb
    refine Nn.of ?_
    simp only [add_lit, Nat.zero_add]
    refine Ld.mk (x := some ⟨b2, 0, none⟩) (by rw [hb1.cell]; rfl) ?_
    refine (c_each r (hr.keep e1 ho.coin) ho1 hk.2 hn fun i => by have := hf i; simp only [Tr.cnt] at this; omega).mono ?_
    rintro w2 ⟨e2, ho2⟩
    refine ⟨e1.tr e2, ?_⟩
    have e : (fun j => f j + l.cnt j + r.cnt j) = fun j => f j + (Tr.node l r).cnt j := by
      funext j
      simp only [Tr.cnt]
      omega
    rw [e] at ho2
    exact ho2
end
end Srt
end Go.Proofs.YtjkoafjnmkchdaaGreatDoor

/- Package-merge as the program does it: Lengths. Conditions: sizes. -/
namespace Go.Proofs.YtjkoafjnmkchdaaGreatDoor
namespace Srt
open Sh Pm Inf
set_option linter.unusedVariables false
set_option linter.unusedSimpArgs false
set_option maxRecDepth 4000
set_option maxHeartbeats 4000000
attribute [local irreducible] Ld St Nw Nn Lt LdS
theorem Ext.new {F : Nat → Prop} {a b c : World} (h : Ext (fun _ => False) a b) (k : Ext F b c) (hF : ∀ j, F j → a.heap.size ≤ j) : Ext (fun _ => False) a c :=
  h.trans k (fun _ h => h) fun i hi hh => absurd hi (by have := hF i hh; omega)
section
variable {w w1 : World} {s : Slc} {c : List Int} {most : Int}
theorem why_arg (h : c.length ≤ 288) (hm : 1 ≤ most ∧ most ≤ 15) {i : Nat} (hi : i < c.length) (hc : c.getD i 0 < 0 ∨ 2147483647 < c.getD i 0) : why c most = 1 := by
  unfold why
  rw [if_neg (by omega), if_neg (by omega), if_pos]
  refine List.any_eq_true.2 ⟨c.getD i 0, ?_, by simpa using hc⟩
  rw [List.getD_eq_getElem?_getD, List.getElem?_eq_getElem hi]
  exact List.getElem_mem hi
theorem why_rest (h : c.length ≤ 288) (hm : 1 ≤ most ∧ most ≤ 15) (hc : ∀ i, i < c.length → 0 ≤ c.getD i 0 ∧ c.getD i 0 ≤ 2147483647) : why c most = if 2 ^ most.toNat < (srt c).length then 13 else 0 := by
  unfold why
  rw [if_neg (by omega), if_neg (by omega), if_neg]
  intro ha
  obtain ⟨x, hx, hh⟩ := List.any_eq_true.1 ha
  obtain ⟨i, hi, rfl⟩ := List.mem_iff_getElem.1 hx
  have := hc i hi
  rw [List.getD_eq_getElem?_getD, List.getElem?_eq_getElem hi, Option.getD_some] at this
  simp only [Bool.or_eq_true, decide_eq_true_eq] at hh
  omega
theorem lst_lens (T : List Tr) (n : Nat) : lst (fun i => cs i T) n = lensOf T n := rfl
theorem lst_zero (n : Nat) : lst (fun _ => 0) n = List.replicate n 0 := by
  unfold lst
  rw [List.map_const', List.length_range]
  rfl
theorem OB.still {g cO n : Nat} {f : Nat → Nat} (h : OB w g cO n f) (he : Ext (fun _ => False) w w1) : OB w1 g cO n f := ⟨he.blk h.row id, he.cell_same h.var, h.ne⟩
theorem OB.iv {g cO n : Nat} {f : Nat → Nat} (h : OB w g cO n f) : IV w ⟨some ⟨g, 0, none⟩, n, n⟩ (lst f n) := IV.blk h.row (lst_len f n).symm
/-- The lengths that are given: there is one list alone. -/
def LenOf (c : List Int) (mo : Nat) (l : List Int) : Prop := ((lv c c.length).length < 2 ∧ l = lst (fun i => cs i (lv c c.length)) c.length) ∨ (2 ≤ (lv c c.length).length ∧ ∃ S, Stb (lv c c.length) S ∧ l = lst (fun j => cs j ((rows S (mo - 1)).take (2 * S.length - 2))) c.length)
theorem LenOf.one {c : List Int} {mo : Nat} {l l' : List Int} (h : LenOf c mo l) (k : LenOf c mo l') : l = l' := by
  rcases h with ⟨h1, h2⟩ | ⟨h1, S, h2, h3⟩
  · rcases k with ⟨k1, k2⟩ | ⟨k1, _⟩
    · rw [h2, k2]
    · omega
  · rcases k with ⟨k1, k2⟩ | ⟨k1, S', k2, k3⟩
    · omega
    · rw [h3, k3, h2.one k2]
theorem c_lengthsC (h : IV w s c) : C63 s most w (fun r e w1 => e = why c most ∧ Ext (fun _ => False) w w1 ∧ (why c most ≠ 0 → r.len = 0) ∧ (why c most = 0 → ∃ l, IV w1 r l ∧ LR c most.toNat l ∧ r.len ≤ r.cap ∧ LenOf c most.toNat l)) fun _ _ => False := by
  refine T63 _ _ _ _ _ ?_
  unfold S63
  have h1 := h.1
  refine Br.dec (fun q => ?_) fun q => Br.dec (fun q2 => ?_) fun q2 => Br.dec (fun q3 => ?_) fun q3 => ?_
  · have e : why c most = 6 := by unfold why; rw [if_pos (by omega)]
    exact ⟨e.symm, Ext.refl _ _, fun _ => rfl, fun hh => by rw [e] at hh; cases hh⟩
  · have e : why c most = 1 := by unfold why; rw [if_neg (by omega), if_pos (.inl q2)]
    exact ⟨e.symm, Ext.refl _ _, fun _ => rfl, fun hh => by rw [e] at hh; cases hh⟩
  · have e : why c most = 1 := by unfold why; rw [if_neg (by omega), if_pos (.inr q3)]
    exact ⟨e.symm, Ext.refl _ _, fun _ => rfl, fun hh => by rw [e] at hh; cases hh⟩
  have hm : 1 ≤ most ∧ most ≤ 15 := by omega
  have hlen : c.length ≤ 288 := by omega
  refine ⟨fun n st w1 => ∃ (i : Nat) (L : List (Nat × Tr)), st.2 = (i : Int) ∧ i ≤ c.length ∧ n = c.length - i ∧ (∀ j, j < i → 0 ≤ c.getD j 0 ∧ c.getD j 0 ≤ 2147483647) ∧ RT w1 st.1 L ∧ trs L = lv c i ∧ Ext (fun _ => False) w w1 ∧ ∀ j, st.1.own j → w.heap.size ≤ j, c.length, ⟨0, [], rfl, by omega, rfl, fun j hj => by omega, RT.nil _, rfl, Ext.refl _ _, fun j hj => by obtain ⟨a, ha, _⟩ := hj; cases ha⟩, ?_⟩
  rintro n ⟨r, i⟩ w1 ⟨i, L, rfl, hi, rfl, hc, hr, hL, e1, o1⟩
  unfold S63L3
  dsimp only at *
  rw [h1]
  have hLl : L.length = (lv c i).length := by rw [← hL, trs_len]
  have hLi := lv_len c i
  refine Br.dec (fun q => ⟨by omega, by omega, ?_⟩) fun q => ?_
  · have hlt : i < c.length := by omega
    obtain ⟨a, ha, hcell⟩ := (h.keep e1).get hlt
    rw [ha, Int.toNat_natCast]
    have lvs : lv c (i + 1) = if 0 < c.getD i 0 then lv c i ++ [.leaf i (c.getD i 0)] else lv c i := rfl
    refine Nn.of (Ld.mk hcell (Br.dec (fun q4 => ?_) fun q4 => Br.dec (fun q5 => ?_) fun q5 => ?_))
    · have e := why_arg hlen hm hlt (.inl q4)
      exact ⟨e.symm, e1, fun _ => rfl, fun hh => by rw [e] at hh; cases hh⟩
    · have e := why_arg hlen hm hlt (.inr q5)
      exact ⟨e.symm, e1, fun _ => rfl, fun hh => by rw [e] at hh; cases hh⟩
    have hc' : ∀ j, j < i + 1 → 0 ≤ c.getD j 0 ∧ c.getD j 0 ≤ 2147483647 := fun j hj => by
      by_cases e : j = i
      · subst e; omega
      · exact hc j (by omega)
    refine Br.dec (fun q6 => ?_) fun q6 => ?_
    · rw [if_pos q6] at lvs
      refine (Hn.start w1).nw fun w2 H => ?_
      refine H.nw fun w3 H => ?_
      have hb := H.get 0 rfl
      have hp := H.get 1 rfl
      have e3 := H.ext
      have hleaf : CT w3 w1.heap.size (.leaf i (c.getD i 0)) := hb
      obtain ⟨s', w4, r1, r2, r3, r4⟩ := (hr.keep e3).snoc (ty := 143) hp hleaf (by omega)
      have E3 := e1.tr e3
      refine ⟨s', w4, r1, c.length - (i + 1), by omega, i + 1, _, by rw [i64_id (by omega)]; rfl, by omega, rfl, hc', r2, by rw [trs_app, hL, lvs]; rfl, Ext.new E3 r3 o1, fun j hj => ?_⟩
      have := E3.size
      rcases r4 j hj with hh | hh
      · exact o1 j hh
      · omega
    · rw [if_neg q6] at lvs
      exact ⟨c.length - (i + 1), by omega, i + 1, L, by rw [i64_id (by omega)]; rfl, by omega, rfl, hc', hr, by rw [hL, lvs], e1, o1⟩
  have : i = c.length := by omega
  subst this
  obtain ⟨mo, hmo⟩ : ∃ mo : Nat, most = (mo : Int) := ⟨most.toNat, by omega⟩
  subst hmo
  have hw := why_rest hlen hm hc
  rw [Int.toNat_natCast] at hw
  have hrl := hr.len
  have hS : L.length = (srt c).length := by rw [hLl, lv_srt]
  have h15 : 2 ^ mo ≤ 2 ^ 15 := Nat.pow_le_pow_right (by decide) (by omega)
  rw [sh1 rfl (by omega)]
  refine ⟨by omega, Br.dec (fun q4 => ?_) fun q4 => ?_⟩
  · rw [if_pos (by omega)] at hw
    exact ⟨hw.symm, e1, fun _ => rfl, fun hh => by rw [hw] at hh; cases hh⟩
  rw [if_neg (by omega)] at hw
  obtain ⟨w2, hrun, hw2⟩ := elI.make (zs := [.int .i64 0]) rfl w1 c.length (by omega) (by omega)
  refine ⟨_, w2, hrun, ?_⟩
  have H : Hn w1 w2 [(w1.heap.size, ints (lst (fun _ => 0) c.length), 3)] := by
    rw [lst_zero, ← flat_zero, hw2]
    exact ((Hn.start w1).keep ((Ext.refl _ _).alloc _)).push (Blk.new _ _ _) (Nat.le_refl _) (by simp)
  refine H.nw fun w3 H => ?_
  simp only [List.cons_append, List.nil_append] at H
  refine H.st 1 rfl (by simp) fun w4 H => ?_
  simp only [List.set_cons_zero, List.set_cons_succ] at H
  have e4 := e1.tr H.ext
  have hOB : OB w4 w1.heap.size w2.heap.size c.length fun _ => 0 := ⟨H.get 0 rfl, by rw [(H.get 1 rfl).cell]; rfl, by have := H.h.nodup; have h3 := H.lt 0 rfl; intro e; rw [e] at this; simp [arr] at this⟩
  have hr4 := hr.keep H.ext
  have hg : w.heap.size ≤ w1.heap.size := e1.size
  clear H hrun hw2
  generalize hgg : w1.heap.size = g at *
  refine ⟨fun (_ : Unit) w5 => Ext (fun _ => False) w w5 ∧ RT w5 r L ∧ OB w5 g w2.heap.size c.length fun i => if L.length = 1 then cs i (trs L) else 0, ?_, ?_⟩
  rotate_left
  · refine Br.eq (fun q5 => ?_) fun q5 => ⟨e4, hr4, by rw [show (fun i => if L.length = 1 then cs i (trs L) else 0) = fun _ => 0 from funext fun i => if_neg (by omega)]; exact hOB⟩
    have hd := hr4.keep (Ext.refl _ w4).drew
    obtain ⟨p, hp⟩ : ∃ p, L = [p] := by
      match L, (show L.length = 1 by omega) with
      | [p], _ => exact ⟨p, rfl⟩
    subst hp
    obtain ⟨g0, hg0, hc0, hct⟩ := hd.get (i := 0) rfl
    obtain ⟨sn, hsn, hpe, hpos⟩ := lv_mem.1 (show p.2 ∈ lv c c.length by rw [← hL]; simp [trs])
    have hOBd := hOB.still (Ext.refl _ w4).drew
    rw [hpe] at hct
    have hct : Blk w4.drew p.1 #[.int .i64 (c.getD sn 0), .int .i64 (sn : Int), .pointer none, .pointer none] 146 := hct
    rw [hg0]
    refine Ld.mk hOBd.var ⟨by omega, by omega, Nn.of ?_⟩
    simp only [add_lit, Int.toNat_zero, Nat.zero_mul, Nat.add_zero]
    refine Ld.mk (x := some (⟨p.1, 0, none⟩ : Addr)) hc0 (Nn.of ?_)
    simp only [add_lit, Nat.zero_add]
    refine Ld.mk (x := (sn : Int)) (by rw [hct.cell]; rfl) ⟨by omega, by show (sn : Int) < ((c.length : Nat) : Int); omega, Nn.of ?_⟩
    simp only [add_lit, Int.toNat_natCast, Nat.mul_one, Nat.zero_add]
    have e5 : Ext (· = g) w4.drew (w4.drew.setCell ⟨g, sn, none⟩ (.int .i64 1)) := (Ext.refl (· = g) w4.drew).set (.inl rfl) _
    unfold St
    refine ⟨hOBd.row.can (by rw [List.size_toArray, ints_len, lst_len]; exact hsn), Ext.new (e4.drew) e5 (fun j hj => by subst hj; exact hg), ⟨hd.1.keep e5 fun j hj hh => ?_, fun q hq => (hd.2 q hq).keep e5 hOBd.coin⟩, ?_, ?_, hOB.ne⟩
    · subst hh
      obtain ⟨cs', hb'⟩ := hd.own_ty hj
      have := Blk.ty hb' hOBd.row
      revert this
      decide
    · have := hOBd.row.set sn (.int .i64 ((1 : Nat) : Int))
      rw [List.setIfInBounds_toArray, lst_set hsn] at this
      have e : (fun j => if sn = j then 1 else 0) = fun i => if [p].length = 1 then cs i (trs [p]) else 0 := by
        funext j
        simp [trs, cs, hpe, Tr.cnt]
      rw [e] at this
      exact this
    · rw [e5.cell (cell_lt' hOBd.var) hOB.ne]
      exact hOBd.var
  clear hOB hr4 e4
  rintro _ w5 ⟨e5, hr5, hO5⟩
  unfold S63J1
  dsimp only
  refine Br.dec (fun q5 => Ld.mk hO5.var ⟨hw.symm, e5, fun hh => absurd hw hh, fun _ => ⟨_, hO5.iv, ?_, Nat.le_refl _, ?_⟩⟩) fun q5 => ?_
  · have hsd : Sd c (trs L) := ⟨by rw [hL], by
      match L, (show L.length < 2 by omega) with
      | [], _ => exact List.Pairwise.nil
      | [p], _ => exact List.pairwise_singleton _ _⟩
    have := LR.none (most := mo) hsd hlen hc (by omega) (by rw [trs_len]; omega)
    rw [← lst_lens] at this
    have e : (fun i => if L.length = 1 then cs i (trs L) else 0) = fun i => cs i (trs L) := by
      funext i
      split
      · rfl
      · have : L = [] := List.eq_nil_of_length_eq_zero (by omega)
        rw [this]
        rfl
    rw [e, Int.toNat_natCast]
    exact this
  · have e : (fun i => if L.length = 1 then cs i (trs L) else 0) = fun i => cs i (trs L) := by
      funext i
      split
      · rfl
      · have : L = [] := List.eq_nil_of_length_eq_zero (by omega)
        rw [this]
        rfl
    rw [e, hL]
    exact .inl ⟨by omega, rfl⟩
  have eO : (fun i => if L.length = 1 then cs i (trs L) else 0) = fun _ => 0 := by
    funext i
    rw [if_neg (by omega)]
  rw [eO] at hO5
  refine (c_merged hr5 (RT.nil w5) (by simp; omega)).mono ?_ (fun _ _ h => h)
  rintro r6 w6 ⟨e6, o6, R, hr6, hmg⟩
  have hsd : Sd c (trs R) := ⟨by
    have := hmg.1.map (·.2)
    rw [List.append_nil] at this
    rw [← hL]
    exact this, hmg.2.1⟩
  have hRl : R.length = L.length := by
    have := hmg.1.length_eq
    rw [List.append_nil] at this
    exact this
  have hr6l := hr6.len
  have E6 := e5.tr e6
  have O6 := hO5.still e6
  have hstb := hmg.2.2.2
  rw [List.append_nil, hL] at hstb
  generalize hSS : trs R = S at hsd hstb
  have hSl : S.length = L.length := by rw [← hSS, trs_len, hRl]
  have hupS : Up S := hsd.up
  refine ⟨fun n st w7 => ∃ (k : Nat) (K : List (Nat × Tr)), st.2 = (k : Int) ∧ k + 1 ≤ mo ∧ n = mo - 1 - k ∧ RT w7 st.1 K ∧ trs K = rows S k ∧ RT w7 r6 R ∧ OB w7 g w2.heap.size c.length (fun _ => 0) ∧ Ext (fun _ => False) w w7, mo - 1, ⟨0, R, rfl, by omega, rfl, hr6, hSS, hr6, O6, E6⟩, ?_⟩
  rintro n ⟨r7, k⟩ w7 ⟨k, K, rfl, hk, rfl, hr7, hK, hR7, O7, e7⟩
  unfold S63L2
  dsimp only at *
  rw [i64_id (n := (mo : Int) - 1) (by omega)]
  have hKl : K.length = (rows S k).length := by rw [← hK, trs_len]
  have hKs := rows_short S k
  refine Br.dec (fun q6 => ?_) fun q6 => ?_
  · refine (c_pairs hr7 (by omega) fun p hp => rows_w hsd hlen hc (k := k) (by omega) p.2 (by rw [← hK]; exact List.mem_map_of_mem hp)).mono ?_
    rintro r8 w8 ⟨e8, o8, P, hr8, hP⟩
    have hPl : P.length = (rows S k).length / 2 := by rw [← trs_len, hP, hK, prs_len]
    refine (c_merged (hR7.keep e8) hr8 (by omega)).mono ?_ (fun _ _ h => h)
    rintro r9 w9 ⟨e9, o9, K', hr9, hmg9⟩
    refine ⟨mo - 1 - (k + 1), by omega, k + 1, K', by rw [i64_id (by omega)]; rfl, by omega, rfl, hr9, ?_, (hR7.keep e8).keep e9, (O7.still e8).still e9, e7.tr (e8.tr e9)⟩
    have := hmg9.2.2.1 (by rw [hSS]; exact hupS) (by rw [hP, hK]; exact prs_up _ (rows_up hupS k))
    rw [this, hSS, hP, hK]
    rfl
  · have hk1 : k = mo - 1 := by omega
    obtain ⟨hlong, hLR⟩ := LR.many (most := mo) hsd hlen hc (by omega) (by omega) (by omega) (by omega)
    rw [← hk1] at hlong hLR
    have hr7l := hr7.len
    have hcap := row_cap hr7.1
    have em : IntKind.i64.wrap (IntKind.i64.wrap (2 * ((r6.len : Nat) : Int)) - 2) = ((2 * S.length - 2 : Nat) : Int) := by
      rw [i64_id (n := 2 * ((r6.len : Nat) : Int)) (by omega), i64_id (by omega)]
      omega
    rw [em, Int.toNat_natCast]
    refine ⟨by omega, by omega, Lt.of ?_⟩
    have hcl : (r7.cut 1 0 (2 * S.length - 2) r7.cap).len = 2 * S.length - 2 := rfl
    rw [hcl]
    generalize hM : 2 * S.length - 2 = M at *
    refine ⟨fun n st w8 => ∃ i : Nat, st = (i : Int) ∧ i ≤ M ∧ n = M - i ∧ RT w8 r7 K ∧ OB w8 g w2.heap.size c.length (fun j => cs j ((rows S k).take i)) ∧ Ext (fun _ => False) w w8, M, ⟨0, rfl, by omega, rfl, hr7, by simpa [cs] using O7, e7⟩, ?_⟩
    rintro n st w8 ⟨i, rfl, hiM, rfl, hr8, O8, e8⟩
    unfold S63L1
    dsimp only
    rw [em, Int.toNat_natCast, hcl]
    refine Br.dec (fun q7 => ⟨by omega, by omega, ?_⟩) fun q7 => ?_
    · obtain ⟨p, hp⟩ : ∃ p, K[i]? = some p := ⟨_, List.getElem?_eq_getElem (by omega)⟩
      obtain ⟨g0, hg0, hc0, hct⟩ := hr8.get hp
      have hpp : (r7.cut 1 0 M r7.cap).p = some ⟨g0, 0, none⟩ := by
        show (if r7.cap = 0 then r7.p else r7.p.map (·.add (0 * 1))) = _
        rw [if_neg (by omega), hg0]
        simp
      rw [hpp]
      refine Nn.of ?_
      simp only [add_lit, Int.toNat_natCast, Nat.mul_one, Nat.zero_add]
      refine Ld.mk (x := some (⟨p.1, 0, none⟩ : Addr)) hc0 ?_
      have hrow : (rows S k)[i]? = some p.2 := by rw [← hK]; exact trs_get hp
      have htk : (rows S k).take (i + 1) = (rows S k).take i ++ [p.2] := by rw [List.take_add_one, hrow]; rfl
      have hsum : ∀ j, cs j ((rows S k).take (i + 1)) = cs j ((rows S k).take i) + p.2.cnt j := fun j => by
        rw [htk, cs_app]
        simp [cs]
      refine (c_each p.2 hct O8 (rows_ok hsd k p.2 (List.mem_of_getElem? hrow)) rfl fun j => ?_).mono ?_
      · have := cs_le hsd.lv (k := k) (m := i + 1) (by omega) (by omega) j
        rw [hsum] at this
        omega
      · rintro w9 ⟨e9, O9⟩
        refine ⟨M - (i + 1), by omega, i + 1, by rw [i64_id (by omega)]; rfl, by omega, rfl, ⟨hr8.1.keep e9 fun j hj hh => ?_, fun q hq => (hr8.2 q hq).keep e9 O8.coin⟩, ?_, Ext.new e8 e9 fun j hj => by subst hj; exact hg⟩
        · subst hh
          obtain ⟨cs', hb'⟩ := hr8.own_ty hj
          have := Blk.ty hb' O8.row
          revert this
          decide
        · have e : (fun j => cs j ((rows S k).take i) + p.2.cnt j) = fun j => cs j ((rows S k).take (i + 1)) := by
            funext j
            rw [hsum]
          rw [e] at O9
          exact O9
    · have : i = M := by omega
      subst this
      refine Ld.mk O8.var ⟨hw.symm, e8, fun hh => absurd hw hh, fun _ => ⟨_, O8.iv, ?_, Nat.le_refl _, ?_⟩⟩
      · rw [Int.toNat_natCast]
        exact hLR
      · refine .inr ⟨by omega, S, hstb, ?_⟩
        rw [Int.toNat_natCast, ← hk1, hM]
theorem c_lengths (h : IV w s c) : C63 s most w (fun r e w1 => e = why c most ∧ Ext (fun _ => False) w w1 ∧ (why c most ≠ 0 → r.len = 0) ∧ (why c most = 0 → ∃ l, IV w1 r l ∧ LR c most.toNat l)) fun _ _ => False := by
  refine (c_lengthsC h).mono ?_ fun _ _ h => h
  rintro r e w1 ⟨h1, h2, h3, h4⟩
  refine ⟨h1, h2, h3, fun hw => ?_⟩
  obtain ⟨l, a, b, _⟩ := h4 hw
  exact ⟨l, a, b⟩
end
end Srt
end Go.Proofs.YtjkoafjnmkchdaaGreatDoor

/- Deflate: counting signs, cutting zeros, marks. Conditions: sizes. -/
namespace Go.Proofs.YtjkoafjnmkchdaaGreatDoor
namespace Inf
open Sh Bit
set_option linter.unusedVariables false
set_option linter.unusedSimpArgs false
set_option maxRecDepth 4000
set_option maxHeartbeats 1000000
attribute [local irreducible] Ld St Nw Nn Lt LdS
def inc (c : List Int) (o : Nat) : List Int := c.set o (c.getD o 0 + 1)
theorem inc_len (c : List Int) (o : Nat) : (inc c o).length = c.length := by unfold inc; rw [List.length_set]
theorem inc_get {c : List Int} {o : Nat} (h : o < c.length) (j : Nat) : (inc c o).getD j 0 = if j = o then c.getD o 0 + 1 else c.getD j 0 := by
  unfold inc
  by_cases hj : j = o
  · subst hj
    rw [if_pos rfl, List.getD_eq_getElem?_getD, List.getElem?_set_self h]
    rfl
  · rw [if_neg hj, List.getD_eq_getElem?_getD, List.getElem?_set_ne (fun e => hj e.symm), List.getD_eq_getElem?_getD]
/-- The counts know this part's signs. -/
def Seen (ca cb : List Int) (p : Prt) : Prop := if p.n = 0 then 0 < ca.getD p.b.toNat 0 else 0 < ca.getD (257 + kL p.n) 0 ∧ 0 < cb.getD (kD p.f) 0
theorem Seen.up {ca cb ca' cb' : List Int} {p : Prt} (h : Seen ca cb p) (ha : ∀ j, ca.getD j 0 ≤ ca'.getD j 0) (hb : ∀ j, cb.getD j 0 ≤ cb'.getD j 0) : Seen ca' cb' p := by
  unfold Seen at *
  split at h
  · rename_i h0; rw [if_pos h0]; have := ha p.b.toNat; omega
  · rename_i h0; rw [if_neg h0]; have := ha (257 + kL p.n); have := hb (kD p.f); omega
/-- The counts of the signs. -/
def cnt1 (c : List Int × List Int) (p : Prt) : List Int × List Int := if p.n = 0 then (inc c.1 p.b.toNat, c.2) else (inc c.1 (257 + kL p.n), inc c.2 (kD p.f))
def cntS (l : List Prt) : List Int × List Int := l.foldl cnt1 (inc (List.replicate 286 0) 256, List.replicate 30 0)
theorem cntS_snoc (l : List Prt) (p : Prt) : cntS (l ++ [p]) = cnt1 (cntS l) p := by
  unfold cntS
  rw [List.foldl_append]
  rfl
structure CInv (ca cb : List Int) (l : List Prt) (i : Nat) : Prop where
  it : (ca, cb) = cntS (l.take i)
  la : ca.length = 286
  lb : cb.length = 30
  ba : ∀ j, 0 ≤ ca.getD j 0 ∧ ca.getD j 0 ≤ (i : Int) + 1
  bb : ∀ j, 0 ≤ cb.getD j 0 ∧ cb.getD j 0 ≤ (i : Int)
  e : 0 < ca.getD 256 0
  seen : ∀ p ∈ l.take i, Seen ca cb p
theorem rep_get (n j : Nat) : (List.replicate n (0 : Int)).getD j 0 = 0 := by
  rw [List.getD_eq_getElem?_getD, List.getElem?_replicate]
  split <;> rfl
theorem c_countP {w : World} {s : Slc} {l : List Prt} (hP : PV w s (l.map rawP)) (hl : l.length ≤ 1048576) (hok : ∀ p ∈ l, p.ok) :
    C62 s w fun r2 r3 w1 => ∃ ca cb, IV w1 r2 ca ∧ IV w1 r3 cb ∧ CInv ca cb l l.length ∧ Ext (fun _ => False) w w1 := by
  refine T62 _ _ _ ?_
  unfold S62
  refine ⟨fun st w2 => ∃ g1 g2 : Nat, st = (⟨some ⟨g1, 0, none⟩, 286, 286⟩, ⟨some ⟨g2, 0, none⟩, 30, 30⟩) ∧ Hn w w2 [(g1, ints (List.replicate 286 0), 3), (g2, ints (List.replicate 30 0), 3)], ?_, ?_⟩
  · rintro _ w2 ⟨g1, g2, rfl, H⟩
    unfold S62J1
    dsimp only
    refine ⟨by decide, by decide, Nn.of ?_⟩
    refine H.st 0 rfl (by simp [ints_len]) fun w3 H => ?_
    simp only [List.set_cons_zero, List.set_cons_succ] at H
    have e1 : (ints (List.replicate 286 0)).set (0 + Int.toNat 256 * 1) (Value.int .i64 1) = ints (inc (List.replicate 286 0) 256) := by
      unfold inc
      rw [show (0 + Int.toNat 256 * 1) = 256 by decide, ints_set, rep_get]
      rfl
    rw [e1] at H
    refine ⟨fun m i' w4 => ∃ (i : Nat) (ca cb : List Int), i' = (i : Int) ∧ i ≤ l.length ∧ m = l.length - i ∧ Hn w w4 [(g1, ints ca, 3), (g2, ints cb, 3)] ∧ CInv ca cb l i, l.length, ⟨0, _, _, rfl, Nat.zero_le _, rfl, H, ?_⟩, ?_⟩
    · have hg : ∀ j, (inc (List.replicate 286 0) 256).getD j 0 = if j = 256 then 1 else 0 := fun j => by
        rw [inc_get (by rw [List.length_replicate]; decide), rep_get, rep_get]
        rfl
      exact ⟨rfl, by rw [inc_len, List.length_replicate], List.length_replicate, fun j => by rw [hg]; split <;> omega, fun j => by rw [rep_get]; omega, by rw [hg]; decide, fun p hp => by cases hp⟩
    rintro m i' w4 ⟨i, ca, cb, rfl, hi, rfl, H, hI⟩
    unfold S62L1
    have hlen : s.len = l.length := by rw [hP.1, List.length_map]
    rw [hlen]
    dsimp only
    refine Br.dec (fun q => ?_) fun q => ?_
    · have hil : i < l.length := by omega
      have hio : (l.map rawP)[i]? = some (rawP l[i]) := by rw [List.getElem?_map, List.getElem?_eq_getElem hil]; rfl
      obtain ⟨a, ha, c0, c1, c2⟩ := (hP.keep H.ext).get hio
      have pok := hok l[i] (List.getElem_mem hil)
      have htk : l.take (i + 1) = l.take i ++ [l[i]] := by rw [List.take_add_one, List.getElem?_eq_getElem hil]; rfl
      generalize l[i] = p at *
      obtain ⟨pb, pn, pf⟩ := p
      have hpb := pb.toNat_lt
      have la := hI.la
      have lb := hI.lb
      rw [ha]
      refine ⟨by omega, by omega, Nn.of ?_⟩
      rw [Int.toNat_natCast]
      refine Ld.mk (x := (pb.toNat : Int)) c0 (Ld.mk (x := (pn : Int)) c1 (Ld.mk (x := (pf : Int)) c2 ?_))
      refine H.nw fun w5 H => ?_
      simp only [List.cons_append, List.nil_append] at H
      iterate 3 (refine H.st 2 rfl (by simp) fun _ H => ?_; simp only [List.nil_append, List.cons_append, List.set_cons_zero, List.set_cons_succ, Nat.zero_add] at H)
      iterate 1 refine H.ld 2 rfl rfl ?_
      refine Br.eq (fun h0 => ?_) fun h0 => ?_
      · have hpn : pn = 0 := by omega
        subst hpn
        iterate 1 refine H.ld 2 rfl rfl ?_
        have hba := hI.ba pb.toNat
        refine ⟨by omega, by omega, Nn.of ?_⟩
        simp only [add_lit, Int.toNat_natCast, Nat.mul_one, Nat.zero_add]
        refine H.ld 0 rfl (ints_get (by omega)) ?_
        refine ⟨by omega, by omega, Nn.of ?_⟩
        simp only [add_lit, Int.toNat_natCast, Nat.mul_one, Nat.zero_add]
        rw [i64_id (by omega)]
        refine H.st 0 rfl (by rw [ints_len]; omega) fun w9 H => ?_
        simp only [List.set_cons_zero, List.set_cons_succ] at H
        rw [ints_set] at H
        have H := Hn.left (L := [_, _]) (M := [_]) H
        have hg := fun j => inc_get (c := ca) (o := pb.toNat) (by omega) j
        have up : ∀ j, ca.getD j 0 ≤ (inc ca pb.toNat).getD j 0 := fun j => by rw [hg]; split <;> (try subst_vars) <;> omega
        refine ⟨l.length - (i + 1), by omega, i + 1, inc ca pb.toNat, cb, by rw [i64_id (by omega)]; rfl, by omega, rfl, H, ⟨by rw [htk, cntS_snoc, ← hI.it]; rfl, by rw [inc_len]; exact la, lb, fun j => by have := hI.ba j; rw [hg]; split <;> omega, fun j => by have := hI.bb j; omega, by have := hI.e; have := up 256; omega, fun p hp => ?_⟩⟩
        rw [htk] at hp
        rcases List.mem_append.1 hp with hp | hp
        · exact (hI.seen p hp).up up fun j => Int.le_refl _
        · rw [List.mem_singleton.1 hp]
          unfold Seen
          rw [if_pos rfl, hg, if_pos rfl]
          omega
      · have hpn : ¬ pn = 0 := by omega
        rcases pok with hp | ⟨_, q3, q4, q5, q6⟩
        · exact absurd hp.1 hpn
        dsimp only at q3 q4 q5 q6
        obtain ⟨k1, k2, k3, k4⟩ := kL_spec q3 q4
        obtain ⟨d1, d2, d3⟩ := kD_spec q5 q6
        iterate 1 refine H.ld 2 rfl rfl ?_
        refine (c_Sign (pn : Int) _).mono ?_
        rintro a1 a2 a3 a4 w8 ⟨hs, e8⟩
        unfold sgnF at hs
        rw [if_neg (by omega), Int.toNat_natCast] at hs
        simp only [Prod.mk.injEq] at hs
        obtain ⟨rfl, rfl, rfl, rfl⟩ := hs
        have H := H.keep e8
        iterate 1 refine H.ld 2 rfl rfl ?_
        refine (c_Back (pf : Int) _).mono ?_
        rintro a1 a2 a3 a4 w9 ⟨hs, e9⟩
        unfold bckF at hs
        rw [if_neg (by omega), Int.toNat_natCast] at hs
        simp only [Prod.mk.injEq] at hs
        obtain ⟨rfl, rfl, rfl, rfl⟩ := hs
        have H := H.keep e9
        have hba := hI.ba (257 + kL pn)
        have hbb := hI.bb (kD pf)
        refine ⟨by omega, by omega, Nn.of ?_⟩
        simp only [add_lit, Int.toNat_natCast, Nat.mul_one, Nat.zero_add]
        refine H.ld 0 rfl (ints_get (by omega)) ?_
        refine ⟨by omega, by omega, Nn.of ?_⟩
        simp only [add_lit, Int.toNat_natCast, Nat.mul_one, Nat.zero_add]
        rw [i64_id (n := ca.getD (257 + kL pn) 0 + 1) (by omega)]
        refine H.st 0 rfl (by rw [ints_len]; omega) fun w10 H => ?_
        simp only [List.set_cons_zero, List.set_cons_succ] at H
        rw [ints_set] at H
        refine ⟨by omega, by omega, Nn.of ?_⟩
        simp only [add_lit, Int.toNat_natCast, Nat.mul_one, Nat.zero_add]
        refine H.ld 1 rfl (ints_get (by omega)) ?_
        refine ⟨by omega, by omega, Nn.of ?_⟩
        simp only [add_lit, Int.toNat_natCast, Nat.mul_one, Nat.zero_add]
        rw [i64_id (n := cb.getD (kD pf) 0 + 1) (by omega)]
        refine H.st 1 rfl (by rw [ints_len]; omega) fun w11 H => ?_
        simp only [List.set_cons_zero, List.set_cons_succ] at H
        rw [ints_set] at H
        have H := Hn.left (L := [_, _]) (M := [_]) H
        have hg := fun j => inc_get (c := ca) (o := 257 + kL pn) (by omega) j
        have hgb := fun j => inc_get (c := cb) (o := kD pf) (by omega) j
        have up : ∀ j, ca.getD j 0 ≤ (inc ca (257 + kL pn)).getD j 0 := fun j => by rw [hg]; split <;> (try subst_vars) <;> omega
        have upb : ∀ j, cb.getD j 0 ≤ (inc cb (kD pf)).getD j 0 := fun j => by rw [hgb]; split <;> (try subst_vars) <;> omega
        refine ⟨l.length - (i + 1), by omega, i + 1, inc ca (257 + kL pn), inc cb (kD pf), by rw [i64_id (by omega)]; rfl, by omega, rfl, H, ⟨by rw [htk, cntS_snoc, ← hI.it]; unfold cnt1; rw [if_neg hpn], by rw [inc_len]; exact la, by rw [inc_len]; exact lb, fun j => by have := hI.ba j; rw [hg]; split <;> omega, fun j => by have := hI.bb j; rw [hgb]; split <;> omega, by have := hI.e; have := up 256; omega, fun p hp => ?_⟩⟩
        rw [htk] at hp
        rcases List.mem_append.1 hp with hp | hp
        · exact (hI.seen p hp).up up upb
        · rw [List.mem_singleton.1 hp]
          unfold Seen
          dsimp only
          rw [if_neg hpn, hg, if_pos rfl, hgb, if_pos rfl]
          omega
    · have : i = l.length := by omega
      subst this
      exact ⟨ca, cb, IV.blk (H.get 0 rfl) hI.la.symm, IV.blk (H.get 1 rfl) hI.lb.symm, hI, H.ext⟩
  · have mk : ∀ (w1 : World) (n : Nat), n ≤ 286 → ∃ w', RunV Tryz.prog (Instr.makeSlice 76 (.int .i64 (n : Int)) (.int .i64 (n : Int))) w1 (Slc.v ⟨some ⟨w1.heap.size, 0, none⟩, n, n⟩) w' ∧ Blk w' w1.heap.size (ints (List.replicate n 0)).toArray 3 ∧ Ext (fun _ => False) w1 w' ∧ w1.heap.size < w'.heap.size := fun w1 n hn => by
      obtain ⟨w', h1, h2⟩ := elI.make (zs := [.int .i64 0]) rfl w1 n (by omega) (by omega)
      rw [flat_zero] at h2
      subst h2
      exact ⟨_, h1, Blk.new w1 _ _, (Ext.refl _ _).alloc _, (Blk.new w1 _ _).lt⟩
    have hd := (Ext.refl (fun _ => False) w).drew
    refine ⟨?_, ?_⟩
    · obtain ⟨w1, r1, b1, e1, z1⟩ := mk w.drew 286 (by decide)
      obtain ⟨w2, r2, b2, e2, z2⟩ := mk w1 30 (by decide)
      refine ⟨_, w1, r1, _, w2, r2, _, _, rfl, ?_⟩
      have E := (hd.tr e1).tr e2
      exact (((Hn.start w).keep E).push (e2.blk b1 id) (Nat.le_refl _) (by simp)).push b2 (by have := e1.size; exact this) (by simp only [List.nil_append, List.map_cons, List.map_nil, List.mem_singleton]; omega)
    · obtain ⟨w1, r1, b1, e1, z1⟩ := mk w.drew 30 (by decide)
      obtain ⟨w2, r2, b2, e2, z2⟩ := mk w1 286 (by decide)
      refine ⟨_, w1, r1, _, w2, r2, _, _, rfl, ?_⟩
      have E := (hd.tr e1).tr e2
      exact (((Hn.start w).keep E).push b2 (by have := e1.size; exact this) (by simp)).push (e2.blk b1 id) (Nat.le_refl _) (by simp only [List.nil_append, List.map_cons, List.map_nil, List.mem_singleton]; omega)
/-- The slice's front. -/
theorem IV.front {w : World} {s : Slc} {l : List Int} (h : IV w s l) {m : Nat} (hm : m ≤ l.length) (cap : Nat) : IV w (s.cut 1 0 m cap) (l.take m) := by
  refine ⟨by show m - 0 = _; rw [List.length_take]; omega, by rw [ints_len, List.length_take]; show min m l.length = (m - 0) * 1; omega, fun j v hj => ?_⟩
  have hj2 : (ints l)[j]? = some v := by
    have hlt : j < m := by
      have := (List.getElem?_eq_some_iff.1 hj).1
      rw [ints_len, List.length_take] at this
      omega
    unfold ints at hj ⊢
    rw [List.getElem?_map, List.getElem?_take, if_pos hlt] at hj
    rw [List.getElem?_map]
    exact hj
  obtain ⟨a, ha, hc⟩ := h.2.2 j v hj2
  unfold Slc.cut
  dsimp only
  split
  · exact ⟨a, ha, hc⟩
  · refine ⟨a.add (0 * 1), by rw [ha]; rfl, ?_⟩
    rw [add_add', Nat.zero_mul, Nat.zero_add]
    exact hc
theorem c_cut {w : World} {s : Slc} {l : List Int} (h : IV w s l) (hc : s.len ≤ s.cap) (hl : l.length ≤ 100000) (keep : Nat) (hk : keep ≤ l.length) : C64 s (keep : Int) w fun r w1 => IV w1 r (l.take (cutN l keep l.length)) ∧ r.len = cutN l keep l.length ∧ w1 = w := by
  refine T64 _ _ _ _ ?_
  unfold S64
  have h1 := h.1
  rw [h1]
  refine ⟨fun m st w3 => ∃ n : Nat, st = (n : Int) ∧ n ≤ l.length ∧ keep ≤ n ∧ m = n ∧ cutN l keep n = cutN l keep l.length ∧ w3 = w, l.length, ⟨l.length, rfl, Nat.le_refl _, hk, rfl, rfl, rfl⟩, ?_⟩
  rintro m st w3 ⟨n, rfl, hn, hkn, rfl, hcn, rfl⟩
  unfold S64L1
  rw [h1]
  have fin : cutN l keep m = m → 0 ≤ (m : Int) ∧ (m : Int) ≤ ((s.cap : Nat) : Int) ∧ (IV w3 (s.cut 1 0 ((m : Int)).toNat s.cap) (l.take (cutN l keep l.length)) ∧ (s.cut 1 0 ((m : Int)).toNat s.cap).len = cutN l keep l.length ∧ w3 = w3) := fun e => by
    rw [← hcn, e, Int.toNat_natCast]
    exact ⟨by omega, by omega, h.front hn _, by show m - 0 = m; omega, rfl⟩
  refine Br.dec (fun q => ?_) fun q => fin ?_
  · obtain ⟨k, rfl⟩ : ∃ k, m = k + 1 := ⟨m - 1, by omega⟩
    rw [i64_id (by omega), show ((k + 1 : Nat) : Int) - 1 = (k : Int) by omega]
    obtain ⟨a, ha, hcell⟩ := h.get (i := k) (by omega)
    rw [ha]
    refine ⟨by omega, by omega, Nn.of ?_⟩
    rw [Int.toNat_natCast]
    refine Ld.mk (x := l.getD k 0) hcell (Br.eq (fun q2 => ?_) fun q2 => fin ?_)
    · refine ⟨k, by omega, k, rfl, by omega, by omega, rfl, ?_, rfl⟩
      rw [← hcn]
      conv => rhs; unfold cutN
      rw [if_pos ⟨by omega, q2⟩]
    · conv => lhs; unfold cutN
      rw [if_neg (fun hh => q2 hh.2)]
  · cases m with
    | zero => rfl
    | succ m =>
      conv => lhs; unfold cutN
      rw [if_neg (fun hh => by omega)]
end Inf
end Go.Proofs.YtjkoafjnmkchdaaGreatDoor

/- Deflate: marks of code lengths; the order of the lengths. Conditions: sizes. -/
namespace Go.Proofs.YtjkoafjnmkchdaaGreatDoor
namespace Inf
open Sh Bit
set_option linter.unusedVariables false
set_option linter.unusedSimpArgs false
set_option maxRecDepth 4000
set_option maxHeartbeats 1000000
attribute [local irreducible] Ld St Nw Nn Lt LdS
def mrow (m : Mk) : List Value := [.int .i64 (m.1 : Int), .int .i64 (m.2.1 : Int), .int .i64 (m.2.2 : Int)]
theorem elM : El Tryz.prog 104 107 3 24 (.agg (mrow (0, 0, 0)).toArray) := ⟨by kernel_rfl, by kernel_rfl, by kernel_rfl, by kernel_rfl, rfl⟩
theorem m_len (L : List Mk) : (L.flatMap mrow).length = L.length * 3 := by
  induction L with
  | nil => rfl
  | cons o L ih => rw [List.flatMap_cons, List.length_append, ih, List.length_cons]; simp [mrow]; omega
theorem m_get {L : List Mk} {i j : Nat} {o : Mk} (hi : L[i]? = some o) (hj : j < 3) : (L.flatMap mrow)[i * 3 + j]? = (mrow o)[j]? := by
  induction L generalizing i with
  | nil => cases hi
  | cons p L ih =>
    rw [List.flatMap_cons]
    cases i with
    | zero =>
      cases hi
      rw [Nat.zero_mul, Nat.zero_add, List.getElem?_append_left (by simp [mrow]; omega)]
    | succ i =>
      rw [List.getElem?_append_right (by simp [mrow]; omega), ← ih (by simpa using hi)]
      congr 1
      simp only [mrow, List.length_cons, List.length_nil]
      omega
theorem m_one (L : List Mk) : ∀ v ∈ L.flatMap mrow, v.oneCell' = true := by
  intro v hv
  obtain ⟨q, _, hq⟩ := List.mem_flatMap.1 hv
  unfold mrow at hq
  rcases List.mem_cons.1 hq with rfl | hq
  · rfl
  rcases List.mem_cons.1 hq with rfl | hq
  · rfl
  rcases List.mem_cons.1 hq with rfl | hq
  · rfl
  · cases hq
/-- The marks of a slice. -/
def MV (w : World) (s : Slc) (L : List Mk) : Prop := s.len = L.length ∧ VRow w s 3 (L.flatMap mrow)
theorem MV.keep {w w' : World} {s : Slc} {L : List Mk} (h : MV w s L) (he : Ext (fun _ => False) w w') : MV w' s L := ⟨h.1, h.2.keep he⟩
theorem MV.get {w : World} {s : Slc} {L : List Mk} (h : MV w s L) {i : Nat} {o : Mk} (hi : L[i]? = some o) : ∃ a, s.p = some a ∧ w.cell? (a.add (i * 3)) = some (.int .i64 (o.1 : Int)) ∧ w.cell? ((a.add (i * 3)).add 1) = some (.int .i64 (o.2.1 : Int)) ∧ w.cell? ((a.add (i * 3)).add 2) = some (.int .i64 (o.2.2 : Int)) := by
  have g : ∀ j v, j < 3 → (mrow o)[j]? = some v → ∃ a, s.p = some a ∧ w.cell? ((a.add (i * 3)).add j) = some v := fun j v hj hv => by
    obtain ⟨a, ha, hc⟩ := h.2.2 (i * 3 + j) v (by rw [m_get hi hj]; exact hv)
    exact ⟨a, ha, by rw [add_add']; exact hc⟩
  obtain ⟨a, ha, c0⟩ := g 0 _ (by omega) rfl
  obtain ⟨a1, ha1, c1⟩ := g 1 _ (by omega) rfl
  obtain ⟨a2, ha2, c2⟩ := g 2 _ (by omega) rfl
  rw [ha] at ha1 ha2
  cases ha1; cases ha2
  exact ⟨a, ha, by rw [add_add'] at c0; exact c0, c1, c2⟩
/-- Marks are appended. -/
theorem pushM {w : World} {sl : Slc} {D : List Mk} (hr : Row w sl 107 3 (D.flatMap mrow)) (hl : D.length ≤ 2000000) (Q : List Mk) (hQ : Q.length ≤ 2) {n : Nat} (hn : n = Q.length) {cs : Array Value} (hcs : cs = (Q.flatMap mrow).toArray) {K : Slc → World → Prop}
    (k : ∀ s' w', Row w' s' 107 3 ((D ++ Q).flatMap mrow) → Ext sl.own w w' → (∀ j, s'.own j → sl.own j ∨ w.heap.size ≤ j) → K s' w') :
    Nw w (.cells cs 107) fun v => Rn Tryz.prog (Builtin.append_ #[104, 104] 104 #[Slc.v sl, Slc.v ((⟨some ⟨w.heap.size, 0, none⟩, n, n⟩ : Slc))]) v Slc.v K := by
  subst hcs hn
  refine Nw.of ?_
  have e1 := (Ext.refl (fun _ => False) w).alloc (.cells (Q.flatMap mrow).toArray 107)
  have hsl : sl.len = D.length := by
    have := hr.1
    rw [m_len] at this
    omega
  obtain ⟨s', w', hrun, hrow, hlen, hext, hown⟩ := elM.app (ty := 104) (s2 := ⟨some ⟨w.heap.size, 0, none⟩, Q.length, Q.length⟩) (hr.keep e1 fun _ _ h => h) (VRow.of (Blk.new w _ _) (m_len Q)) (m_one Q) (by show (sl.len + Q.length) * 24 ≤ _; omega) (by show sl.len + Q.length ≤ _; omega)
  refine ⟨s', w', hrun, k s' w' ?_ ?_ fun j hj => (hown j hj).imp id fun h => Nat.le_trans e1.size h⟩
  · rw [List.flatMap_append]
    exact hrow
  · exact (e1.mono fun _ _ h => h.elim).trans hext (fun _ h => h) fun _ _ h => h
theorem row_mv {w : World} {sl : Slc} {D : List Mk} (hr : Row w sl 107 3 (D.flatMap mrow)) : MV w sl D := by
  refine ⟨?_, hr.view⟩
  have := hr.1
  rw [m_len] at this
  omega
theorem marksF_more (l : List Int) : ∀ (k d i : Nat), l.length ≤ i + k → marksF l (k + d) i = marksF l k i
  | 0, 0, i, h => rfl
  | 0, d + 1, i, h => by
    show marksF l (0 + d + 1) i = []
    unfold marksF
    rw [if_pos (by omega)]
  | k + 1, d, i, h => by
    rw [show k + 1 + d = k + d + 1 by omega]
    unfold marksF
    split
    · rfl
    · rename_i c1
      have h1 : 1 ≤ (markAt l i).2 := by
        have := runK_spec l i (l.length - (i + 1)) 1
        unfold markAt
        dsimp only
        split
        · omega
        · split
          · omega
          · split <;> omega
      rw [marksF_more l k d (i + (markAt l i).2) (by omega)]
theorem markAt_bd (l : List Int) {i : Nat} (hi : i < l.length) : 1 ≤ (markAt l i).2 ∧ i + (markAt l i).2 ≤ l.length ∧ (markAt l i).1.length ≤ 2 := by
  have := runK_spec l i (l.length - (i + 1)) 1
  unfold markAt
  dsimp only
  split
  · exact ⟨by omega, by omega, by simp⟩
  · split
    · exact ⟨by omega, by omega, by simp⟩
    · split
      · exact ⟨by omega, by omega, by simp⟩
      · exact ⟨by omega, by omega, by simp⟩
theorem marksF_step (l : List Int) {i : Nat} (hi : i < l.length) : marksF l (l.length - i) i = (markAt l i).1 ++ marksF l (l.length - (i + (markAt l i).2)) (i + (markAt l i).2) := by
  obtain ⟨h1, h2, _⟩ := markAt_bd l hi
  rw [show l.length - i = (l.length - (i + 1)) + 1 by omega]
  conv => lhs; unfold marksF
  rw [if_neg (by omega)]
  congr 1
  have := marksF_more l (l.length - (i + (markAt l i).2)) ((markAt l i).2 - 1) (i + (markAt l i).2) (by omega)
  rw [← this]
  congr 1
  omega
theorem runK_step (l : List Int) (i n k : Nat) : runK l i n (k + 1) = if l.getD (i + n) 0 = l.getD i 0 then runK l i (n + 1) k else n := rfl
/-- foliant/deflate.marks -/
theorem c_marks {w : World} {s : Slc} {l : List Int} (h : IV w s l) (hlen : l.length ≤ 1000) (hl : ∀ i, 0 ≤ l.getD i 0 ∧ l.getD i 0 ≤ 15) : C65 s w fun r w1 => MV w1 r (marksS l) ∧ Ext (fun _ => False) w w1 := by
  refine T65 _ _ _ ?_
  unfold S65
  refine ⟨fun m st w3 => ∃ (i : Nat) (D : List Mk), st.2 = (i : Int) ∧ i ≤ l.length ∧ m = l.length - i ∧ D.length ≤ 2 * i ∧ Row w3 st.1 107 3 (D.flatMap mrow) ∧ D ++ marksF l (l.length - i) i = marksS l ∧ Ext (fun _ => False) w w3 ∧ ∀ j, st.1.own j → w.heap.size ≤ j, l.length,
    ⟨0, [], rfl, Nat.zero_le _, rfl, Nat.le_refl _, Row.nil _ _ _, rfl, Ext.refl _ _, fun j hj => by obtain ⟨a, ha, _⟩ := hj; cases ha⟩, ?_⟩
  rintro m ⟨sl, i'⟩ w3 ⟨i, D, hi', hi, rfl, hD, hr, hres, he, ho⟩
  simp only at hi' hr ho
  subst hi'
  have h1 := h.1
  unfold S65L2
  dsimp only
  rw [h1]
  refine Br.dec (fun q => ?_) fun q => ?_
  · have hil : i < l.length := by omega
    have hx := hl i
    obtain ⟨b1, b2, b3⟩ := markAt_bd l hil
    rw [marksF_step l hil] at hres
    have spec := runK_spec l i (l.length - (i + 1)) 1
    refine ⟨fun n' w4 => n' = (runK l i 1 (l.length - (i + 1)) : Int) ∧ Ext (fun _ => False) w3 w4, ?_, ?_⟩
    · rintro _ w4 ⟨rfl, e4⟩
      unfold S65J1
      dsimp only
      rw [h1]
      have hr := hr.keep e4 fun _ _ h => h
      have he4 := he.tr e4
      obtain ⟨a, ha, hc⟩ := (h.keep he4).get hil
      rw [ha, Int.toNat_natCast]
      have zz := he4.size
      -- what follows the append
      have next : ∀ (Q : List Mk) (n : Nat), markAt l i = (Q, n) → ∀ s' w', Row w' s' 107 3 ((D ++ Q).flatMap mrow) → Ext sl.own w4 w' → (∀ j, s'.own j → sl.own j ∨ w4.heap.size ≤ j) → ∀ x : Int, x = ((i + n : Nat) : Int) → ∃ n', n' < l.length - i ∧ ∃ (i_1 : Nat) (D : List Mk), x = (i_1 : Int) ∧ i_1 ≤ l.length ∧ n' = l.length - i_1 ∧ D.length ≤ 2 * i_1 ∧ Row w' s' 107 3 (D.flatMap mrow) ∧ D ++ marksF l (l.length - i_1) i_1 = marksS l ∧ Ext (fun _ => False) w w' ∧ ∀ j, s'.own j → w.heap.size ≤ j := by
        rintro Q n hm s' w' r1 r2 r3 x rfl
        rw [hm] at b1 b2 b3 hres
        dsimp only at b1 b2 b3 hres
        refine ⟨l.length - (i + n), by omega, i + n, D ++ Q, rfl, b2, rfl, by rw [List.length_append]; omega, r1, by rw [List.append_assoc]; exact hres, he4.trans r2 (fun _ h => h) fun j hj e => by have := ho j e; omega, fun j hj => ?_⟩
        rcases r3 j hj with e | e
        · exact ho j e
        · omega
      unfold markAt at next
      dsimp only at next
      generalize hn : runK l i 1 (l.length - (i + 1)) = n at spec next ⊢
      have hxn : ((l.getD i 0).toNat : Int) = l.getD i 0 := by omega
      refine ⟨by omega, by omega, Nn.of (Ld.mk (x := l.getD i 0) hc (Br.eq (fun q1 => ?_) fun q1 => ?_))⟩
      · refine Br.dec (fun q2 => ?_) fun q2 => ?_
        · rw [if_pos ⟨q1, by omega⟩] at next
          have em : (if (138 : Int) < (n : Int) then 138 else (n : Int)) = ((min n 138 : Nat) : Int) := by split <;> omega
          rw [em, i64_id (n := ((min n 138 : Nat) : Int) - 11) (by omega), show ((min n 138 : Nat) : Int) - 11 = ((min n 138 - 11 : Nat) : Int) by omega]
          refine pushM (D := D) hr (by omega) [(18, min n 138 - 11, 7)] (by simp) rfl rfl fun s' w' r1 r2 r3 => ?_
          exact next _ _ rfl s' w' r1 r2 r3 _ (by rw [i64_id (by omega)]; omega)
        · rw [if_neg (fun hh => by omega)] at next
          refine ⟨by omega, by omega, Nn.of (Ld.mk (x := l.getD i 0) hc (Br.eq (fun _ => ?_) fun hh => absurd q1 hh))⟩
          refine Br.dec (fun q3 => ?_) fun q3 => ?_
          · rw [if_pos ⟨q1, by omega⟩] at next
            rw [i64_id (n := (n : Int) - 3) (by omega), show (n : Int) - 3 = ((n - 3 : Nat) : Int) by omega]
            refine pushM (D := D) hr (by omega) [(17, n - 3, 3)] (by simp) rfl rfl fun s' w' r1 r2 r3 => ?_
            exact next _ _ rfl s' w' r1 r2 r3 _ (by rw [i64_id (by omega)]; omega)
          · rw [if_neg (fun hh => by omega)] at next
            refine Br.dec (fun q4 => absurd q4 (by omega)) fun q4 => ?_
            rw [if_neg (by omega)] at next
            refine ⟨by omega, by omega, Nn.of (Ld.mk (x := l.getD i 0) hc ?_)⟩
            rw [← hxn]
            refine pushM (D := D) hr (by omega) [((l.getD i 0).toNat, 0, 0)] (by simp) rfl rfl fun s' w' r1 r2 r3 => ?_
            exact next _ _ rfl s' w' r1 r2 r3 _ (by rw [i64_id (by omega)]; omega)
      · rw [if_neg (fun hh => q1 hh.1), if_neg (fun hh => q1 hh.1)] at next
        refine ⟨by omega, by omega, Nn.of (Ld.mk (x := l.getD i 0) hc (Br.eq (fun hh => absurd hh q1) fun _ => ?_))⟩
        refine Br.dec (fun q4 => ?_) fun q4 => ?_
        · rw [if_pos (by omega)] at next
          have em : (if (7 : Int) < (n : Int) then 7 else (n : Int)) = ((min n 7 : Nat) : Int) := by split <;> omega
          refine ⟨by omega, by omega, Nn.of (Ld.mk (x := l.getD i 0) hc ?_)⟩
          rw [em, i64_id (n := ((min n 7 : Nat) : Int) - 4) (by omega), show ((min n 7 : Nat) : Int) - 4 = ((min n 7 - 4 : Nat) : Int) by omega, ← hxn]
          refine pushM (D := D) hr (by omega) [((l.getD i 0).toNat, 0, 0), (16, min n 7 - 4, 2)] (by simp) rfl rfl fun s' w' r1 r2 r3 => ?_
          exact next _ _ rfl s' w' r1 r2 r3 _ (by rw [i64_id (by omega)]; omega)
        · rw [if_neg (by omega)] at next
          refine ⟨by omega, by omega, Nn.of (Ld.mk (x := l.getD i 0) hc ?_)⟩
          rw [← hxn]
          refine pushM (D := D) hr (by omega) [((l.getD i 0).toNat, 0, 0)] (by simp) rfl rfl fun s' w' r1 r2 r3 => ?_
          exact next _ _ rfl s' w' r1 r2 r3 _ (by rw [i64_id (by omega)]; omega)
    · refine ⟨fun m st w4 => ∃ n : Nat, st = (n : Int) ∧ 1 ≤ n ∧ i + n ≤ l.length ∧ m = l.length - n ∧ runK l i n (l.length - (i + n)) = runK l i 1 (l.length - (i + 1)) ∧ Ext (fun _ => False) w3 w4, l.length - 1, ⟨1, rfl, Nat.le_refl _, by omega, rfl, rfl, Ext.refl _ _⟩, ?_⟩
      rintro m st w4 ⟨n, rfl, n1, n2, rfl, hrn, e4⟩
      unfold S65L1
      dsimp only
      rw [h1, i64_id (n := (i : Int) + (n : Int)) (by omega), show (i : Int) + (n : Int) = ((i + n : Nat) : Int) by omega]
      refine Br.dec (fun q1 => ?_) fun q1 => ?_
      · obtain ⟨a, ha, hc⟩ := (h.keep (he.tr e4.drew)).get (i := i + n) (by omega)
        obtain ⟨a', ha', hc'⟩ := (h.keep (he.tr e4.drew)).get hil
        rw [ha] at ha'
        cases ha'
        rw [ha]
        refine ⟨by omega, by omega, Nn.of ?_⟩
        rw [Int.toNat_natCast, Int.toNat_natCast]
        refine Ld.mk (x := l.getD (i + n) 0) hc ⟨by omega, by omega, Nn.of (Ld.mk (x := l.getD i 0) hc' ?_)⟩
        rw [show l.length - (i + n) = (l.length - (i + (n + 1))) + 1 by omega, runK_step] at hrn
        refine Br.eq (fun q2 => ?_) fun q2 => ?_
        · rw [if_pos q2] at hrn
          exact ⟨l.length - (n + 1), by omega, n + 1, by rw [i64_id (by omega)]; rfl, by omega, by omega, rfl, hrn, e4.drew⟩
        · rw [if_neg q2] at hrn
          exact ⟨by rw [hrn], e4.drew⟩
      · have : l.length - (i + n) = 0 := by omega
        rw [this] at hrn
        exact ⟨by rw [← hrn]; rfl, e4.drew⟩
  · have : i = l.length := by omega
    subst this
    rw [Nat.sub_self] at hres
    have hres : D ++ [] = _ := hres
    rw [List.append_nil] at hres
    rw [← hres]
    exact ⟨row_mv hr, he⟩
end Inf
end Go.Proofs.YtjkoafjnmkchdaaGreatDoor

/- The copy of a string, by the kit's summary. No condition but its size. -/
namespace Go.Proofs.YtjkoafjnmkchdaaGreatDoor
open Sh
set_option linter.unusedVariables false
set_option linter.unusedSimpArgs false
def cloneR : Go.Shelf.Ren := { f := fun _ => 68, t := fun k => if k = 37 then 29 else if k = 47 then 150 else k, g := fun k => k }
section
variable {P : Program} {t : TypeId} {d : TypeDesc} {z : Value} {n b : Nat}
theorem lay_z (h : (P.info? t).map (fun i => (i.zero, i.size, i.bytes)) = some (some z, n, b)) (w : World) : (Go.sizeOf t).run P w = .ok n w ∧ (zeroValue t).run P w = .ok z w := by
  cases hi : P.info? t with
  | none => rw [hi] at h; cases h
  | some i =>
    rw [hi] at h
    have h := Option.some.inj h
    have h1 : i.zero = some z := congrArg (fun x => x.1) h
    have h2 : i.size = n := congrArg (fun x => x.2.1) h
    subst h2
    exact ⟨by simp [sizeOf, typeInfo, hi], by simp [zeroValue, typeInfo, hi, h1]⟩
end
theorem lt0 : Tryz.prog.underlying 0 = some (TypeDesc.tuple #[]) := by kernel_rfl
theorem li0 : (Tryz.prog.info? 0).map (fun i => (i.zero, i.size, i.bytes)) = some (some (Value.tuple #[]), 1, 0) := by kernel_rfl
theorem la0 (w : World) : (isAgg 0).run Tryz.prog w = .ok false w := by simp [isAgg, run_underlying lt0]
theorem lt3 : Tryz.prog.underlying 3 = some (TypeDesc.int IntKind.i64) := by kernel_rfl
theorem li3 : (Tryz.prog.info? 3).map (fun i => (i.zero, i.size, i.bytes)) = some (some (Value.int IntKind.i64 0), 1, 8) := by kernel_rfl
theorem la3 (w : World) : (isAgg 3).run Tryz.prog w = .ok false w := by simp [isAgg, run_underlying lt3]
theorem lt4 : Tryz.prog.underlying 4 = some (TypeDesc.bool) := by kernel_rfl
theorem li4 : (Tryz.prog.info? 4).map (fun i => (i.zero, i.size, i.bytes)) = some (some (Value.bool false), 1, 1) := by kernel_rfl
theorem la4 (w : World) : (isAgg 4).run Tryz.prog w = .ok false w := by simp [isAgg, run_underlying lt4]
theorem lt5 : Tryz.prog.underlying 5 = some (TypeDesc.int IntKind.u8) := by kernel_rfl
theorem li5 : (Tryz.prog.info? 5).map (fun i => (i.zero, i.size, i.bytes)) = some (some (Value.int IntKind.u8 0), 1, 1) := by kernel_rfl
theorem la5 (w : World) : (isAgg 5).run Tryz.prog w = .ok false w := by simp [isAgg, run_underlying lt5]
theorem lt9 : Tryz.prog.underlying 9 = some (TypeDesc.string) := by kernel_rfl
theorem li9 : (Tryz.prog.info? 9).map (fun i => (i.zero, i.size, i.bytes)) = some (some (Value.string { data := #[] }), 1, 16) := by kernel_rfl
theorem la9 (w : World) : (isAgg 9).run Tryz.prog w = .ok false w := by simp [isAgg, run_underlying lt9]
theorem lt37 : Tryz.prog.underlying 29 = some (TypeDesc.slice 5) := by kernel_rfl
theorem li37 : (Tryz.prog.info? 29).map (fun i => (i.zero, i.size, i.bytes)) = some (some (Value.slice none 0 0), 1, 24) := by kernel_rfl
theorem la37 (w : World) : (isAgg 29).run Tryz.prog w = .ok false w := by simp [isAgg, run_underlying lt37]
theorem lt47 : Tryz.prog.underlying 150 = some (TypeDesc.pointer 5) := by kernel_rfl
theorem li47 : (Tryz.prog.info? 150).map (fun i => (i.zero, i.size, i.bytes)) = some (some (Value.pointer none), 1, 8) := by kernel_rfl
theorem la47 (w : World) : (isAgg 150).run Tryz.prog w = .ok false w := by simp [isAgg, run_underlying lt47]
set_option maxRecDepth 100000 in
theorem clone_lays : LaysPu.n25 Tryz.prog cloneR where
  mixed := by kernel_rfl
  f25 := by kernel_rfl
  t0 := lt0
  a0 := la0
  z0 := fun w => (lay_z li0 w).1
  v0 := fun w => (lay_z li0 w).2
  i0 := li0
  t3 := lt3
  a3 := la3
  z3 := fun w => (lay_z li3 w).1
  v3 := fun w => (lay_z li3 w).2
  i3 := li3
  t4 := lt4
  a4 := la4
  z4 := fun w => (lay_z li4 w).1
  v4 := fun w => (lay_z li4 w).2
  i4 := li4
  t5 := lt5
  a5 := la5
  z5 := fun w => (lay_z li5 w).1
  v5 := fun w => (lay_z li5 w).2
  i5 := li5
  t9 := lt9
  a9 := la9
  z9 := fun w => (lay_z li9 w).1
  v9 := fun w => (lay_z li9 w).2
  i9 := li9
  t37 := lt37
  a37 := la37
  z37 := fun w => (lay_z li37 w).1
  v37 := fun w => (lay_z li37 w).2
  i37 := li37
  t47 := lt47
  a47 := la47
  z47 := fun w => (lay_z li47 w).1
  v47 := fun w => (lay_z li47 w).2
  i47 := li47
theorem ext_below {B : Nat} {w w' : World} (h : Go.RowKit.Below B w w') (hB : B = w.heap.size) : Ext (fun _ => False) w w' := by
  subst hB
  exact ⟨h.os, h.tape, h.output, h.size, fun k hk _ => h.block k hk⟩
theorem c_cloneS (s : ByteArray) (hs : s.size ≤ 281474976710656) (w : World) : C68 s w fun r w1 => r = s ∧ Ext (fun _ => False) w w1 := by
  have := AnyPu.stringslite_Clone clone_lays s w hs
  exact this.mono fun e w' ⟨he, hb⟩ => ⟨s, he, rfl, ext_below hb rfl⟩
end Go.Proofs.YtjkoafjnmkchdaaGreatDoor

/- Deflate: a block with its own codes. Conditions: sizes. -/
namespace Go.Proofs.YtjkoafjnmkchdaaGreatDoor
namespace Inf
open Sh Bit
set_option linter.unusedVariables false
set_option linter.unusedSimpArgs false
set_option maxRecDepth 4000
set_option maxHeartbeats 2000000
attribute [local irreducible] Ld St Nw Nn Lt LdS
theorem why_zero {c : List Int} {m : Nat} (h : c.length ≤ 288) (hm : 1 ≤ m ∧ m ≤ 15) (hc : ∀ i, i < c.length → 0 ≤ c.getD i 0 ∧ c.getD i 0 ≤ 2147483647) (h2 : c.length ≤ 2 ^ m) : Pm.why c (m : Int) = 0 := by
  rw [Srt.why_rest h (by omega) hc, if_neg]
  rw [Int.toNat_natCast, ← Pm.lv_srt]
  have := Pm.lv_len c c.length
  omega
/-- Lengths of counted signs. -/
theorem c_len {w : World} {s : Slc} {c : List Int} (h : IV w s c) (hl : c.length ≤ 288) {m : Nat} (hm : 1 ≤ m ∧ m ≤ 15) (hc : ∀ i, i < c.length → 0 ≤ c.getD i 0 ∧ c.getD i 0 ≤ 2147483647) (h2 : c.length ≤ 2 ^ m) :
    C63 s (m : Int) w (fun r e w1 => Ext (fun _ => False) w w1 ∧ ∃ l, IV w1 r l ∧ r.len ≤ r.cap ∧ l.length = c.length ∧ chk l = 0 ∧ (∀ i, 0 ≤ l.getD i 0 ∧ l.getD i 0 ≤ (m : Int)) ∧ (∀ i, 0 < c.getD i 0 → 0 < l.getD i 0) ∧ Srt.LenOf c m l) fun _ _ => False := by
  refine (Srt.c_lengthsC h).mono ?_ fun _ _ h => h
  rintro r e w1 ⟨_, he, _, h4⟩
  obtain ⟨l, a, b, d, u⟩ := h4 (why_zero hl hm hc h2)
  rw [Int.toNat_natCast] at u
  have out : ∀ i, ¬ i < c.length → l.getD i 0 = 0 ∧ c.getD i 0 = 0 := fun i hi => by
    have := b.len
    exact ⟨by rw [List.getD_eq_getElem?_getD, List.getElem?_eq_none (by omega)]; rfl, by rw [List.getD_eq_getElem?_getD, List.getElem?_eq_none (by omega)]; rfl⟩
  refine ⟨he, l, a, d, b.len, b.chk, fun i => ?_, fun i hi => ?_, u⟩
  · by_cases hi : i < c.length
    · have := b.most i hi
      rw [Int.toNat_natCast] at this
      exact ⟨this.1, this.2.1⟩
    · rw [(out i hi).1]; omega
  · by_cases hi2 : i < c.length
    · have := b.most i hi2
      have h3 := this.2.2
      have h1 := this.1
      rcases Int.lt_or_le 0 (l.getD i 0) with h | h
      · exact h
      · have := h3.1 (by omega)
        omega
    · have := (out i hi2).2
      omega
theorem FitM.ok {many : Nat} : ∀ (M : List Mk) (acc : List Int), FitM many M acc → ∀ m ∈ M, m.ok
  | [], _, _, m, hm => by cases hm
  | q :: M, acc, h, m, hm => by
    obtain ⟨h1, _, _, h4⟩ := h
    rcases List.mem_cons.1 hm with rfl | hm
    · exact h1
    · exact FitM.ok M _ h4 m hm
/-- The order as the program holds it. -/
theorem c_places (w : World) : C66 w fun r w1 => r = (16, 17, 18, 0, 8, 7, 9, 6, 10, 5, 11, 4, 12, 3, 13, 2, 14, 1, 15) ∧ Ext (fun _ => False) w w1 := by
  refine T66 _ _ ?_
  unfold S66
  refine (Hn.start w).nw fun w2 H => ?_
  simp only [List.nil_append] at H
  iterate 19 (refine H.st 0 rfl (by simp) fun _ H => ?_; simp only [List.nil_append, List.cons_append, List.set_cons_zero, List.set_cons_succ, Nat.zero_add] at H)
  iterate 19 refine H.ld 0 rfl rfl ?_
  exact ⟨rfl, H.ext⟩
theorem ord_at {i : Nat} (h : i < 19) : (#[.int .i64 16, .int .i64 17, .int .i64 18, .int .i64 0, .int .i64 8, .int .i64 7, .int .i64 9, .int .i64 6, .int .i64 10, .int .i64 5, .int .i64 11, .int .i64 4, .int .i64 12, .int .i64 3, .int .i64 13, .int .i64 2, .int .i64 14, .int .i64 1, .int .i64 15] : Array Value)[i]? = some (.int .i64 ((order.getD i 0 : Nat) : Int)) := by
  have e : (#[.int .i64 16, .int .i64 17, .int .i64 18, .int .i64 0, .int .i64 8, .int .i64 7, .int .i64 9, .int .i64 6, .int .i64 10, .int .i64 5, .int .i64 11, .int .i64 4, .int .i64 12, .int .i64 3, .int .i64 13, .int .i64 2, .int .i64 14, .int .i64 1, .int .i64 15] : Array Value) = (ints (ordI order)).toArray := rfl
  rw [e, List.getElem?_toArray, ints_get (by rw [ordI_len]; exact h), ordI_get]
/-- The counts of the marks. -/
def cntM (M : List Mk) : List Int := M.foldl (fun c m => inc c m.1) (List.replicate 19 0)
theorem cntM_snoc (M : List Mk) (m : Mk) : cntM (M ++ [m]) = inc (cntM M) m.1 := by
  unfold cntM
  rw [List.foldl_append]
  rfl
/-- The marks are counted. -/
theorem own_marks {w : World} {r29 x31 r20 r22 s : Slc} {vw10 : World} {M : List Mk} (hM : MV w r29 M) (hl : M.length ≤ 1000) (hok : ∀ m ∈ M, m.1 < 19) {g : Nat} {R : ByteArray → World → Prop} (hx : x31 = ⟨some ⟨g, 0, none⟩, 19, 19⟩) {w32 : World} (H : Hn w w32 [(g, ints (List.replicate 19 0), 3)])
    (k : ∀ w' cm, Hn w w' [(g, ints cm, 3)] → cm.length = 19 → (∀ j, 0 ≤ cm.getD j 0 ∧ cm.getD j 0 ≤ 2147483647) → (∀ m ∈ M, 0 < cm.getD m.1 0) → cm = cntM M → C63 x31 7 w' (fun r65 r66 vw67 =>
      C60 r65 vw67 fun r68 r69 vw70 =>
        C66 vw70 fun r82 vw83 =>
          Lp (σ := Slc × Int) (S37L3 s vw10 r20 r22 r29 r65 r68 r82 R) ((⟨none, 0, 0⟩ : Slc), 0) vw83) fun _ _ => False) :
    Lp (σ := Int) (S37L4 s vw10 r20 r22 r29 x31 R fun _ _ => False) 0 w32 := by
  subst hx
  refine ⟨fun m i' w4 => ∃ (i : Nat) (cm : List Int), i' = (i : Int) ∧ i ≤ M.length ∧ m = M.length - i ∧ Hn w w4 [(g, ints cm, 3)] ∧ cm.length = 19 ∧ (∀ j, 0 ≤ cm.getD j 0 ∧ cm.getD j 0 ≤ (i : Int)) ∧ (∀ q ∈ M.take i, 0 < cm.getD q.1 0) ∧ cm = cntM (M.take i), M.length, ⟨0, _, rfl, Nat.zero_le _, rfl, H, List.length_replicate, fun j => by rw [rep_get]; omega, (fun q hq => by cases hq), rfl⟩, ?_⟩
  rintro m i' w4 ⟨i, cm, rfl, hi, rfl, H, hcl, hcb, hcp, hcm⟩
  unfold S37L4
  rw [hM.1]
  dsimp only
  refine Br.dec (fun q => ?_) fun q => ?_
  · have hil : i < M.length := by omega
    have hio : M[i]? = some M[i] := List.getElem?_eq_getElem hil
    have hmk := hok M[i] (List.getElem_mem hil)
    have htk : M.take (i + 1) = M.take i ++ [M[i]] := by rw [List.take_add_one, hio]; rfl
    obtain ⟨a, ha, c0, c1, c2⟩ := (hM.keep H.ext).get hio
    generalize M[i] = mk at *
    rw [ha]
    refine ⟨by omega, by omega, Nn.of ?_⟩
    rw [Int.toNat_natCast]
    refine Ld.mk (x := (mk.1 : Int)) c0 (Ld.mk (x := (mk.2.1 : Int)) c1 (Ld.mk (x := (mk.2.2 : Int)) c2 ?_))
    refine H.nw fun w5 H => ?_
    simp only [List.cons_append, List.nil_append] at H
    iterate 3 (refine H.st 1 rfl (by simp) fun _ H => ?_; simp only [List.nil_append, List.cons_append, List.set_cons_zero, List.set_cons_succ, Nat.zero_add] at H)
    iterate 1 refine H.ld 1 rfl rfl ?_
    have hb := hcb mk.1
    refine ⟨by omega, by omega, Nn.of ?_⟩
    simp only [add_lit, Int.toNat_natCast, Nat.mul_one, Nat.zero_add]
    refine H.ld 0 rfl (ints_get (by omega)) ?_
    refine ⟨by omega, by omega, Nn.of ?_⟩
    simp only [add_lit, Int.toNat_natCast, Nat.mul_one, Nat.zero_add]
    rw [i64_id (n := cm.getD mk.1 0 + 1) (by omega)]
    refine H.st 0 rfl (by rw [ints_len]; omega) fun w9 H => ?_
    simp only [List.set_cons_zero, List.set_cons_succ] at H
    rw [ints_set] at H
    have H := Hn.left (L := [_]) (M := [_]) H
    have hg := fun j => inc_get (c := cm) (o := mk.1) (by omega) j
    refine ⟨M.length - (i + 1), by omega, i + 1, inc cm mk.1, by rw [i64_id (by omega)]; rfl, by omega, rfl, H, by rw [inc_len]; exact hcl, fun j => by have := hcb j; rw [hg]; split <;> omega, fun q hq => ?_, by rw [htk, cntM_snoc, ← hcm]⟩
    rw [htk] at hq
    rw [hg]
    rcases List.mem_append.1 hq with hq | hq
    · have := hcp q hq
      split <;> omega
    · rw [List.mem_singleton.1 hq, if_pos rfl]
      omega
  · have : i = M.length := by omega
    subst this
    rw [List.take_length] at hcp hcm
    exact k w4 cm H hcl (fun j => by have := hcb j; omega) hcp hcm
end Inf
end Go.Proofs.YtjkoafjnmkchdaaGreatDoor

/- Deflate: a block with its own codes, the whole. Conditions: sizes. -/
namespace Go.Proofs.YtjkoafjnmkchdaaGreatDoor
namespace Inf
open Sh Bit
set_option linter.unusedVariables false
set_option linter.unusedSimpArgs false
set_option maxRecDepth 4000
set_option maxHeartbeats 4000000
attribute [local irreducible] Ld St Nw Nn Lt LdS
theorem marksF_len (l : List Int) : ∀ (k i : Nat), (marksF l k i).length ≤ 2 * k
  | 0, i => Nat.le_refl _
  | k + 1, i => by
    unfold marksF
    split
    · simp
    · rename_i h
      have h1 := (markAt_bd l (i := i) (by omega)).2.2
      have h2 := marksF_len l k (i + (markAt l i).2)
      rw [List.length_append]
      omega
theorem repB_le (s : Nat) : repB s ≤ 7 := by
  unfold repB
  split
  · decide
  · split <;> decide
theorem PW.base {wA w : World} {wb : Nat} {ws : Slc} {way : Int} {st : WS} (h : PW wA w wA.heap.size wb ws way st) : Ext (fun _ => False) wA w :=
  (Ext.refl _ _).trans h.ext (fun _ h => h) fun j hj e => by omega
theorem Own.bds (o : Own) (ha : ∀ i, 0 ≤ o.a.getD i 0 ∧ o.a.getD i 0 ≤ 15) (hb : ∀ i, 0 ≤ o.b.getD i 0 ∧ o.b.getD i 0 ≤ 15) (i : Nat) : 0 ≤ o.all.getD i 0 ∧ o.all.getD i 0 ≤ 15 := by
  unfold Own.all
  rw [List.getD_eq_getElem?_getD]
  by_cases hi : i < (o.a.take o.na).length
  · rw [List.getElem?_append_left hi, ← List.getD_eq_getElem?_getD, o.ta.take]
    exact ha i
  · rw [List.getElem?_append_right (by omega), ← List.getD_eq_getElem?_getD, o.tb.take]
    exact hb _
/-- What is chosen for these parts: there is one choice alone. -/
structure OwnOf (l : List Prt) (o : Own) : Prop where
  a : Srt.LenOf (cntS l).1 15 o.a
  b : Srt.LenOf (cntS l).2 15 o.b
  c : Srt.LenOf (cntM (marksS o.all)) 7 o.c
theorem OwnOf.one {l : List Prt} {o o' : Own} (h : OwnOf l o) (k : OwnOf l o') : o = o' := by
  obtain ⟨a, b, c⟩ := o
  obtain ⟨a', b', c'⟩ := o'
  have ea : a = a' := h.a.one k.a
  have eb : b = b' := h.b.one k.b
  subst ea eb
  have ec : c = c' := h.c.one k.c
  rw [ec]
/-- foliant/deflate.own -/
theorem c_own {w : World} {s : Slc} {l : List Prt} (hP : PV w s (l.map rawP)) (hl : l.length ≤ 1048576) (hf : Fit l []) : C37 s w (fun r w1 => ∃ o : Own, o.ok ∧ (∀ p ∈ l, Has o.a o.b p) ∧ r = ⟨(o.T l).toArray⟩ ∧ Ext (fun _ => False) w w1 ∧ OwnOf l o) fun _ _ => False := by
  have hoks := Fit.ok hf
  refine T37 _ _ _ _ ?_
  unfold S37
  refine (c_countP hP hl hoks).mono ?_
  rintro r2 r3 w4 ⟨ca, cb, Ia, Ib, CI, e4⟩
  have hla := CI.la
  have hlb := CI.lb
  refine (c_len Ia (m := 15) (by omega) (by decide) (fun i _ => by have := CI.ba i; omega) (by rw [hla]; decide)).mono ?_ fun _ _ h => h
  rintro r5 r6 w7 ⟨e7, la, Ia, capa, lla, ca0, ba, posa, ua⟩
  refine (c_len (Ib.keep e7) (m := 15) (by omega) (by decide) (fun i _ => by have := CI.bb i; omega) (by rw [hlb]; decide)).mono ?_ fun _ _ h => h
  rintro r8 r9 w10 ⟨e10, lb, Ib, capb, llb, cb0, bb, posb, ub⟩
  have hcnt := CI.it
  rw [List.take_length] at hcnt
  have Ia := Ia.keep e10
  have lla : la.length = 286 := by rw [lla, hla]
  have llb : lb.length = 30 := by rw [llb, hlb]
  have E10 := (e4.tr e7).tr e10
  refine (Hn.start w10).nw' fun w11 H e11 => ?_
  simp only [List.nil_append] at H
  have z11 : w10.heap.size < w11.heap.size := H.lt 0 rfl
  refine (c_new (Ia.keep e11)).mono ?_
  rintro r12 r13 w14 ⟨rfl, e14, _, h14⟩
  obtain ⟨t1, rfl, T1⟩ := h14 ca0
  have H := H.keep e14
  refine H.st' 0 rfl (by simp) fun w15 H e15 => ?_
  simp only [List.set_cons_zero, List.set_cons_succ] at H
  have T1 := T1.keep e15 fun j h1 h2 e => by omega
  refine (c_new (Ib.keep H.ext)).mono ?_
  rintro r16 r17 w18 ⟨rfl, e18, _, h18⟩
  obtain ⟨t2, rfl, T2⟩ := h18 cb0
  have H := H.keep e18
  have T1 := T1.keep e18 fun _ _ _ h => h
  have z14 := e14.size
  have z15 := e15.size
  have z18 := e18.size
  refine H.st' 0 rfl (by simp) fun w19 H e19 => ?_
  simp only [List.set_cons_zero, List.set_cons_succ] at H
  have T1 := T1.keep e19 fun j h1 h2 e => by have e : j = w10.heap.size := e; omega
  have T2 := T2.keep e19 fun j h1 h2 e => by have e : j = w10.heap.size := e; omega
  have z19 := e19.size
  have E19 := E10.tr H.ext
  have Ia19 := Ia.keep H.ext
  have Ib19 := Ib.keep H.ext
  have pB := H.get 0 rfl
  refine (c_cut Ia19 capa (by omega) 257 (by omega)).mono ?_
  rintro r20 w21 ⟨Ia20, len20, hw⟩
  replace hw := hw.symm
  subst hw
  refine (c_cut Ib19 capb (by omega) 1 (by omega)).mono ?_
  rintro r22 w21 ⟨Ib22, len22, hw⟩
  replace hw := hw.symm
  subst hw
  -- the lengths, joined
  refine Nw.of ?_
  have e24 := (Ext.refl (fun _ => False) w19).alloc (.cells #[] 3)
  have R0 : Row (w19.alloc (.cells #[] 3)) ⟨some ⟨w19.heap.size, 0, none⟩, 0, 0⟩ 3 1 [] := Row.new w19 #[] 3 1 0 rfl
  have m1 := cutN_spec la 257 la.length
  have m2 := cutN_spec lb 1 lb.length
  obtain ⟨x25, w26, hrun, R25, len25, e26, own25⟩ := elI.app0 (ty := 76) (by decide) R0 rfl (Ia20.keep e24).2 (ints_one _) (by rw [len20]; omega) (by rw [len20]; omega)
  refine ⟨x25, w26, hrun, ?_⟩
  have E26 := (e24.tr e26)
  have z24 := e24.size
  have z26 := e26.size
  obtain ⟨x27, w28, hrun, R27, len27, e28, own27⟩ := elI.app (ty := 76) R25 (Ib22.keep E26).2 (ints_one _) (by rw [len25, len20, len22]; omega) (by rw [len25, len20, len22]; omega)
  refine ⟨x27, w28, hrun, ?_⟩
  have E28 : Ext (fun _ => False) w19 w28 := E26.trans e28 (fun _ h => h) fun j hj e => by
    rcases own25 j e with ⟨a, ha, hb⟩ | e
    · cases ha
      have hb : w19.heap.size = j := hb
      omega
    · omega
  rw [← ints_app] at R27
  -- what is chosen, but for the code of lengths
  have hall : ∀ lc, (Own.mk la lb lc).all = la.take (cutN la 257 la.length) ++ lb.take (cutN lb 1 lb.length) := fun _ => rfl
  have hallb := (Own.mk la lb []).bds ba bb
  rw [← hall []] at R27
  have hlen : (Own.mk la lb []).all.length ≤ 316 := by rw [hall, List.length_append, List.length_take, List.length_take]; omega
  refine (c_marks (IV.row R27) (by omega) hallb).mono ?_
  rintro r29 w30 ⟨hM, e30⟩
  have hML : (marksS (Own.mk la lb []).all).length ≤ 1000 := by
    have := marksF_len (Own.mk la lb []).all (Own.mk la lb []).all.length 0
    have e : marksS (Own.mk la lb []).all = marksF (Own.mk la lb []).all (Own.mk la lb []).all.length 0 := rfl
    rw [e]
    omega
  have hMok := FitM.ok _ _ (marksS_fit hallb).1
  obtain ⟨w32, hrun, hw32⟩ := elI.make (zs := [.int .i64 0]) rfl w30 19 (by omega) (by omega)
  refine ⟨_, w32, hrun, ?_⟩
  rw [flat_zero] at hw32
  have H32 : Hn w30 w32 [(w30.heap.size, ints (List.replicate 19 0), 3)] := by
    rw [hw32]
    exact ((Hn.start w30).keep ((Ext.refl _ _).alloc _)).push (Blk.new _ _ _) (Nat.le_refl _) (by simp)
  have E30 := E19.tr (E28.tr e30)
  have F30 := E28.tr e30
  generalize hMS : marksS (Own.mk la lb []).all = M at *
  refine own_marks hM hML (fun m hm => (hMok m hm).1) rfl H32 fun w33 cm H33 cml cmb cmp cmi => ?_
  refine (c_len (IV.blk (n := 19) (H33.get 0 rfl) cml.symm) (m := 7) (by omega) (by decide) (fun i _ => cmb i) (by rw [cml]; decide)).mono ?_ fun _ _ h => h
  rintro r65 r66 w67 ⟨e67, lc, Ic, capc, llc, cc0, bc, posc, uc⟩
  have llc : lc.length = 19 := by rw [llc, cml]
  refine (c_new Ic).mono ?_
  rintro r68 r69 w70 ⟨rfl, e70, _, h70⟩
  obtain ⟨t3, rfl, T3⟩ := h70 cc0
  refine (c_places w70).mono ?_
  rintro r82 w83 ⟨rfl, e83⟩
  have Ic83 := (Ic.keep e70).keep e83
  have E83 : Ext (fun _ => False) w30 w83 := ((H33.ext.tr e67).tr e70).tr e83
  have z83 := e83.size
  have T3 := T3.keep e83 fun _ _ _ h => h
  have ho_len : (inOrd lc).length = 19 := by unfold inOrd; rw [List.length_map]; rfl
  have ho_get : ∀ i, i < 19 → (inOrd lc).getD i 0 = lc.getD (order.getD i 0) 0 := fun i hi => by
    have hol : i < order.length := hi
    unfold inOrd
    rw [List.getD_eq_getElem?_getD, List.getElem?_map, List.getElem?_eq_getElem hol, List.getD_eq_getElem?_getD (l := order), List.getElem?_eq_getElem hol]
    rfl
  refine ⟨fun m st w84 => ∃ i : Nat, st.2 = (i : Int) ∧ i ≤ 19 ∧ m = 19 - i ∧ Row w84 st.1 3 1 (ints ((inOrd lc).take i)) ∧ Ext (fun _ => False) w83 w84 ∧ ∀ j, st.1.own j → w83.heap.size ≤ j, 19, ⟨0, rfl, by decide, rfl, Row.nil _ _ _, Ext.refl _ _, fun j hj => by obtain ⟨a, ha, _⟩ := hj; cases ha⟩, ?_⟩
  rintro m ⟨sl, i'⟩ w84 ⟨i, hi', hi, rfl, R84, e84, own84⟩
  simp only at hi' R84 own84
  subst hi'
  unfold S37L3
  dsimp only
  refine Br.dec (fun q => ?_) fun q => ?_
  · have hi19 : i < 19 := by omega
    have hox : order.getD i 0 < 19 := order_u _ (by rw [List.getD_eq_getElem?_getD, List.getElem?_eq_getElem (show i < order.length from hi19)]; exact List.getElem_mem _)
    obtain ⟨a, ha, hc⟩ := (Ic83.keep e84).get (i := order.getD i 0) (by omega)
    refine ⟨by omega, by omega, ((order.getD i 0 : Nat) : Int), by rw [Int.toNat_natCast, Nat.mul_one]; exact ord_at hi19, by omega, by rw [Ic83.1]; omega, ?_⟩
    rw [ha]
    refine Nn.of ?_
    rw [Int.toNat_natCast]
    refine Ld.mk (x := lc.getD (order.getD i 0) 0) hc (Nw.of ?_)
    have e1 := (Ext.refl (fun _ => False) w84).alloc (.cells #[.int .i64 (lc.getD (order.getD i 0) 0)] 3)
    have hsl : sl.len = i := by rw [(IV.row R84).1, List.length_take]; omega
    obtain ⟨s', w', hrun, hrow, hlen', hext, hown⟩ := elI.app1 (ty := 76) (ys := [.int .i64 (lc.getD (order.getD i 0) 0)]) (R84.keep e1 fun _ _ h => h) (Blk.new w84 _ _) rfl (fun v hv => by rw [List.mem_singleton.1 hv]; rfl) (by omega) (by omega)
    have z1 := e1.size
    have z84 := e84.size
    refine ⟨s', w', hrun, 19 - (i + 1), by omega, i + 1, by rw [i64_id (by omega)]; rfl, by omega, rfl, ?_, (e84.tr e1).trans hext (fun _ h => h) fun j hj e => by have := own84 j e; omega, fun j hj => ?_⟩
    · have : (inOrd lc).take (i + 1) = (inOrd lc).take i ++ [lc.getD (order.getD i 0) 0] := by rw [← ho_get i hi19, take_one (by omega)]
      rw [this, ints_app]
      exact hrow
    · rcases hown j hj with e | e
      · exact own84 j e
      · omega
  have : i = 19 := by omega
  subst this
  have R84 : Row w84 sl 3 1 (ints (inOrd lc)) := by
    rw [List.take_of_length_le (by omega)] at R84
    exact R84
  refine (c_cut (IV.row R84) (row_cap R84) (by omega) 4 (by omega)).mono ?_
  rintro r93 wA ⟨I93, len93, rfl⟩
  -- everything is laid out: the writer
  generalize hoe : Own.mk la lb lc = o at *
  have oa : o.a = la := by rw [← hoe]
  have ob : o.b = lb := by rw [← hoe]
  have oc : o.c = lc := by rw [← hoe]
  have oall : o.all = (Own.mk la lb []).all := by rw [← hoe]; rfl
  have EA : Ext (fun _ => False) w30 wA := E83.tr e84
  have FA : Ext (fun _ => False) w19 wA := F30.tr EA
  have T1 := T1.keep FA fun _ _ _ h => h
  have T2 := T2.keep FA fun _ _ _ h => h
  have T3 := T3.keep e84 fun _ _ _ h => h
  have MA := hM.keep EA
  have pA := FA.blk pB id
  have PA := hP.keep (E19.tr FA)
  have zA := FA.size
  have zA2 := e84.size
  have zA3 := EA.size
  have hok : o.ok := ⟨by rw [oa]; exact lla, by rw [ob]; exact llb, by rw [oc]; exact llc, by rw [oa]; exact ca0, by rw [ob]; exact cb0, by rw [oc]; exact cc0, by rw [oa]; exact posa 256 CI.e, fun i => by rw [oc]; exact bc i, fun m hm => by
    rw [oall, hMS] at hm
    rw [oc]
    exact ⟨(hMok m hm).1, posc _ (cmp m hm)⟩⟩
  have hof : OwnOf l o := ⟨by rw [oa, ← hcnt]; exact ua, by rw [ob, ← hcnt]; exact ub, by rw [oc, oall, hMS, ← cmi]; exact uc⟩
  have hhas : ∀ p ∈ l, Has o.a o.b p := fun p hp => by
    have hs := CI.seen p (by rw [List.take_length]; exact hp)
    rw [oa, ob]
    unfold Seen at hs
    unfold Has
    rw [lla, llb]
    split
    · rename_i h0
      rw [if_pos h0] at hs
      have := p.b.toNat_lt
      exact ⟨by omega, posa _ hs⟩
    · rename_i h0
      rw [if_neg h0] at hs
      rcases hoks p hp with hh | ⟨_, q3, q4, q5, q6⟩
      · exact absurd hh.1 h0
      · have k1 := (kL_spec q3 q4).1
        have d1 := (kD_spec q5 q6).1
        exact ⟨⟨by omega, posa _ hs.1⟩, by omega, posb _ hs.2⟩
  obtain ⟨n1, n2, n3, n4, n5, n6, n7⟩ := Own.sizes hok
  have na : o.na = cutN la 257 la.length := by rw [← hoe]; rfl
  have nb : o.nb = cutN lb 1 lb.length := by rw [← hoe]; rfl
  have ni : o.ni = cutN (inOrd lc) 4 (inOrd lc).length := by rw [← hoe]; rfl
  rw [← na] at len20
  rw [← nb] at len22
  rw [← ni] at len93 I93
  rw [len20, len22, len93]
  refine (Bit.c_new wA).mono ?_
  rintro r95 w96 ⟨rfl, W, e96⟩
  have P96 : PW wA w96 wA.heap.size wA.heap.size ⟨none, 0, 0⟩ 0 ([], 0) := ⟨W, WInv.zero _, .inl rfl, (fun j hj => by
    rcases hj with e | ⟨a, ha, _⟩
    · omega
    · cases ha), e96.size, e96.mono fun _ _ h => h.elim⟩
  have g0 : ∀ (st : WS) (v n k : Nat), st.1.length ≤ k → (lw st v n).1.length ≤ k + n := fun st v n k h => by have := lw_len st v n; omega
  refine (P96.low (by simp) 1 1 (by decide) (by decide) (.inl (by decide))).mono ?_
  rintro _ w98 ⟨s98, P98, _⟩
  have l98 := g0 ([], 0) 1 1 0 (by simp)
  refine (P98.low (by omega) 2 2 (by decide) (by decide) (.inl (by decide))).mono ?_
  rintro _ w100 ⟨s100, P100, _⟩
  have l100 := g0 _ 2 2 _ l98
  rw [i64_id (n := ((o.na : Nat) : Int) - 257) (by omega), show ((o.na : Nat) : Int) - 257 = ((o.na - 257 : Nat) : Int) by omega, i64_id (n := ((o.nb : Nat) : Int) - 1) (by omega), show ((o.nb : Nat) : Int) - 1 = ((o.nb - 1 : Nat) : Int) by omega, i64_id (n := ((o.ni : Nat) : Int) - 4) (by omega), show ((o.ni : Nat) : Int) - 4 = ((o.ni - 4 : Nat) : Int) by omega]
  refine (P100.low (by omega) (o.na - 257) 5 (by show _ < 32; omega) (by decide) (.inl (by decide))).mono ?_
  rintro _ w102 ⟨s102, P102, _⟩
  have l102 := g0 _ (o.na - 257) 5 _ l100
  refine (P102.low (by omega) (o.nb - 1) 5 (by show _ < 32; omega) (by decide) (.inl (by decide))).mono ?_
  rintro _ w104 ⟨s104, P104, _⟩
  have l104 := g0 _ (o.nb - 1) 5 _ l102
  refine (P104.low (by omega) (o.ni - 4) 4 (by show _ < 16; omega) (by decide) (.inl (by decide))).mono ?_
  rintro _ w106 ⟨s106, P106, _⟩
  have l106 := g0 _ (o.ni - 4) 4 _ l104
  have P106 : PW wA w106 wA.heap.size wA.heap.size s106 1 o.st1 := P106
  have l106 : o.st1.1.length ≤ 17 := l106
  have hoil : ∀ i, i < o.ni → (order.take o.ni)[i]? = some (order.getD i 0) := fun i hi => by
    rw [List.getElem?_take, if_pos hi, List.getElem?_eq_getElem (show i < order.length by show i < 19; omega), List.getD_eq_getElem?_getD, List.getElem?_eq_getElem (show i < order.length by show i < 19; omega)]
    rfl
  have holen : (order.take o.ni).length = o.ni := by rw [List.length_take]; show min o.ni 19 = _; omega
  refine ⟨fun m i' w3 => ∃ (i : Nat) (ws : Slc), i' = (i : Int) ∧ i ≤ o.ni ∧ m = o.ni - i ∧ PW wA w3 wA.heap.size wA.heap.size ws 1 (((order.take o.ni).take i).foldl (wO lc) o.st1) ∧ (((order.take o.ni).take i).foldl (wO lc) o.st1).1.length ≤ 17 + 3 * i, o.ni, ⟨0, s106, rfl, Nat.zero_le _, rfl, P106, l106⟩, ?_⟩
  rintro m i' w3 ⟨i, ws, rfl, hi, rfl, P3, l3⟩
  unfold S37L2
  rw [len93]
  refine Br.dec (fun q => ?_) fun q => ?_
  · have hin : i < o.ni := by omega
    obtain ⟨a, ha, hc⟩ := (I93.keep P3.base).get (i := i) (by rw [List.length_take]; omega)
    rw [take_get hin, ho_get i (by omega)] at hc
    have b7 := bc (order.getD i 0)
    rw [ha]
    refine ⟨by omega, by omega, Nn.of ?_⟩
    rw [Int.toNat_natCast]
    refine Ld.mk (x := lc.getD (order.getD i 0) 0) hc ?_
    have hv : ((lc.getD (order.getD i 0) 0).toNat : Int) = lc.getD (order.getD i 0) 0 := by omega
    have hstep : ((order.take o.ni).take (i + 1)).foldl (wO lc) o.st1 = lw (((order.take o.ni).take i).foldl (wO lc) o.st1) (lc.getD (order.getD i 0) 0).toNat 3 := by
      rw [List.take_add_one, hoil i hin, List.foldl_append]
      rfl
    rw [← hv]
    refine (P3.low (by omega) (lc.getD (order.getD i 0) 0).toNat 3 (by show _ < 8; omega) (by decide) (.inl (by decide))).mono ?_
    rintro _ w5 ⟨s5, P5, _⟩
    have l5 := g0 _ (lc.getD (order.getD i 0) 0).toNat 3 _ l3
    rw [← hstep] at P5 l5
    exact ⟨o.ni - (i + 1), by omega, i + 1, s5, by rw [i64_id (by omega)]; rfl, by omega, rfl, P5, by omega⟩
  have : i = o.ni := by omega
  subst this
  rw [List.take_of_length_le (by omega)] at P3 l3
  have hst2 : (order.take o.ni).foldl (wO lc) o.st1 = o.st2 := by rw [← oc]; rfl
  rw [hst2] at P3 l3
  have hkc := chk_lok cc0
  have hM3 : ∀ st (m : Mk), m ∈ M → (wM lc st m).1.length ≤ st.1.length + 22 := fun st m hm => by
    have h1 := cw_len (st := st) hkc m.1
    have h2 := lw_len (cw lc st m.1) m.2.1 m.2.2
    have h3 := (hMok m hm).2.2
    have h4 := repB_le m.1
    unfold wM
    split at h3 <;> omega
  refine ⟨fun m i' w5 => ∃ (i : Nat) (ws : Slc), i' = (i : Int) ∧ i ≤ M.length ∧ m = M.length - i ∧ PW wA w5 wA.heap.size wA.heap.size ws 1 ((M.take i).foldl (wM lc) o.st2) ∧ ((M.take i).foldl (wM lc) o.st2).1.length ≤ 17 + 3 * o.ni + 22 * i, M.length, ⟨0, ws, rfl, Nat.zero_le _, rfl, P3, l3⟩, ?_⟩
  rintro m i' w5 ⟨i, ws5, rfl, hi, rfl, P5, l5⟩
  unfold S37L1
  rw [MA.1]
  refine Br.dec (fun q => ?_) fun q => ?_
  · have hin : i < M.length := by omega
    have hio : M[i]? = some M[i] := List.getElem?_eq_getElem hin
    have hmem := List.getElem_mem hin
    have hmok := hMok _ hmem
    have hpos := posc _ (cmp _ hmem)
    have hl22 := hM3 ((M.take i).foldl (wM lc) o.st2) _ hmem
    have htk : (M.take (i + 1)).foldl (wM lc) o.st2 = wM lc ((M.take i).foldl (wM lc) o.st2) M[i] := by
      rw [List.take_add_one, hio, List.foldl_append]
      rfl
    obtain ⟨a, ha, c0, c1, c2⟩ := (MA.keep P5.base).get hio
    rw [← htk] at hl22
    obtain ⟨k1, k2, k3⟩ := hmok
    have k4 := repB_le M[i].1
    rw [ha]
    refine ⟨by omega, by omega, Nn.of ?_⟩
    rw [Int.toNat_natCast]
    refine Ld.mk (x := (M[i].1 : Int)) c0 (Ld.mk (x := (M[i].2.1 : Int)) c1 (Ld.mk (x := (M[i].2.2 : Int)) c2 ?_))
    refine (Hn.start w5).nw fun w6 H => ?_
    simp only [List.nil_append] at H
    iterate 3 (refine H.st 0 rfl (by simp) fun _ H => ?_; simp only [List.nil_append, List.cons_append, List.set_cons_zero, List.set_cons_succ, Nat.zero_add] at H)
    rename_i w7
    have P7 := P5.keep H.ext
    have H7 : Hold w7 wA.heap.size ws5 [(w5.heap.size, [.int .i64 (M[i].1 : Int), .int .i64 (M[i].2.1 : Int), .int .i64 (M[i].2.2 : Int)], 107)] := fun p hp => by
      rw [List.mem_singleton.1 hp]
      exact ⟨H.get 0 rfl, fun hh => by have := P5.wr.lt _ hh; simp at this⟩
    refine H7.ld 0 rfl rfl ?_
    refine (P7.sign (by omega) T3 (by omega) cc0 (by rw [llc]; exact k1) hpos).mono ?_
    rintro _ w8 ⟨s8, P8, n8⟩
    have H8 := H7.call n8
    have l8 := cw_len (st := (M.take i).foldl (wM lc) o.st2) hkc M[i].1
    refine H8.ld 0 rfl rfl ?_
    refine H8.ld 0 rfl rfl ?_
    refine (P8.low (by omega) M[i].2.1 M[i].2.2 k2 (by split at k3 <;> omega) (.inr rfl)).mono ?_
    rintro _ w9 ⟨s9, P9, n9⟩
    refine ⟨M.length - (i + 1), by omega, i + 1, s9, by rw [i64_id (by omega)]; rfl, by omega, rfl, ?_, by omega⟩
    rw [htk]
    exact P9
  have : i = M.length := by omega
  subst this
  rw [List.take_length] at P5 l5
  have hst3 : M.foldl (wM lc) o.st2 = o.st3 := by rw [← oc, ← hMS, ← oall]; rfl
  rw [hst3] at P5 l5
  have bB := P5.base.blk pA id
  refine Ld.of bB rfl (Ld.of bB rfl ?_)
  have PVk := PA.keep P5.base
  refine (c_pair (wlo := wA.heap.size) (s := s) (l := l) PVk (fun hnil j hj => by have := PA.lt (by simpa using hnil) hj; exact this) hl (fun p hp => ⟨hoks p hp, hhas p hp⟩) (by rw [oa]; exact T1.keep P5.base fun _ _ _ h => h) (by rw [ob]; exact T2.keep P5.base fun _ _ _ h => h) (by omega) (by omega) hok.ca hok.cb (by rw [oa, lla]; decide) hok.a256 P5.wr P5.inv P5.way P5.lo P5.big (by omega)).mono ?_
  rintro w22 ⟨s22, P22, n22⟩
  have z1 := wPs_len (chk_lok hok.ca) (chk_lok hok.cb) l o.st3 hoks
  have z2 := cw_len (st := l.foldl (wP o.a o.b) o.st3) (chk_lok hok.ca) 256
  refine (c_wtext P22.wr (by omega)).mono ?_
  rintro r w24 ⟨rfl, e24'⟩
  refine ⟨o, hok, hhas, rfl, ?_, hof⟩
  exact (((E19.tr FA).tr P5.base).trans P22.ext (fun _ h => h) fun j hj e => by have := (E19.tr FA).size; omega).tr e24'
end Inf
end Go.Proofs.YtjkoafjnmkchdaaGreatDoor

/- Deflate: All. Conditions: sizes. -/
namespace Go.Proofs.YtjkoafjnmkchdaaGreatDoor
namespace Inf
open Sh Bit
set_option linter.unusedVariables false
set_option linter.unusedSimpArgs false
set_option maxRecDepth 4000
set_option maxHeartbeats 1000000
attribute [local irreducible] Ld St Nw Nn Lt LdS
theorem c_cl {s : ByteArray} (hs : s.size ≤ 281474976710656) (w : World) : C38 s w fun r w1 => r = s ∧ Ext (fun _ => False) w w1 := by
  refine T38 _ _ _ ?_
  unfold S38
  exact (c_cloneS s hs w).mono fun r w1 h => h
/-- The shorter of two. -/
def shorter (a b : List UInt8) : List UInt8 := if a.length < b.length then a else b
theorem shorter_t {a b : List UInt8} (h : a.length < b.length) : shorter a b = a := if_pos h
theorem shorter_f {a b : List UInt8} (h : ¬ a.length < b.length) : shorter a b = b := if_neg h
/-- What All gives at a level: there is one text alone. -/
def AllOf (s : List UInt8) (lv : Int) (T : List UInt8) : Prop := (lv = 0 ∧ T = blkS 1 s) ∨ (lv ≠ 0 ∧ lv ≠ 2 ∧ T = shorter (fixO (partsS s)) (blkS 1 s)) ∨ (lv = 2 ∧ ∃ o : Own, OwnOf (partsS s) o ∧ T = shorter (o.T (partsS s)) (shorter (fixO (partsS s)) (blkS 1 s)))
theorem AllOf.one {s T T' : List UInt8} {lv : Int} (h : AllOf s lv T) (k : AllOf s lv T') : T = T' := by
  rcases h with ⟨h1, h2⟩ | ⟨h1, h2, h3⟩ | ⟨h1, o, h2, h3⟩ <;> rcases k with ⟨k1, k2⟩ | ⟨k1, k2, k3⟩ | ⟨k1, o', k2, k3⟩
  all_goals first
    | (rw [h2, k2]; done)
    | (rw [h3, k3]; done)
    | (rw [h3, k3, h2.one k2]; done)
    | (exfalso; omega)
/-- What All answers. -/
def AllR (S : ByteArray) (lv : Int) (w : World) (r : ByteArray) (e : Int) (w1 : World) : Prop :=
  e = 0 ∧ (∃ T : List UInt8, r = ⟨T.toArray⟩ ∧ Gives T S.data.toList ∧ T.length ≤ S.size + 5 ∧ (lv = 0 → T.length = S.size + 5) ∧ AllOf S.data.toList lv T) ∧ Ext (fun _ => False) w w1
theorem size_mk (T : List UInt8) : (⟨T.toArray⟩ : ByteArray).size = T.length := by show T.toArray.size = _; simp
theorem c_AllW {S : ByteArray} (hs : S.size ≤ 65535) {lv : Int} (h0 : 0 ≤ lv) (h2 : lv ≤ 2) (w : World) : C19 S lv w (fun r e w1 => AllR S lv w r e w1) (fun _ _ => False) := by
  have hsz : S.data.toList.length = S.size := (size_list S).symm
  refine T19 _ _ _ _ _ ?_
  unfold S19
  refine Br.dec (fun q => absurd q (by omega)) fun _ => Br.dec (fun q => absurd q (by omega)) fun _ => Br.dec (fun q => absurd q (by omega)) fun _ => ?_
  refine (c_storedW (S := S) (by omega) w).mono ?_
  rintro r w4 ⟨rfl, e4⟩
  rw [storedT_small (by omega)]
  have g3 := stored_gives S.data.toList (by omega)
  have l3 : (blkS 1 S.data.toList).length = S.size + 5 := by rw [blkS_len]; omega
  generalize hT3 : blkS 1 S.data.toList = T3 at g3 l3
  refine Br.eq (fun q => ⟨rfl, ⟨T3, rfl, g3, by omega, fun _ => l3, .inl ⟨q, hT3.symm⟩⟩, e4⟩) fun hlv => ?_
  refine (c_Parts (S := S) (by omega) w4).mono ?_
  rintro r5 w6 ⟨P5, e6⟩
  obtain ⟨hfit, hfold⟩ := partsS_fit S.data.toList
  have hpl : (partsS S.data.toList).length ≤ 1048576 := by
    have : (partsS S.data.toList).length ≤ S.data.toList.length := partsF_len _ _ _
    omega
  refine (c_fixedB P5 hpl hfit).mono ?_ fun _ _ h => h
  rintro r w10 ⟨rfl, e10⟩
  have g9 := fixed_gives hfit
  rw [hfold] at g9
  have P10 := P5.keep e10
  have E10 := (e4.tr e6).tr e10
  generalize hT9 : fixO (partsS S.data.toList) = T9 at g9
  -- the end: a copy of one of them
  have fin : ∀ (T : List UInt8) (w12 : World), Gives T S.data.toList → T.length ≤ S.size + 5 → Ext (fun _ => False) w w12 → AllOf S.data.toList lv T → C38 (⟨T.toArray⟩ : ByteArray) w12 fun r w13 => AllR S lv w r 0 w13 := fun T w12 g hT e u => by
    refine (c_cl (by rw [size_mk]; omega) w12).mono ?_
    rintro r w13 ⟨rfl, e13⟩
    exact ⟨rfl, ⟨T, rfl, g, hT, fun h => absurd h hlv, u⟩, e.tr e13⟩
  rw [size_mk, size_mk]
  refine Br.dec (fun q1 => Br.eq (fun q2 => ?_) fun q2 => ?_) fun q1 => Br.eq (fun q2 => ?_) fun q2 => ?_
  · refine (c_own P10 hpl hfit).mono ?_ fun _ _ h => h
    rintro r w12 ⟨o, hok, hh, rfl, e12, hof⟩
    have g11 := own_gives hok hfit hh
    rw [hfold] at g11
    have u : AllOf S.data.toList lv (shorter (o.T (partsS S.data.toList)) T9) := .inr (.inr ⟨q2, o, hof, by rw [hT9, hT3, shorter_t (a := T9) (b := T3) (by omega)]⟩)
    generalize o.T (partsS S.data.toList) = T11 at g11 u
    rw [size_mk]
    refine Br.dec (fun q3 => ?_) fun q3 => ?_
    · rw [shorter_t (by omega)] at u
      exact fin T11 w12 g11 (by omega) (E10.tr e12) u
    · rw [shorter_f (by omega)] at u
      exact fin T9 w12 g9 (by omega) (E10.tr e12) u
  · exact fin T9 w10 g9 (by omega) E10 (.inr (.inl ⟨hlv, q2, by rw [hT9, hT3, shorter_t (by omega)]⟩))
  · refine (c_own P10 hpl hfit).mono ?_ fun _ _ h => h
    rintro r w12 ⟨o, hok, hh, rfl, e12, hof⟩
    have g11 := own_gives hok hfit hh
    rw [hfold] at g11
    have u : AllOf S.data.toList lv (shorter (o.T (partsS S.data.toList)) T3) := .inr (.inr ⟨q2, o, hof, by rw [hT9, hT3, shorter_f (a := T9) (b := T3) (by omega)]⟩)
    generalize o.T (partsS S.data.toList) = T11 at g11 u
    rw [size_mk]
    refine Br.dec (fun q3 => ?_) fun q3 => ?_
    · rw [shorter_t (by omega)] at u
      exact fin T11 w12 g11 (by omega) (E10.tr e12) u
    · rw [shorter_f (by omega)] at u
      exact fin T3 w12 g3 (by omega) (E10.tr e12) u
  · exact fin T3 w10 g3 (by omega) E10 (.inr (.inl ⟨hlv, q2, by rw [hT9, hT3, shorter_f (by omega)]⟩))
end Inf
end Go.Proofs.YtjkoafjnmkchdaaGreatDoor
