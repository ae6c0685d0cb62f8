/- Content operators: strings.Fields over ASCII, slices.Contains over strings, ops.Takes. Condition: the table of spaces is laid. -/
import Derived.Test.YtjbeembbnkmpeaaDoorOpA
import Derived.Test.YtjbeembbnkmpeaaDoorOb
import Derived.Test.YtjbeembbnkmpeaaDoorFnOps
import Derived.Laws.Strings
import Derived.Laws.RangeString
namespace Go.Proofs.YtjbeembbnkmpeaaDoor
namespace Opr
open Sh
set_option linter.unusedVariables false
set_option linter.unusedSimpArgs false
set_option maxRecDepth 4000
set_option maxHeartbeats 4000000
theorem Br.t {b : Bool} {A B : Prop} (h : b = true) (h1 : A) : Br b A B := by rw [h]; exact h1
theorem Br.f {b : Bool} {A B : Prop} (h : b = false) (h1 : B) : Br b A B := by rw [h]; exact h1
theorem pair_eq {α β : Type} {a c : α} {b d : β} (h : a = c) (k : b = d) : (a, b) = (c, d) := by rw [h, k]
abbrev bl (s : ByteArray) : By := s.data.toList
def ba (l : By) : ByteArray := ⟨l.toArray⟩
theorem bl_ba (l : By) : bl (ba l) = l := by simp [bl, ba]
theorem ba_bl (s : ByteArray) : ba (bl s) = s := ba_ext (bl_ba _)
theorem bl_size (s : ByteArray) : s.size = (bl s).length := (Array.length_toList (xs := s.data)).symm
theorem ba_size (l : By) : (ba l).size = l.length := List.size_toArray
theorem eqB (a b : ByteArray) : (a.toList == b.toList) = decide (bl a = bl b) := by
  rw [ByteArray.toList_eq, ByteArray.toList_eq]
  by_cases h : bl a = bl b
  · rw [decide_eq_true h]
    simpa using h
  · rw [decide_eq_false h]
    simpa using h
theorem ext_bl (s : ByteArray) (a b : Nat) : s.extract a b = ba (((bl s).drop a).take (b - a)) := by
  apply ba_ext
  show _ = ((((bl s).drop a).take (b - a)).toArray).toList
  simp only [ByteArray.data_extract, Array.toList_extract, List.extract_eq_take_drop, bl]
/-- The table of spaces, in its block. -/
def AS (w : World) : Prop := ∀ c : Nat, c < 256 → w.cell? ⟨1, c, none⟩ = some (.int .u8 (if spB (UInt8.ofNat c) = true then 1 else 0))
theorem AS.keep {w w' : World} (h : AS w) (he : Ext (fun _ => False) w w') : AS w' := fun c hc => he.cell_same (h c hc)
theorem AS.keepF {F : Nat → Prop} {w w' : World} (h : AS w) (he : Ext F w w') (hF : ¬ F 1) : AS w' := fun c hc => by
  have := h c hc
  rw [he.cell (cell_lt' this) hF]
  exact this
theorem AS.at {w : World} (h : AS w) {s : ByteArray} {i : Nat} {K : Int → Prop} (hi : i < s.size) (k : K (if spB (at' (bl s) i) = true then 1 else 0)) :
    0 ≤ (i : Int) ∧ (i : Int) < ((s.size : Nat) : Int) ∧ 0 ≤ bAt s (i : Int) ∧ bAt s (i : Int) < (256 : Nat) ∧ Ld w ((⟨1, 0, none⟩ : Addr).add ((bAt s (i : Int)).toNat * 1)) (Value.int .u8) K := by
  rw [bAt_list]
  have hb := UInt8.toNat_lt (at' (bl s) i)
  have e : (at' (bl s) i) = (bl s).getD i 0 := rfl
  refine ⟨by omega, by omega, by omega, by rw [← e]; omega, ?_⟩
  rw [Int.toNat_natCast, Nat.mul_one, add_lit, Nat.zero_add]
  refine Ld.mk (x := if spB (at' (bl s) i) = true then 1 else 0) ?_ k
  have := h _ (show ((bl s).getD i 0).toNat < 256 by rw [← e]; exact hb)
  rw [UInt8.ofNat_toNat] at this
  exact this
def strsB (L : List By) : List Value := L.map fun l => .string (ba l)
theorem strsB_len (L : List By) : (strsB L).length = L.length := by unfold strsB; simp
theorem strsB_get {L : List By} {i : Nat} {l : By} (h : L[i]? = some l) : (strsB L)[i]? = some (.string (ba l)) := by
  unfold strsB
  rw [List.getElem?_map, h]
  rfl
theorem strsB_set (L : List By) (i : Nat) (l : By) : (strsB L).set i (.string (ba l)) = strsB (L.set i l) := by unfold strsB; rw [List.map_set]
/-- The strings of a slice. -/
def SL (w : World) (s : Slc) (L : List By) : Prop := s.len = L.length ∧ VRow w s 1 (strsB L)
theorem SL.keep {w w' : World} {s : Slc} {L : List By} (h : SL w s L) (he : Ext (fun _ => False) w w') : SL w' s L := ⟨h.1, h.2.keep he⟩
theorem SL.get {w : World} {s : Slc} {L : List By} (h : SL w s L) {i : Nat} {l : By} (hi : L[i]? = some l) : ∃ a, s.p = some a ∧ w.cell? (a.add (i * 1)) = some (.string (ba l)) := by
  obtain ⟨a, ha, hc⟩ := h.2.2 i _ (strsB_get hi)
  exact ⟨a, ha, by rw [Nat.mul_one]; exact hc⟩
theorem SL.blk {w : World} {g n : Nat} {L : List By} {t : TypeId} (h : Blk w g (strsB L).toArray t) (hn : n = L.length) : SL w ⟨some ⟨g, 0, none⟩, n, n⟩ L := ⟨hn, VRow.of h (by rw [strsB_len, hn]; omega)⟩
theorem elS : El Tryd.prog 31 9 1 16 (.string ByteArray.empty) := ⟨by kernel_rfl, by kernel_rfl, by kernel_rfl, by kernel_rfl, rfl⟩
theorem flat_strs (n : Nat) : (List.replicate n [Value.string ByteArray.empty]).flatten = strsB (List.replicate n []) := by
  unfold strsB
  induction n with
  | zero => rfl
  | succ n ih => rw [List.replicate_succ, List.flatten_cons, ih, List.replicate_succ]; rfl
theorem cnt_le (s : By) : ∀ i, (cnt s i).1 ≤ i
  | 0 => Nat.le_refl _
  | i + 1 => by
    have := cnt_le s i
    show (cnt s i).1 + _ ≤ _
    split <;> omega
theorem and4 (a b : Bool) : iand .i64 (if a = true then 1 else 0) (ixor .i64 (-1) (IntKind.i64.wrap (if b = true then 1 else 0))) = if a = true ∧ b = false then 1 else 0 := by
  cases a <;> cases b <;> decide
theorem or7 {x y : Nat} (hx : x < 128) (hy : y < 128) : ∃ z : Nat, ior .u8 (x : Int) (y : Int) = (z : Int) ∧ z < 128 :=
  ⟨x ||| y, Bit.ior_u8_nat (by omega) (by omega), Nat.or_lt_two_pow (n := 7) hx hy⟩
theorem skip_le (s : By) : ∀ f i, i ≤ skip s f i
  | 0, i => Nat.le_refl _
  | f + 1, i => by
    unfold skip
    split
    · have := skip_le s f (i + 1); omega
    · exact Nat.le_refl _
theorem skip_len (s : By) : ∀ f i, i ≤ s.length → skip s f i ≤ s.length
  | 0, i, h => h
  | f + 1, i, h => by
    unfold skip
    split
    · exact skip_len s f (i + 1) (by omega)
    · exact h
theorem runF_len {s : By} {n : Nat} {res : List By} : ∀ (f i fs : Nat) (out : List By), runF s n f i fs out = some res → out.length ≤ res.length
  | 0, _, _, _, h => by cases h
  | f + 1, i, fs, out, h => by
    unfold runF at h
    split at h
    · split at h
      · exact runF_len f _ _ _ h
      · split at h
        · have := runF_len f _ _ _ h
          rw [List.length_append] at this
          omega
        · cases h
    · split at h
      · split at h
        · cases h
          rw [List.length_append]
          omega
        · cases h
      · cases h
        exact Nat.le_refl _
attribute [local irreducible] Ld St Nw Nn Lt LdS
section
variable {w w1 : World} {s : ByteArray} {L : List By}
theorem c_fields (h : AS w) (hs : fieldsM (bl s) = some L) (hsz : s.size ≤ 1000000) : C138 s w fun r w1 => SL w1 r L ∧ Ext (fun _ => False) w w1 := by
  refine T138 _ _ _ ?_
  unfold S138
  have hl := bl_size s
  unfold fieldsM at hs
  split at hs
  rotate_left
  · cases hs
  rename_i hall
  split at hs
  rotate_left
  · cases hs
  rename_i res hrun
  split at hs
  rotate_left
  · cases hs
  rename_i hres
  cases hs
  have low : ∀ i, i < (bl s).length → (at' (bl s) i).toNat < 128 := fun i hi => by
    have := List.all_eq_true.1 hall (at' (bl s) i) (by unfold at'; rw [List.getD_eq_getElem?_getD, List.getElem?_eq_getElem hi]; exact List.getElem_mem hi)
    have := of_decide_eq_true this
    exact this
  refine ⟨fun n st w1 => ∃ i z : Nat, st = (((cnt (bl s) i).1 : Int), (if (cnt (bl s) i).2 = true then 1 else 0), (z : Int), (i : Int)) ∧ z < 128 ∧ i ≤ (bl s).length ∧ n = (bl s).length - i ∧ w1 = w, (bl s).length, ⟨0, 0, rfl, by omega, by omega, rfl, rfl⟩, ?_⟩
  rintro n st w0 ⟨i, z, rfl, hz, hi, rfl, rfl⟩
  unfold S138L4
  dsimp only
  have hcl := cnt_le (bl s) i
  refine Br.dec (fun q => h.at (by omega) ?_) fun q => ?_
  · obtain ⟨z', hz1, hz2⟩ := or7 (x := z) (y := (at' (bl s) i).toNat) hz (low i (by omega))
    have eb : bAt s (i : Int) = ((at' (bl s) i).toNat : Int) := bAt_list s i
    rw [eb, hz1, and4, i64_id (n := (i : Int) + 1) (by omega)]
    refine ⟨(bl s).length - (i + 1), by omega, i + 1, z', ?_, hz2, by omega, rfl, rfl⟩
    refine pair_eq ?_ (pair_eq ?_ rfl)
    · show _ = (((cnt (bl s) i).1 + _ : Nat) : Int)
      by_cases hc : (cnt (bl s) i).2 = true ∧ spB (at' (bl s) i) = false
      · rw [if_pos hc, if_pos hc, i64_id (by omega)]
        rfl
      · rw [if_neg hc, if_neg hc, i64_id (by omega)]
        omega
    · rw [i64_id (by split <;> omega)]
      rfl
  · have : i = (bl s).length := by omega
    subst this
    refine Br.dec (fun q2 => by omega) fun q2 => ?_
    have hc := cnt_le (bl s) (bl s).length
    generalize hn : (cnt (bl s) (bl s).length).1 = N at *
    obtain ⟨w2, hmk, hw2⟩ := elS.make (zs := [.string ByteArray.empty]) rfl w0 N (by omega) (by omega)
    refine ⟨_, w2, hmk, ?_⟩
    have H : Hn w0 w2 [(w0.heap.size, strsB (List.replicate N []), 9)] := by
      rw [← flat_strs, hw2]
      exact ((Hn.start w0).keep ((Ext.refl _ _).alloc _)).push (Blk.new _ _ _) (Nat.le_refl _) (by simp)
    clear hw2 hmk
    have hsk0 := skip_len (bl s) ((bl s).length + 1) 0 (by omega)
    generalize hS0 : skip (bl s) ((bl s).length + 1) 0 = S0 at *
    refine ⟨fun st w3 => st = ((S0 : Nat) : Int) ∧ w3 = w2, ?_, ?_⟩
    rotate_left
    · refine ⟨fun n st w3 => ∃ f i : Nat, st = (i : Int) ∧ i ≤ (bl s).length ∧ n = f ∧ (bl s).length < i + f ∧ skip (bl s) f i = S0 ∧ w3 = w2, (bl s).length + 1, ⟨(bl s).length + 1, 0, rfl, by omega, rfl, by omega, hS0, rfl⟩, ?_⟩
      rintro n st w3 ⟨f, i, rfl, hi, rfl, hf, hsk, rfl⟩
      unfold S138L3
      obtain ⟨f, rfl⟩ : ∃ f', n = f' + 1 := ⟨n - 1, by omega⟩
      unfold skip at hsk
      refine Br.dec (fun q3 => (h.keep H.ext).at (by omega) ?_) fun q3 => ?_
      · by_cases hsp : spB (at' (bl s) i) = true
        · rw [if_pos hsp]
          rw [if_pos ⟨by omega, hsp⟩] at hsk
          refine Br.t rfl ⟨f, by omega, f, i + 1, by rw [i64_id (by omega)]; rfl, by omega, rfl, by omega, hsk, rfl⟩
        · rw [if_neg hsp]
          rw [if_neg (fun hh => hsp hh.2)] at hsk
          exact Br.f rfl ⟨by rw [← hsk], rfl⟩
      · rw [if_neg (fun hh => by omega)] at hsk
        exact ⟨by rw [← hsk], rfl⟩
    rintro st w3 ⟨rfl, rfl⟩
    unfold S138J1
    refine ⟨fun n st w3 => ∃ (f i fs : Nat) (out : List By), st = (((out.length : Nat) : Int), (fs : Int), (i : Int)) ∧ i ≤ (bl s).length ∧ fs ≤ i ∧ n = f ∧ runF (bl s) N f i fs out = some L ∧ out.length ≤ N ∧ Hn w0 w3 [(w0.heap.size, strsB (out ++ List.replicate (N - out.length) []), 9)], (bl s).length + 1,
      ⟨(bl s).length + 1, _, _, [], rfl, hsk0, Nat.le_refl _, rfl, hrun, by simp, by simpa using H⟩, ?_⟩
    clear H hrun
    rintro n st w3 ⟨f, i, fs, out, rfl, hi, hfs, rfl, hrun, hout, H⟩
    unfold S138L2
    dsimp only
    obtain ⟨f, rfl⟩ : ∃ f', n = f' + 1 := by
      cases n with
      | zero => cases hrun
      | succ n => exact ⟨n, rfl⟩
    unfold runF at hrun
    have hrl : (strsB (out ++ List.replicate (N - out.length) [])).length = N := by
      rw [strsB_len, List.length_append, List.length_replicate]
      omega
    have setL : ∀ p : By, out.length < N → (strsB (out ++ List.replicate (N - out.length) [])).set out.length (.string (ba p)) = strsB ((out ++ [p]) ++ List.replicate (N - (out ++ [p]).length) []) := fun p hlt => by
      rw [strsB_set, List.set_append_right _ _ (Nat.le_refl _), Nat.sub_self, show N - out.length = (N - (out ++ [p]).length) + 1 by simp; omega, List.replicate_succ, List.set_cons_zero, List.append_assoc]
      rfl
    refine Br.dec (fun q3 => (h.keep H.ext).at (by omega) ?_) fun q3 => ?_
    · rw [if_pos (by omega)] at hrun
      by_cases hsp : spB (at' (bl s) i) = false
      · rw [if_pos hsp] at hrun
        rw [hsp]
        exact Br.t rfl ⟨f, by omega, f, i + 1, fs, out, by rw [i64_id (by omega)]; rfl, by omega, by omega, rfl, hrun, hout, H⟩
      · rw [if_neg hsp] at hrun
        have hsp1 : spB (at' (bl s) i) = true := by simpa using hsp
        rw [hsp1]
        split at hrun
        rotate_left
        · cases hrun
        rename_i hlt
        refine Br.f rfl ⟨by omega, by omega, by omega, by omega, by omega, by show ((out.length : Nat) : Int) < ((N : Nat) : Int); omega, Nn.of ?_⟩
        simp only [add_lit, Int.toNat_natCast, Nat.mul_one, Nat.zero_add]
        refine H.st 0 rfl (by rw [hrl]; exact hlt) fun w4 H => ?_
        simp only [List.set_cons_zero] at H
        rw [ext_bl, setL _ hlt] at H
        have hskl := skip_len (bl s) ((bl s).length + 1) (i + 1) (by omega)
        generalize hS1 : skip (bl s) ((bl s).length + 1) (i + 1) = S1 at *
        refine ⟨fun n st w5 => ∃ g j : Nat, st = (j : Int) ∧ j ≤ (bl s).length ∧ i < j ∧ n = g ∧ (bl s).length < j + g ∧ skip (bl s) g j = S1 ∧ w5 = w4, (bl s).length + 1, ⟨(bl s).length + 1, i + 1, by rw [i64_id (by omega)]; rfl, by omega, by omega, rfl, by omega, hS1, rfl⟩, ?_⟩
        rintro n st w5 ⟨g, j, rfl, hj, hij, rfl, hg, hsk, rfl⟩
        unfold S138L1
        obtain ⟨g, rfl⟩ : ∃ g', n = g' + 1 := ⟨n - 1, by omega⟩
        unfold skip at hsk
        dsimp only
        have next : j = S1 → ∃ n', n' < f + 1 ∧ ∃ (f' i' fs' : Nat) (out' : List By), (IntKind.i64.wrap (((out.length : Nat) : Int) + 1), (j : Int), (j : Int)) = (((out'.length : Nat) : Int), (fs' : Int), (i' : Int)) ∧ i' ≤ (bl s).length ∧ fs' ≤ i' ∧ n' = f' ∧ runF (bl s) N f' i' fs' out' = some L ∧ out'.length ≤ N ∧ Hn w0 w5 [(w0.heap.size, strsB (out' ++ List.replicate (N - out'.length) []), 9)] := fun hh => by
          refine ⟨f, by omega, f, j, j, out ++ [((bl s).drop fs).take (i - fs)], ?_, hj, Nat.le_refl _, rfl, by rw [hh]; exact hrun, by rw [List.length_append]; simp; omega, H⟩
          rw [i64_id (by omega), List.length_append]
          rfl
        refine Br.dec (fun q4 => (h.keep H.ext).at (by omega) ?_) fun q4 => ?_
        · by_cases hsp : spB (at' (bl s) j) = true
          · rw [if_pos hsp]
            rw [if_pos ⟨by omega, hsp⟩] at hsk
            refine Br.t rfl ⟨g, by omega, g, j + 1, by rw [i64_id (by omega)]; rfl, by omega, by omega, rfl, by omega, hsk, rfl⟩
          · rw [if_neg hsp]
            rw [if_neg (fun hh => hsp hh.2)] at hsk
            exact Br.f rfl (next hsk)
        · rw [if_neg (fun hh => by omega)] at hsk
          exact next hsk
    · rw [if_neg (by omega)] at hrun
      refine Br.dec (fun q4 => ⟨by omega, by omega, by omega, ?_⟩) fun q4 => ?_
      · rw [if_pos (by omega)] at hrun
        split at hrun
        rotate_left
        · cases hrun
        rename_i hlt
        cases hrun
        refine ⟨by show ((out.length : Nat) : Int) < ((N : Nat) : Int); omega, Nn.of ?_⟩
        simp only [add_lit, Int.toNat_natCast, Nat.mul_one, Nat.zero_add]
        refine H.st 0 rfl (by rw [hrl]; exact hlt) fun w4 H => ?_
        simp only [List.set_cons_zero] at H
        rw [ext_bl, setL _ hlt, hl] at H
        have e0 : N - (out ++ [((bl s).drop fs).take ((bl s).length - fs)]).length = 0 := by omega
        rw [e0, List.replicate_zero, List.append_nil] at H
        exact ⟨SL.blk (H.get 0 rfl) hres.symm, H.ext⟩
      · rw [if_neg (by omega)] at hrun
        cases hrun
        rw [hres, Nat.sub_self, List.replicate_zero, List.append_nil] at H
        exact ⟨SL.blk (H.get 0 rfl) hres.symm, H.ext⟩
end
end Opr
end Go.Proofs.YtjbeembbnkmpeaaDoor
