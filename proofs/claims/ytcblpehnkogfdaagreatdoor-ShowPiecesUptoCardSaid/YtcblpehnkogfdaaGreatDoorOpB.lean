/- Content operators: strings.Fields over ASCII, slices.Contains over strings, ops.Takes. Condition: the table of spaces is laid. -/
import Derived.Test.YtcblpehnkogfdaaGreatDoorOpA
import Derived.Test.YtcblpehnkogfdaaGreatDoorOb
import Derived.Test.YtcblpehnkogfdaaGreatDoorFnOps
import Derived.Test.YtcblpehnkogfdaaGreatDoorGn
import Derived.Test.YtcblpehnkogfdaaGreatDoorSlf
import Derived.Test.YtcblpehnkogfdaaGreatDoorVal
import Derived.Laws.Strings
import Derived.Laws.RangeString
namespace Go.Proofs.YtcblpehnkogfdaaGreatDoor
namespace Opr
open Sh
set_option linter.unusedVariables false
set_option linter.unusedSimpArgs false
set_option maxRecDepth 4000
set_option maxHeartbeats 4000000
theorem pair_eq {α β : Type} {a c : α} {b d : β} (h : a = c) (k : b = d) : (a, b) = (c, d) := by rw [h, k]
abbrev bl (s : ByteArray) : By := s.data.toList
def ba (l : By) : ByteArray := ⟨l.toArray⟩
theorem bl_ba (l : By) : bl (ba l) = l := by simp [bl, ba]
theorem ba_bl (s : ByteArray) : ba (bl s) = s := ba_ext (bl_ba _)
theorem bl_size (s : ByteArray) : s.size = (bl s).length := (Array.length_toList (xs := s.data)).symm
theorem ba_size (l : By) : (ba l).size = l.length := List.size_toArray
theorem eqB (a b : ByteArray) : (a.toList == b.toList) = decide (bl a = bl b) := by
  rw [ByteArray.toList_eq, ByteArray.toList_eq]
  by_cases h : bl a = bl b
  · rw [decide_eq_true h]
    simpa using h
  · rw [decide_eq_false h]
    simpa using h
theorem ext_bl (s : ByteArray) (a b : Nat) : s.extract a b = ba (((bl s).drop a).take (b - a)) := by
  apply ba_ext
  show _ = ((((bl s).drop a).take (b - a)).toArray).toList
  simp only [ByteArray.data_extract, Array.toList_extract, List.extract_eq_take_drop, bl]
def AS (w : World) : Prop := Fo.TB w
theorem AS.keep {w w' : World} (h : AS w) (he : Ext (fun _ => False) w w') : AS w' := Fo.TB.keep h he
def strsB (L : List By) : List Value := L.map fun l => .string (ba l)
theorem strsB_len (L : List By) : (strsB L).length = L.length := by unfold strsB; simp
theorem strsB_get {L : List By} {i : Nat} {l : By} (h : L[i]? = some l) : (strsB L)[i]? = some (.string (ba l)) := by
  unfold strsB
  rw [List.getElem?_map, h]
  rfl
theorem strsB_set (L : List By) (i : Nat) (l : By) : (strsB L).set i (.string (ba l)) = strsB (L.set i l) := by unfold strsB; rw [List.map_set]
/-- The strings of a slice. -/
def SL (w : World) (s : Slc) (L : List By) : Prop := s.len = L.length ∧ VRow w s 1 (strsB L)
theorem SL.keep {w w' : World} {s : Slc} {L : List By} (h : SL w s L) (he : Ext (fun _ => False) w w') : SL w' s L := ⟨h.1, h.2.keep he⟩
theorem SL.get {w : World} {s : Slc} {L : List By} (h : SL w s L) {i : Nat} {l : By} (hi : L[i]? = some l) : ∃ a, s.p = some a ∧ w.cell? (a.add (i * 1)) = some (.string (ba l)) := by
  obtain ⟨a, ha, hc⟩ := h.2.2 i _ (strsB_get hi)
  exact ⟨a, ha, by rw [Nat.mul_one]; exact hc⟩
theorem SL.blk {w : World} {g n : Nat} {L : List By} {t : TypeId} (h : Blk w g (strsB L).toArray t) (hn : n = L.length) : SL w ⟨some ⟨g, 0, none⟩, n, n⟩ L := ⟨hn, VRow.of h (by rw [strsB_len, hn]; omega)⟩
theorem elS : El Tryz.prog 32 9 1 16 (.string ByteArray.empty) := ⟨by kernel_rfl, by kernel_rfl, by kernel_rfl, by kernel_rfl, rfl⟩
theorem flat_strs (n : Nat) : (List.replicate n [Value.string ByteArray.empty]).flatten = strsB (List.replicate n []) := by
  unfold strsB
  induction n with
  | zero => rfl
  | succ n ih => rw [List.replicate_succ, List.flatten_cons, ih, List.replicate_succ]; rfl
attribute [local irreducible] Ld St Nw Nn Lt LdS
section
variable {w w1 : World} {s : ByteArray} {L : List By}
theorem c_fields (h : AS w) (hs : fieldsM (bl s) = some L) (hsz : s.size ≤ 1000000) : C113 s w fun r w1 => SL w1 r L ∧ Ext (fun _ => False) w w1 := by
  unfold fieldsM at hs
  split at hs
  rotate_left
  · cases hs
  rename_i ha
  obtain rfl := Option.some.inj hs
  refine (Tryz.strings_Fields s w (by omega) (fun j b hj => ?_) h.1).mono fun e w' hh => ?_
  · have hm : b ∈ bl s := List.mem_of_getElem? hj
    simpa using List.all_eq_true.1 ha b hm
  · obtain ⟨rfl, rfl⟩ := hh
    refine ⟨⟨_, _, _⟩, rfl, SL.blk (g := w.heap.size) (L := Lib.fields (bl s)) (Blk.new w _ _) rfl, (Ext.refl _ _).alloc _⟩
end
end Opr
end Go.Proofs.YtcblpehnkogfdaaGreatDoor
