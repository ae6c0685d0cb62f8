/- Shown strings: the laid variables of TopComposed's row; a string as an argument. Conditions: none. -/
import Derived.Test.YtcblpehnkogfdaaDoorSwJ
namespace Go.Proofs.YtcblpehnkogfdaaDoor
namespace Sw
open Sh Mat Fix Fo
open Go.ChangeShapes Go.WideShapes Go.ChangeAt Go.RowKit
open Go.ChangeMaps (open_string shut_string)
set_option linter.unusedVariables false
set_option maxRecDepth 100000
theorem of_laid {W : World} (h : laidMetH Tryd.prog Rows.topComposedUptoRow.laid W) : TB W := by
  rw [MakeChecks.laidMetH_plain _ _ _ (by kernel_rfl)] at h
  refine of_reads h ?_ ?_ ?_
  all_goals first | exact .head _ | exact .tail _ (.head _) | exact .tail _ (.tail _ (.head _)) | exact .tail _ (.tail _ (.tail _ (.head _)))
theorem str_arg {H : Type} {enc : TypeId × Value → H} {W : World} {spare : Nat → Bool} {held : Bool} {v : Value} {d : DataW H} {ps : List MemPlace} {rr : Reach} {b0 : Nat}
    (h0 : Value.okWide Tryd.prog W rr b0 9 v) (h : DataW.Trod enc Tryd.prog W 0 spare held 9 v d ps) (hb : Rows.uptoBulk d ≤ 1048576) : ∃ s : ByteArray, v = .string s ∧ s.size ≤ 1048576 := by
  obtain ⟨n, hn⟩ := rdB_Trod (m := 8) (by kernel_rfl) h
  obtain ⟨s, rfl, _⟩ := open_string undStr h0 h
  obtain ⟨t, ht, _, hs⟩ := rdB_string undStr hn
  obtain rfl : s = t := by simpa [Value.cells] using ht
  exact ⟨s, rfl, by omega⟩
end Sw
end Go.Proofs.YtcblpehnkogfdaaDoor
