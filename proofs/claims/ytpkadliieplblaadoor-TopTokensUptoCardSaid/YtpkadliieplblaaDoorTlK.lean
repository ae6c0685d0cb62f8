/- TopTokens: the table of powers of ten is laid. Conditions: none. -/
import Derived.Test.YtpkadliieplblaaDoorTlJ
import Derived.Test.YtpkadliieplblaaDoorRows
import Derived.WalkKit
import Derived.ProofKit
import Derived.OpenShut
import Derived.Deep.DeepHandedRow
import Derived.Lib.LaidTab
import Derived.Lib.LaidU8
import Derived.LaidMore
import Derived.ChangeSame
namespace Go.Proofs.YtpkadliieplblaaDoor
namespace Tl
open Sh Fix
open Go.ChangeShapes Go.WideShapes Go.ChangeAt Go.RowKit
set_option linter.unusedVariables false
set_option maxRecDepth 100000
theorem d_pt : (Rows.laid_internal_strconv_uint64pow10 : DataW Unit) = Lib.tabData .u64 Lib.pow10Tab := by kernel_rfl
theorem of_laid {W : World} (h : laidMetH Tryd.prog Rows.topTokensUptoRow.laid W) : PT W := by
  rw [MakeChecks.laidMetH_plain _ _ _ (by kernel_rfl)] at h
  obtain ⟨g, t, cs, fuel, p, hg, hty, hvar, hd⟩ := Lib.laidMet.reads h (show ("internal/strconv.uint64pow10", (Rows.laid_internal_strconv_uint64pow10 : DataW Unit)) ∈ _ from .tail _ (.tail _ (.head _)))
  rw [d_pt] at hd
  obtain rfl := Option.some.inj ((show Tryd.prog.globalNamed "internal/strconv.uint64pow10" = some 1 by kernel_rfl).symm.trans hg)
  obtain rfl := Option.some.inj ((show (Tryd.prog.globals[1]?).map (·.type) = some 107 by kernel_rfl).symm.trans hty)
  unfold PT Lib.TabIs
  rw [hvar, ← Lib.cells_of_tab (show Tryd.prog.underlying 107 = some (.array 20 87) by kernel_rfl) (show Tryd.prog.underlying 87 = some (.int .u64) by kernel_rfl) (by kernel_rfl) (by kernel_rfl) hd]
theorem tokens_lawT (n u : Int) (s nm : ByteArray) (hn : -9223372036854775808 ≤ n ∧ n ≤ 9223372036854775807) (w : World) (hT : PT w) : C4 n u s nm w (fun r w1 => r = true ∧ Ext (fun _ => False) w w1) fun _ _ => False := tokens_law n u s nm hn.1 hn.2 w hT fun _ h => ⟨rfl, h⟩
end Tl
end Go.Proofs.YtpkadliieplblaaDoor
