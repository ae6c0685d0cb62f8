/- strings.Builder's writing methods on this program. Conditions: none. -/
import Derived.Test.YtpkadliieplblaaDoorBuS
import Derived.Test.YtpkadliieplblaaDoorFnBu
import Derived.Test.YtpkadliieplblaaDoorBy
import Derived.Test.YtpkadliieplblaaDoorGn
import Derived.WalkKit
namespace Go.Proofs.YtpkadliieplblaaDoor
namespace Bui
open Sh
set_option linter.unusedVariables false
set_option linter.unusedSimpArgs false
set_option maxRecDepth 100000
set_option maxHeartbeats 2000000
theorem nt52 : Tryd.f39.ntmps = 20 := by kernel_rfl
theorem szBu : (Tryd.prog.info? 60).map (·.size) = some 2 := by kernel_rfl
theorem copy_used (b : Nat) (w : World) (h0 : w.cell? ⟨b, 0, none⟩ = some (.pointer (some ⟨b, 0, none⟩))) :
    Calls Tryd.prog 39 #[.pointer (some ⟨b, 0, none⟩)] w fun e w' => e = .returned (.tuple #[]) ∧ w' = w := by
  obtain ⟨j, hj, _⟩ := Option.map_eq_some_iff.1 szBu
  have mixed : Tryd.prog.follows .mixedOrders = true := by kernel_rfl
  have t1 := Tryd.underlying60; have a1 := Tryd.isAgg60; have z1 := Tryd.sizeOf60; have v1 := Tryd.zeroValue60
  have t2 := Tryd.underlying45; have a2 := Tryd.isAgg45; have z2 := Tryd.sizeOf45; have v2 := Tryd.zeroValue45
  have u1 := run_underlying t1; have u2 := run_underlying t2
  go_enter Tryd.func39, nt52
  go_wp2
  rw [Lib.run_neq_ptr_same w _ Tryd.underlying45 hj]
  go_wp2
  go_end0
  exact ⟨rfl, rfl⟩
theorem copy_fresh (b : Nat) (w : World) (h0 : w.cell? ⟨b, 0, none⟩ = some (.pointer none)) (hsh : w.shape? b = some (60, 2)) (hfz : w.frozen? ⟨b, 0, none⟩ = false) :
    Calls Tryd.prog 39 #[.pointer (some ⟨b, 0, none⟩)] w fun e w' => e = .returned (.tuple #[]) ∧ w' = w.setCell ⟨b, 0, none⟩ (.pointer (some ⟨b, 0, none⟩)) := by
  obtain ⟨j, hj, hjs⟩ := Option.map_eq_some_iff.1 szBu
  have mixed : Tryd.prog.follows .mixedOrders = true := by kernel_rfl
  have t1 := Tryd.underlying60; have a1 := Tryd.isAgg60; have z1 := Tryd.sizeOf60; have v1 := Tryd.zeroValue60
  have t2 := Tryd.underlying45; have a2 := Tryd.isAgg45; have z2 := Tryd.sizeOf45; have v2 := Tryd.zeroValue45
  have t3 := Tryd.underlying92; have a3 := Tryd.isAgg92; have z3 := Tryd.sizeOf92; have v3 := Tryd.zeroValue92
  have u1 := run_underlying t1; have u2 := run_underlying t2; have u3 := run_underlying t3
  go_enter Tryd.func39, nt52
  go_wp2
  rw [Lib.run_to_unsafe w ⟨b, 0, none⟩ t2 t3 hj (by rw [hjs]; decide) hsh (Nat.zero_lt_succ 1)]
  simp only [Result.andThen]
  rw [Oper.upon_value]
  go_wp2
  rw [run_callFunc_extern Tryd.func59 (by kernel_rfl) (by kernel_rfl) (by kernel_rfl) (e := Extern.AbiNoEscape.same) (by kernel_rfl)]
  rw [Lib.run_noEscape]
  simp only [Result.andThen]
  rw [Oper.upon_value]
  go_wp2
  rw [Lib.run_from_unsafe w ⟨b, 0, none⟩ t3 t2 hj hsh (by kernel_rfl)]
  simp only [Result.andThen]
  rw [Oper.upon_value]
  go_wp2
  go_end0
  exact ⟨rfl, rfl⟩
end Bui
end Go.Proofs.YtpkadliieplblaaDoor
