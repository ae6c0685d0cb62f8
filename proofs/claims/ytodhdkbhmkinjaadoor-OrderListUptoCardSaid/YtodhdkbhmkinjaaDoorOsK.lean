/- strings.Builder's writing methods on this program. Conditions: none. -/
import Derived.Test.YtodhdkbhmkinjaaDoorOsJ
import Derived.Test.YtodhdkbhmkinjaaDoorFnOk
import Derived.Test.YtodhdkbhmkinjaaDoorBy
namespace Go.Proofs.YtodhdkbhmkinjaaDoor
namespace Rdg
open Sh
set_option linter.unusedVariables false
set_option linter.unusedSimpArgs false
set_option maxRecDepth 100000
set_option maxHeartbeats 2000000
theorem nt52 : Tryd.f52.ntmps = 20 := by kernel_rfl
theorem szBu : (Tryd.prog.info? 67).map (·.size) = some 2 := by kernel_rfl
theorem copy_used (b : Nat) (w : World) (h0 : w.cell? ⟨b, 0, none⟩ = some (.pointer (some ⟨b, 0, none⟩))) :
    Calls Tryd.prog 52 #[.pointer (some ⟨b, 0, none⟩)] w fun e w' => e = .returned (.tuple #[]) ∧ w' = w := by
  obtain ⟨j, hj, _⟩ := Option.map_eq_some_iff.1 szBu
  have mixed : Tryd.prog.follows .mixedOrders = true := by kernel_rfl
  have t1 := Tryd.underlying67; have a1 := Tryd.isAgg67; have z1 := Tryd.sizeOf67; have v1 := Tryd.zeroValue67
  have t2 := Tryd.underlying64; have a2 := Tryd.isAgg64; have z2 := Tryd.sizeOf64; have v2 := Tryd.zeroValue64
  have u1 := run_underlying t1; have u2 := run_underlying t2
  go_enter Tryd.func52, nt52
  go_wp2
  rw [Lib.run_neq_ptr_same w _ Tryd.underlying64 hj]
  go_wp2
  go_end0
  exact ⟨rfl, rfl⟩
theorem copy_fresh (b : Nat) (w : World) (h0 : w.cell? ⟨b, 0, none⟩ = some (.pointer none)) (hsh : w.shape? b = some (67, 2)) (hfz : w.frozen? ⟨b, 0, none⟩ = false) :
    Calls Tryd.prog 52 #[.pointer (some ⟨b, 0, none⟩)] w fun e w' => e = .returned (.tuple #[]) ∧ w' = w.setCell ⟨b, 0, none⟩ (.pointer (some ⟨b, 0, none⟩)) := by
  obtain ⟨j, hj, hjs⟩ := Option.map_eq_some_iff.1 szBu
  have mixed : Tryd.prog.follows .mixedOrders = true := by kernel_rfl
  have t1 := Tryd.underlying67; have a1 := Tryd.isAgg67; have z1 := Tryd.sizeOf67; have v1 := Tryd.zeroValue67
  have t2 := Tryd.underlying64; have a2 := Tryd.isAgg64; have z2 := Tryd.sizeOf64; have v2 := Tryd.zeroValue64
  have t3 := Tryd.underlying91; have a3 := Tryd.isAgg91; have z3 := Tryd.sizeOf91; have v3 := Tryd.zeroValue91
  have u1 := run_underlying t1; have u2 := run_underlying t2; have u3 := run_underlying t3
  go_enter Tryd.func52, nt52
  go_wp2
  rw [Lib.run_to_unsafe w ⟨b, 0, none⟩ t2 t3 hj (by rw [hjs]; decide) hsh (Nat.zero_lt_succ 1)]
  simp only [Result.andThen]
  rw [Oper.upon_value]
  go_wp2
  rw [run_callFunc_extern Tryd.func59 (by kernel_rfl) (by kernel_rfl) (by kernel_rfl) (e := Extern.AbiNoEscape.same) (by kernel_rfl)]
  rw [Lib.run_noEscape]
  simp only [Result.andThen]
  rw [Oper.upon_value]
  go_wp2
  rw [Lib.run_from_unsafe w ⟨b, 0, none⟩ t3 t2 hj hsh (by kernel_rfl)]
  simp only [Result.andThen]
  rw [Oper.upon_value]
  go_wp2
  go_end0
  exact ⟨rfl, rfl⟩
end Rdg
end Go.Proofs.YtodhdkbhmkinjaaDoor
