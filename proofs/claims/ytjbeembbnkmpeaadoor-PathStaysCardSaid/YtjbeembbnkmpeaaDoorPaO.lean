/- Box: the bounding box. Conditions: at most 100000 segments. -/
import Derived.Test.YtjbeembbnkmpeaaDoorFnBox
namespace Go.Proofs.YtjbeembbnkmpeaaDoor
namespace Pat
open Sh Mat Fix Opr
open Go.RowKit
set_option linter.unusedVariables false
set_option linter.unusedSimpArgs false
set_option maxRecDepth 100000
set_option maxHeartbeats 4000000
theorem boxP_snoc (pre : List (Int × Int)) (x : Int × Int) : boxP (pre ++ [x]) = (addB (if (boxP pre).2 = true then (boxP pre).1 else (x.1, x.2, x.1, x.2)) x, true) := by
  cases pre with
  | nil => rfl
  | cons p r => simp [boxP, List.foldl_append]
def bxC (b : Bx) : Array Value := #[.int .i64 b.1, .int .i64 b.2.1, .int .i64 b.2.2.1, .int .i64 b.2.2.2]
theorem mn (a b : Int) : (if a < b then a else b) = min b a := by rw [Int.min_def]; split <;> split <;> omega
theorem mx (a b : Int) : (if a > b then a else b) = max b a := by rw [Int.max_def]; split <;> split <;> omega
section
variable {w0 w W W' : World} {s : Slc} {L : List Sg} {b2 b4 b5 b6 : Nat}
attribute [local irreducible] Ld Sh.St Nw Nn LdS LdT LdST StT
/-- One round. -/
theorem box_round {b : Bx} {f : Bool} {x y : Int} {t4 t5 t6 : TypeId} {R : World → Prop} (h4 : Blk W b4 (bxC b) t4) (h5 : Blk W b5 #[.bool f] t5) (h6 : Blk W b6 #[.int .i64 x, .int .i64 y] t6) (n45 : b4 ≠ b5) (n46 : b4 ≠ b6) (n56 : b5 ≠ b6)
    (hR : ∀ W', Blk W' b4 (bxC (addB (if f = true then b else (x, y, x, y)) (x, y))) t4 → Blk W' b5 #[.bool true] t5 → Ext (fun j => j = b4 ∨ j = b5) W W' → R W') : SBoxF ⟨b4, 0, none⟩ ⟨b5, 0, none⟩ ⟨b6, 0, none⟩ x y W R := by
  have H : Hx W (fun j => j = b4 ∨ j = b5) W [(b4, bxC b, t4), (b5, #[.bool f], t5), (b6, #[.int .i64 x, .int .i64 y], t6)] := ⟨fun p hp => by
      simp only [List.mem_cons, List.not_mem_nil, or_false] at hp
      rcases hp with rfl | rfl | rfl
      · exact h4
      · exact h5
      · exact h6, by simp [n45, n46, n56], Ext.refl _ _⟩
  unfold bxC at H
  unfold SBoxF
  refine H.ld 1 rfl rfl ?_
  cases f with
  | false =>
    refine Br.t rfl ?_
    refine H.ld 2 rfl rfl (H.ld 2 rfl rfl (H.ld 2 rfl rfl (H.ld 2 rfl rfl ?_)))
    iterate 4 (refine H.st 0 rfl (by simp) (.inl (.inl rfl)) fun _ H => ?_)
    refine H.st 1 rfl (by simp) (.inl (.inr rfl)) fun _ H => ?_
    refine H.ld 0 rfl rfl (H.ld 2 rfl rfl (H.ld 0 rfl rfl (H.ld 2 rfl rfl (H.ld 0 rfl rfl (H.ld 2 rfl rfl (H.ld 0 rfl rfl (H.ld 2 rfl rfl ?_)))))))
    iterate 4 (refine H.st 0 rfl (by simp) (.inl (.inl rfl)) fun _ H => ?_)
    have g4 := H.get 0 rfl
    have g5 := H.get 1 rfl
    refine hR _ ?_ g5 H.ext
    simp only [mn, mx] at g4
    exact g4
  | true =>
    refine Br.f rfl ?_
    refine H.st 1 rfl (by simp) (.inl (.inr rfl)) fun _ H => ?_
    refine H.ld 0 rfl rfl (H.ld 2 rfl rfl (H.ld 0 rfl rfl (H.ld 2 rfl rfl (H.ld 0 rfl rfl (H.ld 2 rfl rfl (H.ld 0 rfl rfl (H.ld 2 rfl rfl ?_)))))))
    iterate 4 (refine H.st 0 rfl (by simp) (.inl (.inl rfl)) fun _ H => ?_)
    have g4 := H.get 0 rfl
    have g5 := H.get 1 rfl
    refine hR _ ?_ g5 H.ext
    simp only [mn, mx] at g4
    exact g4
end
end Pat
end Go.Proofs.YtjbeembbnkmpeaaDoor
