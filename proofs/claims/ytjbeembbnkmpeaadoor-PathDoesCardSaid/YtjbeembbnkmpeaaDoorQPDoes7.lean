/- Content operators: the reference's Takes and Check. Condition: none. -/
import Derived.Test.YtjbeembbnkmpeaaDoorQPDoes6
import Derived.Test.YtjbeembbnkmpeaaDoorQPDoes4
import Derived.Test.YtjbeembbnkmpeaaDoorQPDoes5
import Derived.Test.YtjbeembbnkmpeaaDoorQPDoes2
namespace Go.Proofs.YtjbeembbnkmpeaaDoor
namespace Opr
open Sh Mat
set_option linter.unusedVariables false
set_option linter.unusedSimpArgs false
set_option maxRecDepth 8000
set_option maxHeartbeats 8000000
attribute [local irreducible] Ld St Nw Nn Lt LdS
section
variable {w w1 : World} {s : Slc} {L : List By}
theorem BrB {a b : ByteArray} {A B : Prop} (h1 : bl a = bl b → A) (h2 : ¬ bl a = bl b → B) : Br (a.toList == b.toList) A B := by rw [eqB]; exact Br.dec h1 h2
theorem r_takes (name : ByteArray) (w : World) : C104 name w fun r w1 => r = ba (takes (bl name)) ∧ w1 = w := by
  refine T104 _ _ _ ?_
  unfold S104
  have ev : ∀ l : By, bl (⟨l.toArray⟩ : ByteArray) = l := fun l => rfl
  refine ⟨fun m w1 => w1 = w ∧ m = decide (bl name ∈ ([[98], [66], [98, 42], [66, 42], [66, 84], [69, 84], [69, 77, 67], [66, 88], [69, 88], [102], [70], [102, 42], [104], [110], [113], [81], [115], [83], [84, 42], [87], [87, 42]] : List By)), ?_, ?_⟩
  rotate_left
  · skip
    refine BrB (fun h => ⟨rfl, by rw [eqB, decide_eq_true h, decide_eq_true]; rw [h]; decide⟩) fun h0 => ?_
    refine BrB (fun h => ⟨rfl, by rw [eqB, decide_eq_true h, decide_eq_true]; rw [h]; decide⟩) fun h1 => ?_
    refine BrB (fun h => ⟨rfl, by rw [eqB, decide_eq_true h, decide_eq_true]; rw [h]; decide⟩) fun h2 => ?_
    refine BrB (fun h => ⟨rfl, by rw [eqB, decide_eq_true h, decide_eq_true]; rw [h]; decide⟩) fun h3 => ?_
    refine BrB (fun h => ⟨rfl, by rw [eqB, decide_eq_true h, decide_eq_true]; rw [h]; decide⟩) fun h4 => ?_
    refine BrB (fun h => ⟨rfl, by rw [eqB, decide_eq_true h, decide_eq_true]; rw [h]; decide⟩) fun h5 => ?_
    refine BrB (fun h => ⟨rfl, by rw [eqB, decide_eq_true h, decide_eq_true]; rw [h]; decide⟩) fun h6 => ?_
    refine BrB (fun h => ⟨rfl, by rw [eqB, decide_eq_true h, decide_eq_true]; rw [h]; decide⟩) fun h7 => ?_
    refine BrB (fun h => ⟨rfl, by rw [eqB, decide_eq_true h, decide_eq_true]; rw [h]; decide⟩) fun h8 => ?_
    refine BrB (fun h => ⟨rfl, by rw [eqB, decide_eq_true h, decide_eq_true]; rw [h]; decide⟩) fun h9 => ?_
    refine BrB (fun h => ⟨rfl, by rw [eqB, decide_eq_true h, decide_eq_true]; rw [h]; decide⟩) fun h10 => ?_
    refine BrB (fun h => ⟨rfl, by rw [eqB, decide_eq_true h, decide_eq_true]; rw [h]; decide⟩) fun h11 => ?_
    refine BrB (fun h => ⟨rfl, by rw [eqB, decide_eq_true h, decide_eq_true]; rw [h]; decide⟩) fun h12 => ?_
    refine BrB (fun h => ⟨rfl, by rw [eqB, decide_eq_true h, decide_eq_true]; rw [h]; decide⟩) fun h13 => ?_
    refine BrB (fun h => ⟨rfl, by rw [eqB, decide_eq_true h, decide_eq_true]; rw [h]; decide⟩) fun h14 => ?_
    refine BrB (fun h => ⟨rfl, by rw [eqB, decide_eq_true h, decide_eq_true]; rw [h]; decide⟩) fun h15 => ?_
    refine BrB (fun h => ⟨rfl, by rw [eqB, decide_eq_true h, decide_eq_true]; rw [h]; decide⟩) fun h16 => ?_
    refine BrB (fun h => ⟨rfl, by rw [eqB, decide_eq_true h, decide_eq_true]; rw [h]; decide⟩) fun h17 => ?_
    refine BrB (fun h => ⟨rfl, by rw [eqB, decide_eq_true h, decide_eq_true]; rw [h]; decide⟩) fun h18 => ?_
    refine BrB (fun h => ⟨rfl, by rw [eqB, decide_eq_true h, decide_eq_true]; rw [h]; decide⟩) fun h19 => ?_
    refine ⟨rfl, (eqB _ _).trans (decide_eq_decide.2 ⟨fun h => by rw [h]; decide, fun h => ?_⟩)⟩
    simp only [List.mem_cons, List.not_mem_nil, or_false] at h
    rcases h with h | h | h | h | h | h | h | h | h | h | h | h | h | h | h | h | h | h | h | h | h
    · exact absurd h h0
    · exact absurd h h1
    · exact absurd h h2
    · exact absurd h h3
    · exact absurd h h4
    · exact absurd h h5
    · exact absurd h h6
    · exact absurd h h7
    · exact absurd h h8
    · exact absurd h h9
    · exact absurd h h10
    · exact absurd h h11
    · exact absurd h h12
    · exact absurd h h13
    · exact absurd h h14
    · exact absurd h h15
    · exact absurd h h16
    · exact absurd h h17
    · exact absurd h h18
    · exact absurd h h19
    · exact h
  rintro m w1 ⟨hw, rfl⟩
  rw [hw]
  clear hw w1
  unfold S104J9
  refine Br.dec (fun q0 => ⟨by unfold takes rows; simp only [takesL, if_pos q0]; rfl, rfl⟩) fun q0 => ?_
  refine ⟨fun m w1 => w1 = w ∧ m = decide (bl name ∈ ([[103], [71], [105], [106], [74], [77], [119], [84, 99], [84, 76], [84, 114], [84, 115], [84, 119], [84, 122]] : List By)), ?_, ?_⟩
  rotate_left
  · skip
    refine BrB (fun h => ⟨rfl, by rw [eqB, decide_eq_true h, decide_eq_true]; rw [h]; decide⟩) fun h0 => ?_
    refine BrB (fun h => ⟨rfl, by rw [eqB, decide_eq_true h, decide_eq_true]; rw [h]; decide⟩) fun h1 => ?_
    refine BrB (fun h => ⟨rfl, by rw [eqB, decide_eq_true h, decide_eq_true]; rw [h]; decide⟩) fun h2 => ?_
    refine BrB (fun h => ⟨rfl, by rw [eqB, decide_eq_true h, decide_eq_true]; rw [h]; decide⟩) fun h3 => ?_
    refine BrB (fun h => ⟨rfl, by rw [eqB, decide_eq_true h, decide_eq_true]; rw [h]; decide⟩) fun h4 => ?_
    refine BrB (fun h => ⟨rfl, by rw [eqB, decide_eq_true h, decide_eq_true]; rw [h]; decide⟩) fun h5 => ?_
    refine BrB (fun h => ⟨rfl, by rw [eqB, decide_eq_true h, decide_eq_true]; rw [h]; decide⟩) fun h6 => ?_
    refine BrB (fun h => ⟨rfl, by rw [eqB, decide_eq_true h, decide_eq_true]; rw [h]; decide⟩) fun h7 => ?_
    refine BrB (fun h => ⟨rfl, by rw [eqB, decide_eq_true h, decide_eq_true]; rw [h]; decide⟩) fun h8 => ?_
    refine BrB (fun h => ⟨rfl, by rw [eqB, decide_eq_true h, decide_eq_true]; rw [h]; decide⟩) fun h9 => ?_
    refine BrB (fun h => ⟨rfl, by rw [eqB, decide_eq_true h, decide_eq_true]; rw [h]; decide⟩) fun h10 => ?_
    refine BrB (fun h => ⟨rfl, by rw [eqB, decide_eq_true h, decide_eq_true]; rw [h]; decide⟩) fun h11 => ?_
    refine ⟨rfl, (eqB _ _).trans (decide_eq_decide.2 ⟨fun h => by rw [h]; decide, fun h => ?_⟩)⟩
    simp only [List.mem_cons, List.not_mem_nil, or_false] at h
    rcases h with h | h | h | h | h | h | h | h | h | h | h | h | h
    · exact absurd h h0
    · exact absurd h h1
    · exact absurd h h2
    · exact absurd h h3
    · exact absurd h h4
    · exact absurd h h5
    · exact absurd h h6
    · exact absurd h h7
    · exact absurd h h8
    · exact absurd h h9
    · exact absurd h h10
    · exact absurd h h11
    · exact h
  rintro m w1 ⟨hw, rfl⟩
  rw [hw]
  clear hw w1
  unfold S104J8
  refine Br.dec (fun q1 => ⟨by unfold takes rows; simp only [takesL, if_neg q0, if_pos q1]; rfl, rfl⟩) fun q1 => ?_
  refine ⟨fun m w1 => w1 = w ∧ m = decide (bl name ∈ ([[100, 48], [108], [109], [84, 100], [84, 68]] : List By)), ?_, ?_⟩
  rotate_left
  · skip
    refine BrB (fun h => ⟨rfl, by rw [eqB, decide_eq_true h, decide_eq_true]; rw [h]; decide⟩) fun h0 => ?_
    refine BrB (fun h => ⟨rfl, by rw [eqB, decide_eq_true h, decide_eq_true]; rw [h]; decide⟩) fun h1 => ?_
    refine BrB (fun h => ⟨rfl, by rw [eqB, decide_eq_true h, decide_eq_true]; rw [h]; decide⟩) fun h2 => ?_
    refine BrB (fun h => ⟨rfl, by rw [eqB, decide_eq_true h, decide_eq_true]; rw [h]; decide⟩) fun h3 => ?_
    refine ⟨rfl, (eqB _ _).trans (decide_eq_decide.2 ⟨fun h => by rw [h]; decide, fun h => ?_⟩)⟩
    simp only [List.mem_cons, List.not_mem_nil, or_false] at h
    rcases h with h | h | h | h | h
    · exact absurd h h0
    · exact absurd h h1
    · exact absurd h h2
    · exact absurd h h3
    · exact h
  rintro m w1 ⟨hw, rfl⟩
  rw [hw]
  clear hw w1
  unfold S104J7
  refine Br.dec (fun q2 => ⟨by unfold takes rows; simp only [takesL, if_neg q0, if_neg q1, if_pos q2]; rfl, rfl⟩) fun q2 => ?_
  refine ⟨fun m w1 => w1 = w ∧ m = decide (bl name ∈ ([[114, 103], [82, 71]] : List By)), ?_, ?_⟩
  rotate_left
  · skip
    refine BrB (fun h => ⟨rfl, by rw [eqB, decide_eq_true h, decide_eq_true]; rw [h]; decide⟩) fun h0 => ?_
    refine ⟨rfl, (eqB _ _).trans (decide_eq_decide.2 ⟨fun h => by rw [h]; decide, fun h => ?_⟩)⟩
    simp only [List.mem_cons, List.not_mem_nil, or_false] at h
    rcases h with h | h
    · exact absurd h h0
    · exact h
  rintro m w1 ⟨hw, rfl⟩
  rw [hw]
  clear hw w1
  unfold S104J6
  refine Br.dec (fun q3 => ⟨by unfold takes rows; simp only [takesL, if_neg q0, if_neg q1, if_neg q2, if_pos q3]; rfl, rfl⟩) fun q3 => ?_
  refine ⟨fun m w1 => w1 = w ∧ m = decide (bl name ∈ ([[107], [75], [114, 101], [118], [121]] : List By)), ?_, ?_⟩
  rotate_left
  · skip
    refine BrB (fun h => ⟨rfl, by rw [eqB, decide_eq_true h, decide_eq_true]; rw [h]; decide⟩) fun h0 => ?_
    refine BrB (fun h => ⟨rfl, by rw [eqB, decide_eq_true h, decide_eq_true]; rw [h]; decide⟩) fun h1 => ?_
    refine BrB (fun h => ⟨rfl, by rw [eqB, decide_eq_true h, decide_eq_true]; rw [h]; decide⟩) fun h2 => ?_
    refine BrB (fun h => ⟨rfl, by rw [eqB, decide_eq_true h, decide_eq_true]; rw [h]; decide⟩) fun h3 => ?_
    refine ⟨rfl, (eqB _ _).trans (decide_eq_decide.2 ⟨fun h => by rw [h]; decide, fun h => ?_⟩)⟩
    simp only [List.mem_cons, List.not_mem_nil, or_false] at h
    rcases h with h | h | h | h | h
    · exact absurd h h0
    · exact absurd h h1
    · exact absurd h h2
    · exact absurd h h3
    · exact h
  rintro m w1 ⟨hw, rfl⟩
  rw [hw]
  clear hw w1
  unfold S104J5
  refine Br.dec (fun q4 => ⟨by unfold takes rows; simp only [takesL, if_neg q0, if_neg q1, if_neg q2, if_neg q3, if_pos q4]; rfl, rfl⟩) fun q4 => ?_
  refine ⟨fun m w1 => w1 = w ∧ m = decide (bl name ∈ ([[99], [99, 109], [100, 49], [84, 109]] : List By)), ?_, ?_⟩
  rotate_left
  · skip
    refine BrB (fun h => ⟨rfl, by rw [eqB, decide_eq_true h, decide_eq_true]; rw [h]; decide⟩) fun h0 => ?_
    refine BrB (fun h => ⟨rfl, by rw [eqB, decide_eq_true h, decide_eq_true]; rw [h]; decide⟩) fun h1 => ?_
    refine BrB (fun h => ⟨rfl, by rw [eqB, decide_eq_true h, decide_eq_true]; rw [h]; decide⟩) fun h2 => ?_
    refine ⟨rfl, (eqB _ _).trans (decide_eq_decide.2 ⟨fun h => by rw [h]; decide, fun h => ?_⟩)⟩
    simp only [List.mem_cons, List.not_mem_nil, or_false] at h
    rcases h with h | h | h | h
    · exact absurd h h0
    · exact absurd h h1
    · exact absurd h h2
    · exact h
  rintro m w1 ⟨hw, rfl⟩
  rw [hw]
  clear hw w1
  unfold S104J4
  refine Br.dec (fun q5 => ⟨by unfold takes rows; simp only [takesL, if_neg q0, if_neg q1, if_neg q2, if_neg q3, if_neg q4, if_pos q5]; rfl, rfl⟩) fun q5 => ?_
  refine ⟨fun m w1 => w1 = w ∧ m = decide (bl name ∈ ([[66, 77, 67], [99, 115], [67, 83], [68, 111], [103, 115], [77, 80], [114, 105], [115, 104]] : List By)), ?_, ?_⟩
  rotate_left
  · skip
    refine BrB (fun h => ⟨rfl, by rw [eqB, decide_eq_true h, decide_eq_true]; rw [h]; decide⟩) fun h0 => ?_
    refine BrB (fun h => ⟨rfl, by rw [eqB, decide_eq_true h, decide_eq_true]; rw [h]; decide⟩) fun h1 => ?_
    refine BrB (fun h => ⟨rfl, by rw [eqB, decide_eq_true h, decide_eq_true]; rw [h]; decide⟩) fun h2 => ?_
    refine BrB (fun h => ⟨rfl, by rw [eqB, decide_eq_true h, decide_eq_true]; rw [h]; decide⟩) fun h3 => ?_
    refine BrB (fun h => ⟨rfl, by rw [eqB, decide_eq_true h, decide_eq_true]; rw [h]; decide⟩) fun h4 => ?_
    refine BrB (fun h => ⟨rfl, by rw [eqB, decide_eq_true h, decide_eq_true]; rw [h]; decide⟩) fun h5 => ?_
    refine BrB (fun h => ⟨rfl, by rw [eqB, decide_eq_true h, decide_eq_true]; rw [h]; decide⟩) fun h6 => ?_
    refine ⟨rfl, (eqB _ _).trans (decide_eq_decide.2 ⟨fun h => by rw [h]; decide, fun h => ?_⟩)⟩
    simp only [List.mem_cons, List.not_mem_nil, or_false] at h
    rcases h with h | h | h | h | h | h | h | h
    · exact absurd h h0
    · exact absurd h h1
    · exact absurd h h2
    · exact absurd h h3
    · exact absurd h h4
    · exact absurd h h5
    · exact absurd h h6
    · exact h
  rintro m w1 ⟨hw, rfl⟩
  rw [hw]
  clear hw w1
  unfold S104J3
  refine Br.dec (fun q6 => ⟨by unfold takes rows; simp only [takesL, if_neg q0, if_neg q1, if_neg q2, if_neg q3, if_neg q4, if_neg q5, if_pos q6]; rfl, rfl⟩) fun q6 => ?_
  refine BrB (fun h => ?_) fun h => ?_
  · have q7 : bl name ∈ ([[84, 102]] : List By) := by rw [show bl name = [84, 102] from h]; decide
    exact ⟨by unfold takes rows; simp only [takesL, if_neg q0, if_neg q1, if_neg q2, if_neg q3, if_neg q4, if_neg q5, if_neg q6, if_pos q7]; rfl, rfl⟩
  have q7 : bl name ∉ ([[84, 102]] : List By) := fun hh => h (List.mem_singleton.1 hh)
  clear h
  refine ⟨fun m w1 => w1 = w ∧ m = decide (bl name ∈ ([[66, 68, 67], [68, 80]] : List By)), ?_, ?_⟩
  rotate_left
  · skip
    refine BrB (fun h => ⟨rfl, by rw [eqB, decide_eq_true h, decide_eq_true]; rw [h]; decide⟩) fun h0 => ?_
    refine ⟨rfl, (eqB _ _).trans (decide_eq_decide.2 ⟨fun h => by rw [h]; decide, fun h => ?_⟩)⟩
    simp only [List.mem_cons, List.not_mem_nil, or_false] at h
    rcases h with h | h
    · exact absurd h h0
    · exact h
  rintro m w1 ⟨hw, rfl⟩
  rw [hw]
  clear hw w1
  unfold S104J2
  refine Br.dec (fun q8 => ⟨by unfold takes rows; simp only [takesL, if_neg q0, if_neg q1, if_neg q2, if_neg q3, if_neg q4, if_neg q5, if_neg q6, if_neg q7, if_pos q8]; rfl, rfl⟩) fun q8 => ?_
  refine ⟨fun m w1 => w1 = w ∧ m = decide (bl name ∈ ([[84, 106], [39]] : List By)), ?_, ?_⟩
  rotate_left
  · skip
    refine BrB (fun h => ⟨rfl, by rw [eqB, decide_eq_true h, decide_eq_true]; rw [h]; decide⟩) fun h0 => ?_
    refine ⟨rfl, (eqB _ _).trans (decide_eq_decide.2 ⟨fun h => by rw [h]; decide, fun h => ?_⟩)⟩
    simp only [List.mem_cons, List.not_mem_nil, or_false] at h
    rcases h with h | h
    · exact absurd h h0
    · exact h
  rintro m w1 ⟨hw, rfl⟩
  rw [hw]
  clear hw w1
  unfold S104J1
  refine Br.dec (fun q9 => ⟨by unfold takes rows; simp only [takesL, if_neg q0, if_neg q1, if_neg q2, if_neg q3, if_neg q4, if_neg q5, if_neg q6, if_neg q7, if_neg q8, if_pos q9]; rfl, rfl⟩) fun q9 => ?_
  refine BrB (fun h => ?_) fun h => ?_
  · have q10 : bl name ∈ ([[34]] : List By) := by rw [show bl name = [34] from h]; decide
    exact ⟨by unfold takes rows; simp only [takesL, if_neg q0, if_neg q1, if_neg q2, if_neg q3, if_neg q4, if_neg q5, if_neg q6, if_neg q7, if_neg q8, if_neg q9, if_pos q10]; rfl, rfl⟩
  have q10 : bl name ∉ ([[34]] : List By) := fun hh => h (List.mem_singleton.1 hh)
  clear h
  refine BrB (fun h => ?_) fun h => ?_
  · have q11 : bl name ∈ ([[84, 74]] : List By) := by rw [show bl name = [84, 74] from h]; decide
    exact ⟨by unfold takes rows; simp only [takesL, if_neg q0, if_neg q1, if_neg q2, if_neg q3, if_neg q4, if_neg q5, if_neg q6, if_neg q7, if_neg q8, if_neg q9, if_neg q10, if_pos q11]; rfl, rfl⟩
  have q11 : bl name ∉ ([[84, 74]] : List By) := fun hh => h (List.mem_singleton.1 hh)
  clear h
  refine BrB (fun h => ?_) fun h => ?_
  · have q12 : bl name ∈ ([[100]] : List By) := by rw [show bl name = [100] from h]; decide
    exact ⟨by unfold takes rows; simp only [takesL, if_neg q0, if_neg q1, if_neg q2, if_neg q3, if_neg q4, if_neg q5, if_neg q6, if_neg q7, if_neg q8, if_neg q9, if_neg q10, if_neg q11, if_pos q12]; rfl, rfl⟩
  have q12 : bl name ∉ ([[100]] : List By) := fun hh => h (List.mem_singleton.1 hh)
  clear h
  refine BrB (fun h => ?_) fun h => ?_
  · have q13 : bl name ∈ ([[66, 73]] : List By) := by rw [show bl name = [66, 73] from h]; decide
    exact ⟨by unfold takes rows; simp only [takesL, if_neg q0, if_neg q1, if_neg q2, if_neg q3, if_neg q4, if_neg q5, if_neg q6, if_neg q7, if_neg q8, if_neg q9, if_neg q10, if_neg q11, if_neg q12, if_pos q13]; rfl, rfl⟩
  have q13 : bl name ∉ ([[66, 73]] : List By) := fun hh => h (List.mem_singleton.1 hh)
  clear h
  exact ⟨by unfold takes rows; simp only [takesL, if_neg q0, if_neg q1, if_neg q2, if_neg q3, if_neg q4, if_neg q5, if_neg q6, if_neg q7, if_neg q8, if_neg q9, if_neg q10, if_neg q11, if_neg q12, if_neg q13]; rfl, rfl⟩
theorem r_fits (o : Ob) (b : UInt8) (w : World) : C105 o ((b.toNat : Nat) : Int) w fun r w1 => r = fitsK b o.1 ∧ Ext (fun _ => False) w w1 := by
  refine T105 _ _ _ _ ?_
  unfold S105 fitsK
  have e : ∀ c : UInt8, (((b.toNat : Nat) : Int) = ((c.toNat : Nat) : Int)) ↔ b = c := fun c => ⟨fun h => UInt8.toNat_inj.1 (by omega), fun h => by rw [h]⟩
  refine (Hn.start w).nw fun w2 H => ?_
  simp only [List.nil_append] at H
  have he := H.ext
  refine Br.eq (fun q => ?_) fun q => ?_
  · rw [if_pos ((e 110).1 q)]
    refine H.ld 0 rfl rfl (Br.eq (fun q2 => ⟨by rw [q2]; rfl, he⟩) fun q2 => H.ld 0 rfl rfl ⟨by simp [q2], he⟩)
  rw [if_neg fun h => q ((e 110).2 h)]
  refine Br.eq (fun q => ?_) fun q => ?_
  · rw [if_pos ((e 115).1 q)]
    exact H.ld 0 rfl rfl ⟨rfl, he⟩
  rw [if_neg fun h => q ((e 115).2 h)]
  refine Br.eq (fun q => ?_) fun q => ?_
  · rw [if_pos ((e 78).1 q)]
    exact H.ld 0 rfl rfl ⟨rfl, he⟩
  rw [if_neg fun h => q ((e 78).2 h)]
  refine Br.eq (fun q => ?_) fun q => ?_
  · rw [if_pos ((e 97).1 q)]
    exact H.ld 0 rfl rfl ⟨rfl, he⟩
  rw [if_neg fun h => q ((e 97).2 h)]
  refine Br.eq (fun q => ?_) fun q => ?_
  · rw [if_pos ((e 100).1 q)]
    exact H.ld 0 rfl rfl ⟨rfl, he⟩
  rw [if_neg fun h => q ((e 100).2 h)]
  exact ⟨rfl, he⟩
theorem r_check {name data : ByteArray} {s : Slc} {L : List Ob} (hL : OV w s L) (hlen : L.length ≤ 9223372036854775807) : C43 (name, s, data) w fun r w1 => r = chkF (bl name) L (bl data) ∧ Ext (fun _ => False) w w1 := by
  refine T43 (name, s, data) _ _ ?_
  unfold S43
  refine (Hn.start w).nw fun w2 H => ?_
  simp only [List.nil_append] at H
  iterate 1 refine H.ld 0 rfl rfl ?_
  refine (r_takes name _).mono ?_
  rintro t w3 ⟨rfl, rfl⟩
  obtain ⟨tl1, tl2⟩ := takes_low (bl name)
  rw [eqB, bl_ba]
  unfold chkF
  refine Br.dec (fun q => ⟨by rw [if_pos q], H.ext⟩) fun q => ?_
  have q' : takes (bl name) ≠ [63] := q
  rw [if_neg q']
  iterate 1 refine H.ld 0 rfl rfl ?_
  rw [ba_size, hL.1]
  refine Br.ne (fun q2 => ⟨by rw [if_pos (by omega)], H.ext⟩) fun q2 => ?_
  rw [if_neg (c := List.length (takes (bl name)) ≠ List.length L) (by omega)]
  generalize ht : takes (bl name) = t at *
  refine ⟨fun n st w4 => ∃ i : Nat, st = (i : Int) ∧ i ≤ t.length ∧ n = t.length - i ∧ Hn w w4 [(w.heap.size, [.string name, Slc.v s, .string data], 63)] ∧ ∀ j b o, j < i → t[j]? = some b → L[j]? = some o → fitsK b o.1 = true, t.length,
    ⟨0, rfl, by omega, rfl, H, fun j b o hj => by omega⟩, ?_⟩
  clear H
  rintro n st w4 ⟨i, rfl, hi, rfl, H, hall⟩
  unfold S43L1
  rw [ba_size]
  refine Br.dec (fun q3 => ?_) fun q3 => ?_
  · have q3 : i < t.length := by omega
    have H5 := H.drew
    refine H5.ld 0 rfl rfl ?_
    obtain ⟨o, ho⟩ : ∃ o, L[i]? = some o := ⟨_, List.getElem?_eq_getElem (by omega)⟩
    obtain ⟨a, ha, c0, c1, c2, c3, c4, c5⟩ := (hL.keep H5.ext).get ho
    rw [hL.1, ha, Int.toNat_natCast]
    refine ⟨by omega, by omega, Nn.of (Ld.mk c0 (Ld.mk c1 (Ld.mk c2 (Ld.mk c3 (Ld.mk c4 (Ld.mk c5 ⟨by omega, by omega, ?_⟩))))))⟩
    have hbt : bAt (ba t) (i : Int) = (((t.getD i 0).toNat : Nat) : Int) := by rw [bAt_list]; rfl
    rw [hbt]
    refine (r_fits o _ _).mono ?_
    rintro r w6 ⟨rfl, e6⟩
    have H6 := H5.keep e6
    by_cases hf : fitsK (t.getD i 0) o.1 = true
    · rw [hf]
      refine Br.f rfl ⟨t.length - (i + 1), by omega, i + 1, by rw [i64_id (by omega)]; rfl, by omega, rfl, H6, fun j b o' hj hb ho' => ?_⟩
      by_cases e : j = i
      · subst e
        rw [byte_at q3] at hb
        rw [ho] at ho'
        cases hb; cases ho'
        exact hf
      · exact hall j b o' (by omega) hb ho'
    · have hf : fitsK (t.getD i 0) o.1 = false := by simpa using hf
      rw [hf]
      exact Br.t rfl ⟨by rw [if_pos (fitsT_no (byte_at q3) ho hf)], H6.ext⟩
  · have hyes : fitsT t L = true := fitsT_yes fun j b o hb ho => hall j b o (by have := (List.getElem?_eq_some_iff.1 hb).1; omega) hb ho
    rw [if_neg (by rw [hyes]; simp)]
    iterate 1 refine H.ld 0 rfl rfl ?_
    rw [eqB]
    have e0 : bl (⟨#[]⟩ : ByteArray) = [] := rfl
    have e1 : bl (⟨#[66, 73]⟩ : ByteArray) = [66, 73] := rfl
    rw [e0]
    by_cases hd : bl data = []
    · rw [decide_eq_true hd, if_neg fun hh => hh.1 hd]
      exact Br.f rfl ⟨rfl, H.ext⟩
    · rw [decide_eq_false hd]
      refine Br.t rfl ?_
      iterate 1 refine H.ld 0 rfl rfl ?_
      rw [eqB, e1]
      by_cases hn : bl name = [66, 73]
      · rw [decide_eq_true hn, if_neg fun hh => hh.2 hn]
        exact Br.f rfl ⟨rfl, H.ext⟩
      · rw [decide_eq_false hn, if_pos ⟨hd, hn⟩]
        exact Br.t rfl ⟨rfl, H.ext⟩
end
end Opr
end Go.Proofs.YtjbeembbnkmpeaaDoor

/- Paths: rows of numbers and of segments; the pen. Conditions: sizes. -/
namespace Go.Proofs.YtjbeembbnkmpeaaDoor
namespace Pat
open Sh Mat Fix Opr
set_option linter.unusedVariables false
set_option linter.unusedSimpArgs false
set_option maxRecDepth 4000
set_option maxHeartbeats 4000000
def ints (l : List Int) : List Value := l.map fun x => .int .i64 x
theorem elN : El Tryd.prog 24 2 1 8 (.int .i64 0) := ⟨by kernel_rfl, by kernel_rfl, by kernel_rfl, by kernel_rfl, rfl⟩
theorem ints_len (l : List Int) : (ints l).length = l.length := by unfold ints; simp
theorem ints_one (l : List Int) : ∀ v ∈ ints l, v.oneCell' = true := by
  intro v hv
  obtain ⟨x, _, rfl⟩ := List.mem_map.1 hv
  rfl
theorem ints_get {l : List Int} {i : Nat} (hi : i < l.length) : (ints l)[i]? = some (.int .i64 (l.getD i 0)) := by
  unfold ints
  rw [List.getElem?_map, List.getElem?_eq_getElem hi, List.getD_eq_getElem?_getD, List.getElem?_eq_getElem hi]
  rfl
theorem ints_set (l : List Int) (i : Nat) (x : Int) : (ints l).set i (.int .i64 x) = ints (l.set i x) := by unfold ints; rw [List.map_set]
theorem ints_app (l m : List Int) : ints (l ++ m) = ints l ++ ints m := by unfold ints; rw [List.map_append]
/-- The ints of a slice. -/
def IV (w : World) (s : Slc) (l : List Int) : Prop := s.len = l.length ∧ VRow w s 1 (ints l)
section
variable {w w' w1 : World} {s : Slc} {l : List Int} {L K : List Ob}
theorem IV.keep (h : IV w s l) (he : Ext (fun _ => False) w w') : IV w' s l := ⟨h.1, h.2.keep he⟩
theorem IV.keepF {F : Nat → Prop} (h : IV w s l) (he : Ext F w w') (hF : ∀ j, s.own j → ¬ F j) : IV w' s l := ⟨h.1, h.2.keepF he hF⟩
theorem IV.nil (w : World) : IV w ⟨none, 0, 0⟩ [] := ⟨rfl, rfl, fun j v h => by cases h⟩
theorem IV.get (h : IV w s l) {i : Nat} (hi : i < l.length) : ∃ a, s.p = some a ∧ w.cell? (a.add (i * 1)) = some (.int .i64 (l.getD i 0)) := by
  obtain ⟨a, ha, hc⟩ := h.2.2 i _ (ints_get hi)
  exact ⟨a, ha, by rw [Nat.mul_one]; exact hc⟩
theorem IV.row {t : TypeId} (h : Row w s t 1 (ints l)) : IV w s l := by
  refine ⟨?_, h.view⟩
  have := h.1
  rw [ints_len] at this
  omega
theorem Ext.new {F : Nat → Prop} {a b c : World} (h : Ext (fun _ => False) a b) (k : Ext F b c) (hF : ∀ j, F j → a.heap.size ≤ j) : Ext (fun _ => False) a c :=
  h.trans k (fun _ h => h) fun i hi hh => absurd hi (by have := hF i hh; omega)
/-- A row of ints of its own. -/
def IO (w0 w : World) (r : Slc) (l : List Int) : Prop := Row w r 2 1 (ints l) ∧ ∀ j, r.own j → w0.heap.size ≤ j
theorem IO.iv {w0 : World} {r : Slc} (h : IO w0 w r l) : IV w r l := IV.row h.1
theorem IO.nil (w0 w : World) : IO w0 w ⟨none, 0, 0⟩ [] := ⟨Row.nil _ _ _, fun j hj => by obtain ⟨a, ha, _⟩ := hj; cases ha⟩
attribute [local irreducible] Ld Sh.St Nw Nn Lt LdS LdT LdST StT
theorem IO.snoc {w0 : World} {r : Slc} {x : Int} {ty : TypeId} {K : Slc → World → Prop} (h : IO w0 w r l) (he : Ext (fun _ => False) w0 w) (hl : l.length ≤ 1000000)
    (k : ∀ r' w', IO w0 w' r' (l ++ [x]) → Ext (fun _ => False) w0 w' → K r' w') :
    Nw w (.cells #[.int .i64 x] 2) fun w2 => Rn Tryd.prog (Builtin.append_ #[24, 24] ty #[Slc.v r, Slc.v (⟨some ⟨w.heap.size, 0, none⟩, 1, 1⟩ : Slc)]) w2 Slc.v fun (r' : Slc) w3 => K r' w3 := by
  refine (Hn.start w).nw fun w2 H => ?_
  have hb := H.get 0 rfl
  have e2 := H.ext
  have hlen := h.iv.1
  obtain ⟨s', w', r1, r2, r3, r4, r5⟩ := elN.app1 (ty := ty) (ys := [.int .i64 x]) (h.1.keep e2 fun _ _ e => e) hb rfl (by intro v hv; rw [List.mem_singleton.1 hv]; rfl) (by omega) (by omega)
  have E2 := he.tr e2
  refine ⟨s', w', r1, k s' w' ⟨by rw [ints_app]; exact r2, fun j hj => ?_⟩ (Ext.new E2 r4 h.2)⟩
  have := E2.size
  rcases r5 j hj with hh | hh
  · exact h.2 j hh
  · omega
theorem IV.row' (h : IV w s l) : IRow w s l := ⟨h.1, fun i hi => by
  obtain ⟨a, ha, hc⟩ := h.get hi
  exact ⟨a, ha, by rw [Nat.mul_one] at hc; exact hc⟩⟩
theorem IV.drop (h : IV w s l) (hc : s.len ≤ s.cap) {d : Nat} (hd : d ≤ l.length) : IV w (s.cut 1 d s.len s.cap) (l.drop d) ∧ (s.cut 1 d s.len s.cap).len ≤ (s.cut 1 d s.len s.cap).cap := by
  have h1 := h.1
  refine ⟨⟨?_, ?_⟩, ?_⟩
  · show s.len - d = _
    rw [List.length_drop]; omega
  · refine ⟨?_, fun j v hj => ?_⟩
    · rw [ints_len, List.length_drop]
      show _ = (s.len - d) * 1
      omega
    · have hjl : j < (l.drop d).length := by
        have := (List.getElem?_eq_some_iff.1 hj).1
        rw [ints_len] at this
        exact this
      rw [List.length_drop] at hjl
      obtain ⟨a, ha, hc'⟩ := h.2.2 (d + j) v (by
        rw [← hj]
        unfold ints
        rw [List.getElem?_map, List.getElem?_map, List.getElem?_drop])
      refine ⟨a.add d, ?_, by rw [add_add']; exact hc'⟩
      show (if s.cap = d then s.p else s.p.map (·.add (d * 1))) = _
      rw [if_neg (by omega), ha, Nat.mul_one]
      rfl
  · show s.len - d ≤ s.cap - d
    omega
end
/-! ### Segments -/
abbrev Sg : Type := Int × Int × Int × Int × Int × Int × Int
def sgrow (s : Sg) : List Value := [.int .i64 s.1, .int .i64 s.2.1, .int .i64 s.2.2.1, .int .i64 s.2.2.2.1, .int .i64 s.2.2.2.2.1, .int .i64 s.2.2.2.2.2.1, .int .i64 s.2.2.2.2.2.2]
abbrev sgs (L : List Sg) : List Value := L.flatMap sgrow
def sg0 : Sg := (0, 0, 0, 0, 0, 0, 0)
theorem elSg : El Tryd.prog 64 67 7 56 (.agg (sgrow sg0).toArray) := ⟨by kernel_rfl, by kernel_rfl, by kernel_rfl, by kernel_rfl, rfl⟩
theorem sg_one (s : Sg) : ∀ v ∈ sgrow s, v.oneCell' = true := by
  intro v hv
  simp only [sgrow, List.mem_cons, List.not_mem_nil, or_false] at hv
  rcases hv with rfl | rfl | rfl | rfl | rfl | rfl | rfl <;> rfl
theorem sgs_one (L : List Sg) : ∀ v ∈ sgs L, v.oneCell' = true := by
  intro v hv
  obtain ⟨o, _, h⟩ := List.mem_flatMap.1 hv
  exact sg_one o v h
theorem sgs_len (L : List Sg) : (sgs L).length = L.length * 7 := by
  induction L with
  | nil => rfl
  | cons o L ih => rw [sgs, List.flatMap_cons, List.length_append, ih, List.length_cons]; simp [sgrow]; omega
theorem sgs_get {L : List Sg} {i j : Nat} {o : Sg} (hi : L[i]? = some o) (hj : j < 7) : (sgs L)[i * 7 + j]? = (sgrow o)[j]? := by
  induction L generalizing i with
  | nil => cases hi
  | cons p L ih =>
    rw [sgs, List.flatMap_cons]
    cases i with
    | zero =>
      cases hi
      rw [Nat.zero_mul, Nat.zero_add, List.getElem?_append_left (by simp [sgrow]; omega)]
    | succ i =>
      rw [List.getElem?_append_right (by simp [sgrow]; omega), ← ih (by simpa using hi)]
      congr 1
      simp only [sgrow, List.length_cons, List.length_nil]
      omega
theorem sgs_app (L M : List Sg) : sgs (L ++ M) = sgs L ++ sgs M := List.flatMap_append
theorem sgs_sing (s : Sg) : sgs [s] = sgrow s := by simp [sgs]
/-- The segments of a slice. -/
def SV (w : World) (s : Slc) (L : List Sg) : Prop := s.len = L.length ∧ VRow w s 7 (sgs L)
section
variable {w w' w1 : World} {s : Slc} {L : List Sg}
theorem SV.keep (h : SV w s L) (he : Ext (fun _ => False) w w') : SV w' s L := ⟨h.1, h.2.keep he⟩
theorem SV.keepF {F : Nat → Prop} (h : SV w s L) (he : Ext F w w') (hF : ∀ j, s.own j → ¬ F j) : SV w' s L := ⟨h.1, h.2.keepF he hF⟩
theorem SV.nil (w : World) : SV w nilS [] := ⟨rfl, rfl, fun j v h => by cases h⟩
theorem SV.row {t : TypeId} (h : Row w s t 7 (sgs L)) : SV w s L := by
  refine ⟨?_, h.view⟩
  have := h.1
  rw [sgs_len] at this
  omega
theorem SV.get (h : SV w s L) {i : Nat} {o : Sg} (hi : L[i]? = some o) : ∃ a, s.p = some a ∧ ∀ j v, (sgrow o)[j]? = some v → w.cell? ((a.add (i * 7)).add j) = some v := by
  have hlt := (List.getElem?_eq_some_iff.1 hi).1
  obtain ⟨a, ha, _⟩ := h.2.2 (i * 7 + 0) _ (by rw [sgs_get hi (by omega)]; rfl)
  refine ⟨a, ha, fun j v hj => ?_⟩
  have hj7 : j < 7 := by
    have := (List.getElem?_eq_some_iff.1 hj).1
    simpa [sgrow] using this
  obtain ⟨a', ha', hc⟩ := h.2.2 (i * 7 + j) v (by rw [sgs_get hi hj7]; exact hj)
  rw [ha] at ha'
  cases ha'
  rw [add_add']
  exact hc
end
/-! ### What the pen draws -/
def pt (m : Mx) (x y : Int) : Option (Int × Int) := applyP m (x, y)
def mvS (p : Int × Int) : Sg := (1, 0, 0, 0, 0, p.1, p.2)
def lnS (p : Int × Int) : Sg := (2, 0, 0, 0, 0, p.1, p.2)
def cvS (a b c : Int × Int) : Sg := (3, a.1, a.2, b.1, b.2, c.1, c.2)
def clS : Sg := (4, 0, 0, 0, 0, 0, 0)
def sum2 (x y : Int) : Option Int := if (sumF [x, y]).2 = 0 then some (sumF [x, y]).1 else none
def rectF (m : Mx) (x y w h : Int) : Option (List Sg) := (sum2 x w).bind fun r => (sum2 y h).bind fun t => (pt m x y).bind fun p => (pt m r y).bind fun q => (pt m r t).bind fun u => (pt m x t).bind fun v => some [mvS p, lnS q, lnS u, lnS v, clS]
def drawF (nm : By) (m : Mx) (h : Int × Int) (l : List Int) : Option (List Sg) :=
  if nm = [109] then (pt m (l.getD 0 0) (l.getD 1 0)).bind fun p => some [mvS p]
  else if nm = [108] then (pt m (l.getD 0 0) (l.getD 1 0)).bind fun p => some [lnS p]
  else if nm = [99] then (pt m (l.getD 0 0) (l.getD 1 0)).bind fun p => (pt m (l.getD 2 0) (l.getD 3 0)).bind fun q => (pt m (l.getD 4 0) (l.getD 5 0)).bind fun r => some [cvS p q r]
  else if nm = [118] then (pt m (l.getD 0 0) (l.getD 1 0)).bind fun p => (pt m (l.getD 2 0) (l.getD 3 0)).bind fun q => some [cvS h p q]
  else if nm = [121] then (pt m (l.getD 0 0) (l.getD 1 0)).bind fun p => (pt m (l.getD 2 0) (l.getD 3 0)).bind fun q => some [cvS p q q]
  else if nm = [104] then some [clS]
  else if nm = [114, 101] then rectF m (l.getD 0 0) (l.getD 1 0) (l.getD 2 0) (l.getD 3 0)
  else some []
/-! ### The pen in memory -/
def gu (e : Int) : Value := .iface 136 (.agg #[.int .i64 e])
def pnrow (m : Mx) (ns : Slc) (h : Int × Int) (ps : Slc) : List Value := mrow m ++ [Slc.v ns, .int .i64 h.1, .int .i64 h.2, Slc.v ps]
structure Pn (w0 w : World) (g : Nat) (m : Mx) (ns : Slc) (l : List Int) (h : Int × Int) (ps : Slc) (T : List Sg) : Prop where
  blk : Blk w g (pnrow m ns h ps).toArray 141
  num : IV w ns l
  cap : ns.len ≤ ns.cap
  par : Row w ps 67 7 (sgs T)
  ng : g < w0.heap.size
  nown : ∀ j, ns.own j → j < w0.heap.size ∧ j ≠ g
  pown : ∀ j, ps.own j → w0.heap.size ≤ j
  ext : Ext (· = g) w0 w
section
variable {w0 w w' w1 : World} {g : Nat} {m : Mx} {ns ps : Slc} {l : List Int} {h : Int × Int} {T : List Sg}
theorem Pn.keep (H : Pn w0 w g m ns l h ps T) (he : Ext (fun _ => False) w w') : Pn w0 w' g m ns l h ps T :=
  ⟨he.blk H.blk id, H.num.keep he, H.cap, H.par.keep he fun _ _ e => e, H.ng, H.nown, H.pown, H.ext.tr (he.mono fun _ _ e => e.elim)⟩
theorem Pn.plen (H : Pn w0 w g m ns l h ps T) : ps.len = T.length := by
  have := H.par.1
  rw [sgs_len] at this
  omega
attribute [local irreducible] Ld Sh.St Nw Nn LdS
theorem c_need (b : Bool) (e : Int) (w : World) : C77 b e w (fun w1 => b = true ∧ w1 = w) fun v w1 => v = gu e ∧ b = false ∧ w1 = w := by
  refine T77 _ _ _ _ _ ?_
  unfold S77
  cases b
  · exact ⟨rfl, rfl, rfl⟩
  · exact ⟨rfl, rfl⟩
theorem c_mustI (x e : Int) (w : World) : C193 x e w (fun r w1 => e = 0 ∧ r = x ∧ w1 = w) fun v w1 => e ≠ 0 ∧ v = gu e ∧ w1 = w := by
  refine T193 _ _ _ _ _ ?_
  unfold S193
  refine (c_need _ e w).mono ?_ ?_
  · rintro w2 ⟨h, rfl⟩
    exact ⟨by simpa using h, rfl, rfl⟩
  · rintro v w2 ⟨rfl, h, rfl⟩
    exact ⟨by simpa using h, rfl, rfl⟩
theorem c_mustN (x : Slc) (e : Int) (w : World) : C82 x e w (fun r w1 => e = 0 ∧ r = x ∧ w1 = w) fun v w1 => e ≠ 0 ∧ v = gu e ∧ w1 = w := by
  refine T82 _ _ _ _ _ ?_
  unfold S82
  refine (c_need _ e w).mono ?_ ?_
  · rintro w2 ⟨h, rfl⟩
    exact ⟨by simpa using h, rfl, rfl⟩
  · rintro v w2 ⟨rfl, h, rfl⟩
    exact ⟨by simpa using h, rfl, rfl⟩
theorem c_mustP (x : Int × Int) (e : Int) (w : World) : C205 x e w (fun r w1 => e = 0 ∧ r = x ∧ Ext (fun _ => False) w w1) fun v w1 => e ≠ 0 ∧ v = gu e ∧ Ext (fun _ => False) w w1 := by
  refine T205 _ _ _ _ _ ?_
  unfold S205
  refine (Hn.start w).nw fun w2 H => ?_
  refine H.nw fun w3 H => ?_
  simp only [List.cons_append, List.nil_append, add_lit, Nat.zero_add] at H ⊢
  refine (c_need _ e _).mono ?_ ?_
  · rintro w4 ⟨h, rfl⟩
    iterate 2 refine H.ld 0 rfl rfl ?_
    iterate 2 (refine H.st 1 rfl (by simp) fun _ H => ?_; simp only [List.nil_append, List.cons_append, List.set_cons_zero, List.set_cons_succ, Nat.zero_add] at H)
    iterate 2 refine H.ld 1 rfl rfl ?_
    exact ⟨by simpa using h, rfl, H.ext⟩
  · rintro v w2 ⟨rfl, h, rfl⟩
    exact ⟨by simpa using h, rfl, H.ext⟩
theorem c_mustO (a d : ByteArray) (s : Slc) (e : Int) (w : World) : C79 (a, s, d) e w (fun r w1 => e = 0 ∧ Ext (fun _ => False) w w1) fun v w1 => e ≠ 0 ∧ v = gu e ∧ Ext (fun _ => False) w w1 := by
  refine T79 (a, s, d) _ _ _ _ ?_
  unfold S79
  refine (Hn.start w).nw fun w2 H => ?_
  refine H.nw fun w3 H => ?_
  simp only [List.cons_append, List.nil_append, add_lit, Nat.zero_add] at H ⊢
  refine (c_need _ e _).mono ?_ ?_
  · rintro w4 ⟨h, rfl⟩
    iterate 3 refine H.ld 0 rfl rfl ?_
    iterate 3 (refine H.st 1 rfl (by simp) fun _ H => ?_; simp only [List.nil_append, List.cons_append, List.set_cons_zero, List.set_cons_succ, Nat.zero_add] at H)
    iterate 3 refine H.ld 1 rfl rfl ?_
    exact ⟨by simpa using h, H.ext⟩
  · rintro v w2 ⟨rfl, h, rfl⟩
    exact ⟨by simpa using h, rfl, H.ext⟩
end
end Pat
end Go.Proofs.YtjbeembbnkmpeaaDoor

/- The pen walked: points, curves, rectangles. Conditions: sizes. -/
namespace Go.Proofs.YtjbeembbnkmpeaaDoor
namespace Pat
open Sh Mat Fix Opr
set_option linter.unusedVariables false
set_option linter.unusedSimpArgs false
set_option maxRecDepth 4000
set_option maxHeartbeats 4000000
theorem pn_set6 (m : Mx) (ns : Slc) (h : Int × Int) (ps : Slc) (v : Slc) : (pnrow m ns h ps).set 6 (Slc.v v) = pnrow m v h ps := rfl
theorem pn_set9 (m : Mx) (ns : Slc) (h : Int × Int) (ps : Slc) (v : Slc) : (pnrow m ns h ps).set 9 (Slc.v v) = pnrow m ns h v := rfl
theorem ldS_mk {α : Type} {S : World → Prop} {V : α → Value} {K : α → Prop} {x : α} {a : Addr} (h : ∀ w, S w → w.cell? a = some (V x)) (k : K x) : LdS S a V K := ⟨x, h, k⟩
section
variable {w0 w w' w1 : World} {g : Nat} {m : Mx} {ns ps : Slc} {l : List Int} {h : Int × Int} {T : List Sg}
theorem stB {b : Nat} {cs : List Value} {t : TypeId} {i : Nat} {v : Value} {R : World → Prop} (h : Blk w b cs.toArray t) (ho : i < cs.length) (k : ∀ w2, Blk w2 b (cs.set i v).toArray t → Ext (· = b) w w2 → R w2) : Sh.St w ⟨b, i, none⟩ v R := by
  unfold Sh.St
  refine ⟨h.can (by simpa using ho), k _ ?_ ((Ext.refl (· = b) w).set (.inl rfl) v)⟩
  have := h.set i v
  rwa [List.setIfInBounds_toArray] at this
theorem ldS_iv {s : Slc} {S : World → Prop} {w0 : World} {R : Int → Prop} {i : Nat} {ii : Int} (h0 : IV w0 s l) (hS : ∀ w', S w' → IV w' s l) (hi : i < l.length) (e : ii = (i : Int)) (k : R (l.getD i 0)) : 0 ≤ ii ∧ ii < (s.len : Nat) ∧ Nn s.p fun a => LdS S (a.add (ii.toNat * 1)) (Value.int .i64) R := by
  subst e
  obtain ⟨ad, ha, _⟩ := h0.get hi
  have hl := h0.1
  rw [ha, Int.toNat_natCast]
  refine ⟨by omega, by omega, Nn.of (ldS_mk (fun w' hw => ?_) k)⟩
  obtain ⟨ad', ha', hc⟩ := (hS w' hw).get hi
  rw [ha] at ha'
  cases ha'
  exact hc
theorem ld_iv {s : Slc} {R : Int → Prop} {i : Nat} {ii : Int} (h0 : IV w s l) (hi : i < l.length) (e : ii = (i : Int)) (k : R (l.getD i 0)) : 0 ≤ ii ∧ ii < (s.len : Nat) ∧ Nn s.p fun a => Ld w (a.add (ii.toNat * 1)) (Value.int .i64) R := by
  subst e
  obtain ⟨ad, ha, hc⟩ := h0.get hi
  have hl := h0.1
  rw [ha, Int.toNat_natCast]
  exact ⟨by omega, by omega, Nn.of (Ld.mk hc k)⟩
theorem Pn.st6 (H : Pn w0 w g m ns l h ps T) (hl : 2 ≤ l.length) {K : World → Prop} (k : ∀ w', Pn w0 w' g m (ns.cut 1 2 ns.len ns.cap) (l.drop 2) h ps T → Ext (· = g) w w' → K w') : Sh.St w ⟨g, 6, none⟩ (Slc.v (ns.cut 1 2 ns.len ns.cap)) K := by
  refine stB H.blk (by simp [pnrow, mrow]) fun w' hb he => k w' ⟨?_, ?_, (H.num.drop H.cap hl).2, H.par.keep he fun j hj e => ?_, H.ng, fun j hj => ?_, H.pown, H.ext.tr he⟩ he
  · rw [pn_set6] at hb
    exact hb
  · exact (H.num.keepF he fun j hj e => (H.nown j hj).2 e).drop H.cap hl |>.1
  · have e : j = g := e
    have := H.pown j hj
    have := H.ng
    omega
  · obtain ⟨a, ha, rfl⟩ := hj
    change (if ns.cap = 2 then ns.p else ns.p.map (·.add (2 * 1))) = _ at ha
    split at ha
    · exact H.nown _ ⟨a, ha, rfl⟩
    · cases hp : ns.p with
      | none => rw [hp] at ha; cases ha
      | some a' =>
        rw [hp] at ha
        cases ha
        exact H.nown _ ⟨a', hp, by rw [add_block]⟩
theorem Pn.other {wa : World} {ns' : Slc} {l' : List Int} {T' : List Sg} {h' : Int × Int} {F : Nat → Prop} (H : Pn w0 wa g m ns l h ps T) (H5 : Pn w0 w g m ns' l' h' ps T') (he : Ext F w w') (hF : ∀ j, F j → wa.heap.size ≤ j) : Pn w0 w' g m ns' l' h' ps T' := by
  have hg := H.blk.lt
  have hs := H.ext.size
  have h5 := H5.ng
  refine ⟨he.blk H5.blk fun e => by have := hF _ e; omega, H5.num.keepF he fun j hj e => by have := hF _ e; have := (H5.nown j hj).1; omega, H5.cap, H5.par.keep he fun j hj e => by have := hF _ e; have := H.par.own_lt hj; omega, H5.ng, H5.nown, H5.pown, H5.ext.trans he (fun _ e => e) fun j hj e => by have := hF _ e; omega⟩
attribute [local irreducible] Ld Sh.St Nw Nn LdS
theorem c_point (H : Pn w0 w g m ns l h ps T) (x y : Int) : C192 (some ⟨g, 0, none⟩) x y w (fun r w1 => pt m x y = some r ∧ Ext (fun _ => False) w w1) fun v w1 => v = gu 2 ∧ pt m x y = none ∧ Ext (fun _ => False) w w1 := by
  refine T192 _ _ _ _ _ _ ?_
  unfold S192
  refine (Hn.start w).nw fun w2 H2 => ?_
  simp only [List.nil_append, add_lit, Nat.zero_add] at H2 ⊢
  have hb := (H.keep H2.ext).blk
  refine Nn.of ?_
  iterate 6 refine Ld.of hb rfl ?_
  refine (c_apply m (x, y) _).mono ?_
  rintro r e w3 ⟨hr, e3⟩
  have H2 := H2.keep e3
  refine (c_mustP r e _).mono ?_ ?_
  · rintro r w4 ⟨rfl, rfl, e4⟩
    have H2 := H2.keep e4
    iterate 2 (refine H2.st 0 rfl (by simp) fun _ H2 => ?_; simp only [List.set_cons_zero, List.set_cons_succ] at H2)
    iterate 2 refine H2.ld 0 rfl rfl ?_
    refine ⟨?_, H2.ext⟩
    show applyP m (x, y) = _
    cases hm : applyP m (x, y) with
    | none => rw [hm] at hr; cases hr
    | some p => rw [hm] at hr; cases hr; rfl
  · rintro v w4 ⟨hne, rfl, e4⟩
    have H2 := H2.keep e4
    have : applyP m (x, y) = none ∧ e = 2 := by
      cases hm : applyP m (x, y) with
      | none => rw [hm] at hr; cases hr; exact ⟨rfl, rfl⟩
      | some p => rw [hm] at hr; cases hr; exact absurd rfl hne
    exact ⟨by rw [this.2], this.1, H2.ext⟩
theorem c_next (H : Pn w0 w g m ns l h ps T) (hl : 2 ≤ l.length) : C145 (some ⟨g, 0, none⟩) w (fun r w1 => pt m (l.getD 0 0) (l.getD 1 0) = some r ∧ Pn w0 w1 g m (ns.cut 1 2 ns.len ns.cap) (l.drop 2) h ps T ∧ Ext (· = g) w w1) fun v w1 => v = gu 2 ∧ pt m (l.getD 0 0) (l.getD 1 0) = none ∧ Ext (· = g) w w1 := by
  refine T145 _ _ _ _ ?_
  unfold S145
  have hgw := H.blk.lt
  refine (Hn.start w).nw fun w2 H2 => ?_
  simp only [List.nil_append, add_lit, Nat.zero_add] at H2 ⊢
  have H2 := H2.drew
  have P2 := H.keep H2.ext
  have hlen := H.num.1
  refine ⟨fun w' => Blk w' g (pnrow m ns h ps).toArray 141 ∧ IV w' ns l, ⟨P2.blk, P2.num⟩, Nn.of ?_⟩
  refine LdS.of (fun w' h' => h'.1) rfl ?_
  refine ldS_iv (i := 0) P2.num (fun w' h' => h'.2) (by omega) rfl (Nn.of ?_)
  refine LdS.of (fun w' h' => h'.1) rfl ?_
  refine ldS_iv (i := 1) P2.num (fun w' h' => h'.2) (by omega) rfl ?_
  have weak : ∀ {a b : World}, Ext (fun _ => False) a b → Ext (· = g) a b := fun e => e.mono fun _ _ e => e.elim
  refine ⟨?_, ?_⟩
  · refine (c_point P2 _ _).mono ?_ ?_
    · rintro r w3 ⟨hr, e3⟩
      have H3 := H2.keep e3
      refine H3.nw fun w4 H4 => ?_
      simp only [List.cons_append, List.nil_append] at H4
      iterate 2 (refine H4.st 1 rfl (by simp) fun _ H4 => ?_; simp only [List.set_cons_zero, List.set_cons_succ] at H4)
      refine Nn.of ?_
      have P4 := H.keep H4.ext
      refine Ld.of P4.blk rfl ⟨by omega, by omega, Nn.of ?_⟩
      refine P4.st6 hl fun w5 P5 e5 => ?_
      have b0 := e5.blk (H4.get 0 rfl) (by have := H4.ge 0 rfl; omega)
      have b1 := e5.blk (H4.get 1 rfl) (by have := H4.ge 1 rfl; omega)
      refine Ld.of b1 rfl (Ld.of b1 rfl ?_)
      refine stB b0 (by simp) fun w6 b6 e6 => ?_
      refine stB b6 (by simp) fun w7 b7 e7 => ?_
      refine Ld.of b7 rfl (Ld.of b7 rfl ?_)
      have e67 := e6.tr e7
      exact ⟨hr, H.other P5 e67 fun j hj => by omega, ((weak H4.ext).tr e5).trans e67 (fun _ e => e) fun j hj e => by omega⟩
    · rintro v w3 ⟨rfl, hr, e3⟩
      exact ⟨rfl, hr, weak (H2.ext.tr e3)⟩
  · refine H2.nw fun w3 H3 => ?_
    simp only [List.cons_append, List.nil_append] at H3
    have P3 := H.keep H3.ext
    refine ⟨⟨P3.blk, P3.num⟩, (c_point P3 _ _).mono ?_ ?_⟩
    · rintro r w4 ⟨hr, e3⟩
      have H4 := H3.keep e3
      iterate 2 (refine H4.st 1 rfl (by simp) fun _ H4 => ?_; simp only [List.set_cons_zero, List.set_cons_succ] at H4)
      refine Nn.of ?_
      have P4 := H.keep H4.ext
      refine Ld.of P4.blk rfl ⟨by omega, by omega, Nn.of ?_⟩
      refine P4.st6 hl fun w5 P5 e5 => ?_
      have b0 := e5.blk (H4.get 0 rfl) (by have := H4.ge 0 rfl; omega)
      have b1 := e5.blk (H4.get 1 rfl) (by have := H4.ge 1 rfl; omega)
      refine Ld.of b1 rfl (Ld.of b1 rfl ?_)
      refine stB b0 (by simp) fun w6 b6 e6 => ?_
      refine stB b6 (by simp) fun w7 b7 e7 => ?_
      refine Ld.of b7 rfl (Ld.of b7 rfl ?_)
      have e67 := e6.tr e7
      exact ⟨hr, H.other P5 e67 fun j hj => by omega, ((weak H4.ext).tr e5).trans e67 (fun _ e => e) fun j hj e => by omega⟩
    · rintro v w3 ⟨rfl, hr, e3⟩
      exact ⟨rfl, hr, weak (H3.ext.tr e3)⟩
theorem c_put (H : Pn w0 w g m ns l h ps T) (hT : T.length ≤ 1000) (s : Sg) : C144 (some ⟨g, 0, none⟩) s w fun w1 => ∃ ps', Pn w0 w1 g m ns l h ps' (T ++ [s]) := by
  refine T144 _ s _ _ ?_
  unfold S144
  refine (Hn.start w).nw fun w2 H2 => ?_
  simp only [List.nil_append, add_lit, Nat.zero_add] at H2 ⊢
  have H2 := H2.drew
  have P2 := H.keep H2.ext
  refine ⟨fun w' => Blk w' g (pnrow m ns h ps).toArray 141 ∧ Blk w' w.heap.size (sgrow s).toArray 67, ⟨P2.blk, H2.get 0 rfl⟩, Nn.of ?_⟩
  refine LdS.of (fun w' h' => h'.1) rfl ?_
  iterate 7 refine LdS.of (fun w' h' => h'.2) rfl ?_
  refine H2.nw (cs := sgrow s) fun w3 H3 => ?_
  have P3 := H.keep H3.ext
  have hb := H3.get 1 rfl
  refine ⟨⟨P3.blk, H3.get 0 rfl⟩, ?_⟩
  have hpl := P3.plen
  obtain ⟨s', w4, r1, r2, r3, e4, r5⟩ := elSg.app1 (ty := 64) P3.par hb rfl (sg_one s) (by omega) (by omega)
  refine ⟨s', w4, r1, Nn.of ?_⟩
  have hg := P3.ng
  have hgs := H.ext.size
  have hs3 := H3.size
  have nog : ∀ j, ps.own j → ¬ (j = g) := fun j hj e => by have := P3.pown j hj; omega
  refine stB (e4.blk P3.blk fun hj => nog _ hj rfl) (by simp [pnrow, mrow]) fun w5 b5 e5 => ?_
  rw [pn_set9] at b5
  have own' : ∀ j, s'.own j → w0.heap.size ≤ j := fun j hj => by
    rcases r5 j hj with hh | hh
    · exact P3.pown j hh
    · have := P3.ext.size; omega
  refine ⟨s', b5, ?_, P3.cap, ?_, P3.ng, P3.nown, own', ?_⟩
  · refine (P3.num.keepF e4 fun j hj e => ?_).keepF e5 fun j hj e => (P3.nown j hj).2 e
    have := (P3.nown j hj).1
    have := P3.pown j e
    omega
  · rw [sgs_app, sgs_sing]
    exact r2.keep e5 fun j hj e => by have e : j = g := e; have := own' j hj; omega
  · exact (P3.ext.trans e4 (fun _ e => e) fun j hj e => by have := P3.pown j e; omega).tr e5
theorem c_curve (H : Pn w0 w g m ns l h ps T) (hT : T.length ≤ 1000) (a b c : Int × Int) : C146 (some ⟨g, 0, none⟩) a b c w fun w1 => ∃ ps', Pn w0 w1 g m ns l h ps' (T ++ [cvS a b c]) := by
  refine T146 _ a b c _ _ ?_
  unfold S146
  refine (Hn.start w).nw fun w2 H2 => ?_
  refine H2.nw fun w3 H2 => ?_
  refine H2.nw fun w4 H2 => ?_
  simp only [List.cons_append, List.nil_append, add_lit, Nat.zero_add] at H2 ⊢
  iterate 2 refine H2.ld 0 rfl rfl ?_
  iterate 2 refine H2.ld 1 rfl rfl ?_
  iterate 2 refine H2.ld 2 rfl rfl ?_
  exact c_put (H.keep H2.ext) hT (cvS a b c)
end
end Pat
end Go.Proofs.YtjbeembbnkmpeaaDoor

/- The pen walked: rectangles, and what each operator draws. Conditions: sizes. -/
namespace Go.Proofs.YtjbeembbnkmpeaaDoor
namespace Pat
open Sh Mat Fix Opr
set_option linter.unusedVariables false
set_option linter.unusedSimpArgs false
set_option maxRecDepth 4000
set_option maxHeartbeats 4000000
/-- The corners of a rectangle. -/
def crn (x y r t : Int) : Nat → Int × Int
  | 0 => (x, y)
  | 1 => (r, y)
  | 2 => (r, t)
  | _ => (x, t)
def rectK (m : Mx) (x y r t : Int) : Nat → Option (List Sg)
  | 0 => some []
  | k + 1 => (rectK m x y r t k).bind fun L => (pt m (crn x y r t k).1 (crn x y r t k).2).bind fun p => some (L ++ [if k = 0 then mvS p else lnS p])
theorem rect_K {m : Mx} {x y w h r t : Int} (h1 : sum2 x w = some r) (h2 : sum2 y h = some t) : rectF m x y w h = (rectK m x y r t 4).bind fun L => some (L ++ [clS]) := by
  unfold rectF
  rw [h1, h2]
  simp only [rectK, crn, Option.bind_some, Option.bind_assoc]
  cases pt m x y with
  | none => rfl
  | some p =>
    cases pt m r y with
    | none => rfl
    | some q =>
      cases pt m r t with
      | none => rfl
      | some u =>
        cases pt m x t with
        | none => rfl
        | some v => rfl
theorem rectK_no {m : Mx} {x y r t : Int} {k : Nat} (h : rectK m x y r t k = none) : ∀ j, k ≤ j → rectK m x y r t j = none
  | 0, hj => by
    obtain rfl : k = 0 := by omega
    exact h
  | j + 1, hj => by
    by_cases hk : k = j + 1
    · rw [← hk]
      exact h
    · unfold rectK
      rw [rectK_no h j (by omega)]
      rfl
section
variable {w0 w w' w1 : World} {g : Nat} {m : Mx} {ns ps : Slc} {l : List Int} {h : Int × Int} {T : List Sg} {a : ByteArray}
attribute [local irreducible] Ld Sh.St Nw Nn LdS
theorem sum_of {x y n e : Int} (hr : (n, e) = sumF [x, y]) : (e = 0 → sum2 x y = some n) ∧ (e ≠ 0 → e = 2 ∧ sum2 x y = none) := by
  unfold sum2
  rw [← hr]
  refine ⟨fun h => if_pos h, fun h => ⟨?_, if_neg h⟩⟩
  unfold sumF at hr
  split at hr
  · cases hr
    exact absurd rfl h
  · cases hr
    rfl
theorem c_rect (H : Pn w0 w g m ns l h ps T) (hl : l.length = 4) (hT : T.length ≤ 100) : C147 (some ⟨g, 0, none⟩) w (fun w1 => ∃ ps' T' ns' l', rectF m (l.getD 0 0) (l.getD 1 0) (l.getD 2 0) (l.getD 3 0) = some T' ∧ Pn w0 w1 g m ns' l' h ps' (T ++ T')) fun v w1 => v = gu 2 ∧ rectF m (l.getD 0 0) (l.getD 1 0) (l.getD 2 0) (l.getD 3 0) = none ∧ Ext (· = g) w0 w1 := by
  refine T147 _ _ _ _ ?_
  unfold S147
  have weak : ∀ {a b : World}, Ext (fun _ => False) a b → Ext (· = g) a b := fun e => e.mono fun _ _ e => e.elim
  have P1 := H.keep (Ext.refl _ w).drew
  have hsz : w.drew.heap.size = w.heap.size := rfl
  generalize w.drew = u at P1 ⊢
  refine Nn.of ?_
  rw [add_lit, Nat.zero_add]
  refine Ld.of P1.blk rfl (ld_iv (i := 0) P1.num (by omega) rfl (Nn.of ?_))
  rw [add_lit, Nat.zero_add]
  refine Ld.of P1.blk rfl (ld_iv (i := 1) P1.num (by omega) rfl (Nn.of ?_))
  rw [add_lit, Nat.zero_add]
  refine Ld.of P1.blk rfl (ld_iv (i := 2) P1.num (by omega) rfl ?_)
  generalize l.getD 0 0 = x, l.getD 1 0 = y, l.getD 2 0 = wd
  refine (Hn.start u).nw fun u2 H2 => ?_
  have P2 := P1.keep H2.ext
  refine (c_sum (l := [x, wd]) (IRow.of (H2.get 0 rfl) rfl fun i hi => by
    match i, hi with
    | 0, _ => rfl
    | 1, _ => rfl) (by simp)).mono ?_
  rintro n e u3 ⟨hr, e3⟩
  have P3 := P2.keep e3
  obtain ⟨s1, s2⟩ := sum_of hr
  refine (c_mustI n e _).mono ?_ ?_
  rotate_left
  · rintro v u4 ⟨hne, rfl, rfl⟩
    obtain ⟨rfl, h2⟩ := s2 hne
    exact ⟨rfl, by unfold rectF; rw [h2]; rfl, P3.ext⟩
  rintro r u4 ⟨rfl, rfl, rfl⟩
  have hx := s1 rfl
  refine Nn.of ?_
  rw [add_lit, Nat.zero_add]
  refine Ld.of P3.blk rfl (ld_iv (i := 3) P3.num (by omega) rfl ?_)
  generalize l.getD 3 0 = ht
  refine (Hn.start u4).nw fun u5 H5 => ?_
  have P5 := P3.keep H5.ext
  refine (c_sum (l := [y, ht]) (IRow.of (H5.get 0 rfl) rfl fun i hi => by
    match i, hi with
    | 0, _ => rfl
    | 1, _ => rfl) (by simp)).mono ?_
  rintro n e u6 ⟨hr, e6⟩
  have P6 := P5.keep e6
  obtain ⟨s1, s2⟩ := sum_of hr
  refine (c_mustI n e _).mono ?_ ?_
  rotate_left
  · rintro v u7 ⟨hne, rfl, rfl⟩
    obtain ⟨rfl, h2⟩ := s2 hne
    exact ⟨rfl, by unfold rectF; rw [hx, h2]; rfl, P6.ext⟩
  rintro t u7 ⟨rfl, rfl, rfl⟩
  have hy := s1 rfl
  have hF := rect_K (m := m) hx hy
  refine ⟨fun n st v => ∃ (k : Nat) (L : List Sg) (ps' : Slc), st = (k : Int) ∧ k ≤ 4 ∧ n = 4 - k ∧ rectK m x y r t k = some L ∧ L.length = k ∧ Pn w0 v g m ns l h ps' (T ++ L), 4, ⟨0, [], ps, rfl, by omega, rfl, rfl, rfl, by rw [List.append_nil]; exact P6⟩, ?_⟩
  rintro n st v ⟨k, L, ps', rfl, hk, rfl, hL, hLl, Pk⟩
  unfold S147L1
  refine Br.dec (fun q => ⟨by omega, by omega, crn x y r t k, ?_, ?_⟩) fun q => ?_
  · rw [Int.toNat_natCast]
    have hk4 : k < 4 := by omega
    match k, hk4 with
    | 0, _ => rfl
    | 1, _ => rfl
    | 2, _ => rfl
    | 3, _ => rfl
  · refine (Hn.start v).nw fun v2 H2 => ?_
    simp only [List.nil_append, add_lit, Nat.zero_add] at H2 ⊢
    iterate 2 (refine H2.st 0 rfl (by simp) fun _ H2 => ?_; simp only [List.set_cons_zero, List.set_cons_succ] at H2)
    have Pv := Pk.keep H2.ext
    have hwrap : IntKind.i64.wrap ((k : Int) + 1) = ((k + 1 : Nat) : Int) := by rw [i64_id (by omega)]; rfl
    have bad : pt m (crn x y r t k).1 (crn x y r t k).2 = none → rectF m x y wd ht = none := fun hp => by
      rw [hF, rectK_no (k := k + 1) (by unfold rectK; rw [hL]; simp only [Option.bind_some, hp, Option.bind_none]) 4 (by omega)]
      rfl
    refine Br.eq (fun q2 => ?_) fun q2 => ?_
    · iterate 2 refine H2.ld 0 rfl rfl ?_
      refine (c_point Pv _ _).mono ?_ ?_
      · rintro p v5 ⟨hp, e5⟩
        refine (c_put (Pv.keep e5) (by rw [List.length_append]; omega) (mvS p)).mono ?_
        rintro v6 ⟨ps2, P6⟩
        refine ⟨4 - (k + 1), by omega, k + 1, L ++ [mvS p], ps2, hwrap, by omega, rfl, ?_, by rw [List.length_append, List.length_singleton]; omega, by rw [← List.append_assoc]; exact P6⟩
        unfold rectK
        rw [hL, Option.bind_some, hp, Option.bind_some, if_pos (by omega)]
      · rintro v' v5 ⟨rfl, hp, e5⟩
        exact ⟨rfl, bad hp, (Pv.keep e5).ext⟩
    · iterate 2 refine H2.ld 0 rfl rfl ?_
      refine (c_point Pv _ _).mono ?_ ?_
      · rintro p v5 ⟨hp, e5⟩
        refine (c_put (Pv.keep e5) (by rw [List.length_append]; omega) (lnS p)).mono ?_
        rintro v6 ⟨ps2, P6⟩
        refine ⟨4 - (k + 1), by omega, k + 1, L ++ [lnS p], ps2, hwrap, by omega, rfl, ?_, by rw [List.length_append, List.length_singleton]; omega, by rw [← List.append_assoc]; exact P6⟩
        unfold rectK
        rw [hL, Option.bind_some, hp, Option.bind_some, if_neg (by omega)]
      · rintro v' v5 ⟨rfl, hp, e5⟩
        exact ⟨rfl, bad hp, (Pv.keep e5).ext⟩
  · have hk4 : k = 4 := by omega
    subst hk4
    refine (c_put Pk (by rw [List.length_append]; omega) clS).mono ?_
    rintro v6 ⟨ps2, P6⟩
    exact ⟨ps2, L ++ [clS], ns, l, by rw [hF, hL]; rfl, by rw [← List.append_assoc]; exact P6⟩
theorem getD_drop (l : List Int) (k i : Nat) : (l.drop k).getD i 0 = l.getD (k + i) 0 := by
  rw [List.getD_eq_getElem?_getD, List.getD_eq_getElem?_getD, List.getElem?_drop]
theorem draw_m (m : Mx) (h : Int × Int) (l : List Int) : drawF [109] m h l = (pt m (l.getD 0 0) (l.getD 1 0)).bind fun p => some [mvS p] := rfl
theorem draw_l (m : Mx) (h : Int × Int) (l : List Int) : drawF [108] m h l = (pt m (l.getD 0 0) (l.getD 1 0)).bind fun p => some [lnS p] := rfl
theorem draw_c (m : Mx) (h : Int × Int) (l : List Int) : drawF [99] m h l = (pt m (l.getD 0 0) (l.getD 1 0)).bind fun p => (pt m (l.getD 2 0) (l.getD 3 0)).bind fun q => (pt m (l.getD 4 0) (l.getD 5 0)).bind fun r => some [cvS p q r] := rfl
theorem draw_v (m : Mx) (h : Int × Int) (l : List Int) : drawF [118] m h l = (pt m (l.getD 0 0) (l.getD 1 0)).bind fun p => (pt m (l.getD 2 0) (l.getD 3 0)).bind fun q => some [cvS h p q] := rfl
theorem draw_y (m : Mx) (h : Int × Int) (l : List Int) : drawF [121] m h l = (pt m (l.getD 0 0) (l.getD 1 0)).bind fun p => (pt m (l.getD 2 0) (l.getD 3 0)).bind fun q => some [cvS p q q] := rfl
theorem draw_h (m : Mx) (h : Int × Int) (l : List Int) : drawF [104] m h l = some [clS] := rfl
theorem draw_re (m : Mx) (h : Int × Int) (l : List Int) : drawF [114, 101] m h l = rectF m (l.getD 0 0) (l.getD 1 0) (l.getD 2 0) (l.getD 3 0) := rfl
theorem c_draw (H : Pn w0 w g m ns l h ps T) (hl : l.length = (takes (bl a)).length) (hT : T.length ≤ 100) (hk : bl a ∈ ([[109], [108], [99], [118], [121], [104], [114, 101], [87], [87, 42]] : List By)) : C84 (some ⟨g, 0, none⟩) a w (fun w1 => ∃ ps' T' ns' l', drawF (bl a) m h l = some T' ∧ Pn w0 w1 g m ns' l' h ps' (T ++ T')) fun v w1 => v = gu 2 ∧ drawF (bl a) m h l = none ∧ Ext (· = g) w0 w1 := by
  refine T84 _ _ _ _ _ ?_
  unfold S84
  have hT' : T.length ≤ 1000 := by omega
  have len : ∀ {t : By} {n : Nat}, bl a = t → (takes t).length = n → l.length = n := fun h1 h2 => by rw [hl, h1, h2]
  have two : ∀ {w2 : World} {p : Int × Int} {R : World → Prop}, (∀ w3, Hn w2 w3 [(w2.heap.size, [.int .i64 p.1, .int .i64 p.2], 43)] → R w3) → Nw w2 (.cells #[.int .i64 0, .int .i64 0] 43) fun v1 => Sh.St v1 ⟨w2.heap.size, 0, none⟩ (.int .i64 p.1) fun v2 => Sh.St v2 ((⟨w2.heap.size, 0, none⟩ : Addr).add 1) (.int .i64 p.2) R := by
    intro w2 p R k
    refine (Hn.start w2).nw fun w3 H3 => ?_
    simp only [List.nil_append, add_lit, Nat.zero_add] at H3 ⊢
    iterate 2 (refine H3.st 0 rfl (by simp) fun _ H3 => ?_; simp only [List.set_cons_zero, List.set_cons_succ] at H3)
    exact k _ H3
  refine BrB (fun q => ?_) fun n1 => ?_
  · have q : bl a = [109] := q
    have h2 := len q (n := 2) (by decide +kernel)
    rw [q, draw_m]
    refine (c_next H (by omega)).mono ?_ ?_
    · rintro p w2 ⟨hp, P2, e2⟩
      refine (c_put P2 hT' (mvS p)).mono ?_
      rintro w3 ⟨ps3, P3⟩
      exact ⟨ps3, [mvS p], _, _, by rw [hp]; rfl, P3⟩
    · rintro v w2 ⟨rfl, hp, e2⟩
      exact ⟨rfl, by rw [hp]; rfl, H.ext.tr e2⟩
  refine BrB (fun q => ?_) fun n2 => ?_
  · have q : bl a = [108] := q
    have h2 := len q (n := 2) (by decide +kernel)
    rw [q, draw_l]
    refine (c_next H (by omega)).mono ?_ ?_
    · rintro p w2 ⟨hp, P2, e2⟩
      refine (c_put P2 hT' (lnS p)).mono ?_
      rintro w3 ⟨ps3, P3⟩
      exact ⟨ps3, [lnS p], _, _, by rw [hp]; rfl, P3⟩
    · rintro v w2 ⟨rfl, hp, e2⟩
      exact ⟨rfl, by rw [hp]; rfl, H.ext.tr e2⟩
  refine BrB (fun q => ?_) fun n3 => ?_
  · have q : bl a = [99] := q
    have h2 := len q (n := 6) (by decide +kernel)
    rw [q, draw_c]
    refine (c_next H (by omega)).mono ?_ ?_
    rotate_left
    · rintro v w2 ⟨rfl, hp, e2⟩
      exact ⟨rfl, by rw [hp]; rfl, H.ext.tr e2⟩
    rintro p w2 ⟨hp, P2, e2⟩
    refine two fun w3 H3 => ?_
    have P3 := P2.keep H3.ext
    have g2 := P2.blk.lt
    refine (c_next P3 (by rw [List.length_drop]; omega)).mono ?_ ?_
    rotate_left
    · rintro v w4 ⟨rfl, hq, e4⟩
      rw [getD_drop, getD_drop] at hq
      exact ⟨rfl, by rw [hp]; simp only [Option.bind_some]; rw [show pt m (l.getD 2 0) (l.getD 3 0) = none from hq]; rfl, P3.ext.tr e4⟩
    rintro qq w4 ⟨hq, P4, e4⟩
    rw [getD_drop, getD_drop] at hq
    have b1 := e4.blk (H3.get 0 rfl) (by omega)
    refine two fun w5 H5 => ?_
    have b1 := H5.ext.blk b1 id
    have P5 := P4.keep H5.ext
    have g4 := P4.blk.lt
    have P6 := P5.keep (Ext.refl _ w5).drew
    refine ⟨fun w' => Blk w' w2.heap.size ([.int .i64 p.1, .int .i64 p.2] : List Value).toArray 43 ∧ Blk w' w4.heap.size ([.int .i64 qq.1, .int .i64 qq.2] : List Value).toArray 43, ⟨b1, H5.get 0 rfl⟩, ?_⟩
    simp only [add_lit, Nat.zero_add]
    refine LdS.of (fun w' h' => h'.1) rfl (LdS.of (fun w' h' => h'.1) rfl (LdS.of (fun w' h' => h'.2) rfl (LdS.of (fun w' h' => h'.2) rfl ?_)))
    have b2 := H5.get 0 rfl
    have b1' : Blk w5.drew w2.heap.size ([.int .i64 p.1, .int .i64 p.2] : List Value).toArray 43 := b1
    have b2' : Blk w5.drew w4.heap.size ([.int .i64 qq.1, .int .i64 qq.2] : List Value).toArray 43 := b2
    refine (c_next P6 (by rw [List.length_drop, List.length_drop]; omega)).mono ?_ ?_
    rotate_left
    · rintro v w7 ⟨rfl, hr, e7⟩
      rw [List.drop_drop, getD_drop, getD_drop] at hr
      exact ⟨rfl, by rw [hp]; simp only [Option.bind_some]; rw [show pt m (l.getD 2 0) (l.getD 3 0) = some qq from hq]; simp only [Option.bind_some]; rw [show pt m (l.getD 4 0) (l.getD 5 0) = none from hr]; rfl, P6.ext.tr e7⟩
    rintro r w7 ⟨hr, P7, e7⟩
    rw [List.drop_drop, getD_drop, getD_drop] at hr
    refine ⟨⟨e7.blk b1' (by omega), e7.blk b2' (by omega)⟩, (c_curve P7 hT' p qq r).mono ?_⟩
    rintro w8 ⟨ps8, P8⟩
    exact ⟨ps8, [cvS p qq r], _, _, by rw [hp]; simp only [Option.bind_some]; rw [show pt m (l.getD 2 0) (l.getD 3 0) = some qq from hq]; simp only [Option.bind_some]; rw [show pt m (l.getD 4 0) (l.getD 5 0) = some r from hr]; rfl, P8⟩
  refine BrB (fun q => ?_) fun n4 => ?_
  · have q : bl a = [118] := q
    have h2 := len q (n := 4) (by decide +kernel)
    rw [q, draw_v]
    refine (c_next H (by omega)).mono ?_ ?_
    rotate_left
    · rintro v w2 ⟨rfl, hp, e2⟩
      exact ⟨rfl, by rw [hp]; rfl, H.ext.tr e2⟩
    rintro p w2 ⟨hp, P2, e2⟩
    refine two fun w3 H3 => ?_
    have P3 := (P2.keep H3.ext).keep (Ext.refl _ w3).drew
    have g2 := P2.blk.lt
    have b1 : Blk w3.drew w2.heap.size ([.int .i64 p.1, .int .i64 p.2] : List Value).toArray 43 := H3.get 0 rfl
    refine ⟨fun w' => Blk w' w2.heap.size ([.int .i64 p.1, .int .i64 p.2] : List Value).toArray 43 ∧ ∃ n', Blk w' g (pnrow m n' h ps).toArray 141, ⟨b1, _, P3.blk⟩, Nn.of ?_⟩
    simp only [add_lit, Nat.zero_add]
    refine ldS_mk (x := h.1) (fun w' h' => by obtain ⟨_, n', hb⟩ := h'; rw [hb.cell]; rfl) (ldS_mk (x := h.2) (fun w' h' => by obtain ⟨_, n', hb⟩ := h'; rw [hb.cell]; rfl) ?_)
    refine LdS.of (fun w' h' => h'.1) rfl (LdS.of (fun w' h' => h'.1) rfl ?_)
    refine (c_next P3 (by rw [List.length_drop]; omega)).mono ?_ ?_
    rotate_left
    · rintro v w4 ⟨rfl, hq, e4⟩
      rw [getD_drop, getD_drop] at hq
      exact ⟨rfl, by rw [hp]; simp only [Option.bind_some]; rw [show pt m (l.getD 2 0) (l.getD 3 0) = none from hq]; rfl, P3.ext.tr e4⟩
    rintro qq w4 ⟨hq, P4, e4⟩
    rw [getD_drop, getD_drop] at hq
    refine ⟨⟨e4.blk b1 (by omega), _, P4.blk⟩, (c_curve P4 hT' h p qq).mono ?_⟩
    rintro w8 ⟨ps8, P8⟩
    exact ⟨ps8, [cvS h p qq], _, _, by rw [hp]; simp only [Option.bind_some]; rw [show pt m (l.getD 2 0) (l.getD 3 0) = some qq from hq]; rfl, P8⟩
  refine BrB (fun q => ?_) fun n5 => ?_
  · have q : bl a = [121] := q
    have h2 := len q (n := 4) (by decide +kernel)
    rw [q, draw_y]
    refine (c_next H (by omega)).mono ?_ ?_
    rotate_left
    · rintro v w2 ⟨rfl, hp, e2⟩
      exact ⟨rfl, by rw [hp]; rfl, H.ext.tr e2⟩
    rintro p w2 ⟨hp, P2, e2⟩
    refine two fun w3 H3 => ?_
    have P3 := P2.keep H3.ext
    have g2 := P2.blk.lt
    refine (c_next P3 (by rw [List.length_drop]; omega)).mono ?_ ?_
    rotate_left
    · rintro v w4 ⟨rfl, hq, e4⟩
      rw [getD_drop, getD_drop] at hq
      exact ⟨rfl, by rw [hp]; simp only [Option.bind_some]; rw [show pt m (l.getD 2 0) (l.getD 3 0) = none from hq]; rfl, P3.ext.tr e4⟩
    rintro qq w4 ⟨hq, P4, e4⟩
    rw [getD_drop, getD_drop] at hq
    have b1 := e4.blk (H3.get 0 rfl) (by omega)
    refine two fun w5 H5 => ?_
    have b1 := H5.ext.blk b1 id
    have b2 := H5.get 0 rfl
    have P5 := P4.keep H5.ext
    simp only [add_lit, Nat.zero_add]
    refine Ld.of b1 rfl (Ld.of b1 rfl (Ld.of b2 rfl (Ld.of b2 rfl (Ld.of b2 rfl (Ld.of b2 rfl ?_)))))
    refine (c_curve P5 hT' p qq qq).mono ?_
    rintro w8 ⟨ps8, P8⟩
    exact ⟨ps8, [cvS p qq qq], _, _, by rw [hp]; simp only [Option.bind_some]; rw [show pt m (l.getD 2 0) (l.getD 3 0) = some qq from hq]; rfl, P8⟩
  refine BrB (fun q => ?_) fun n6 => ?_
  · have q : bl a = [104] := q
    rw [q, draw_h]
    refine (c_put H hT' clS).mono ?_
    rintro w3 ⟨ps3, P3⟩
    exact ⟨ps3, [clS], _, _, rfl, P3⟩
  refine BrB (fun q => ?_) fun n7 => ?_
  · have q : bl a = [114, 101] := q
    have h2 := len q (n := 4) (by decide +kernel)
    rw [q, draw_re]
    exact c_rect H h2 hT
  · have hW : bl a = [87] ∨ bl a = [87, 42] := by
      simp only [List.mem_cons, List.not_mem_nil, or_false] at hk
      rcases hk with q | q | q | q | q | q | q | q | q
      · exact absurd q n1
      · exact absurd q n2
      · exact absurd q n3
      · exact absurd q n4
      · exact absurd q n5
      · exact absurd q n6
      · exact absurd q n7
      · exact .inl q
      · exact .inr q
    exact ⟨ps, [], ns, l, by rcases hW with q | q <;> rw [q] <;> rfl, by rw [List.append_nil]; exact H⟩
end
end Pat
end Go.Proofs.YtjbeembbnkmpeaaDoor

/- Paths: operands as numbers, known names, the current point; what Do does, plain. Conditions: sizes. -/
namespace Go.Proofs.YtjbeembbnkmpeaaDoor
namespace Pat
open Sh Mat Fix Opr
set_option linter.unusedVariables false
set_option linter.unusedSimpArgs false
set_option maxRecDepth 4000
set_option maxHeartbeats 4000000
def nine : List By := [[109], [108], [99], [118], [121], [104], [114, 101], [87], [87, 42]]
def nmO : List Ob → Option (List Int)
  | [] => some []
  | o :: r => (numV o).bind fun n => (nmO r).bind fun l => some (n :: l)
theorem nmO_len : ∀ {L : List Ob} {l : List Int}, nmO L = some l → l.length = L.length
  | [], l, h => by cases h; rfl
  | o :: r, l, h => by
    unfold nmO at h
    cases hn : numV o with
    | none => rw [hn] at h; cases h
    | some n =>
      rw [hn, Option.bind_some] at h
      cases hr : nmO r with
      | none => rw [hr] at h; cases h
      | some l' =>
        rw [hr, Option.bind_some] at h
        cases h
        rw [List.length_cons, List.length_cons, nmO_len hr]
/-- What is left of the reading at place i, with l read so far. -/
def nmAt (L : List Ob) (i : Nat) (l : List Int) : Option (List Int) := (nmO (L.drop i)).bind fun r => some (l ++ r)
theorem nmAt_0 (L : List Ob) : nmAt L 0 [] = nmO L := by
  unfold nmAt
  rw [List.drop_zero]
  cases nmO L <;> rfl
theorem nmAt_end (L : List Ob) (l : List Int) : nmAt L L.length l = some l := by
  unfold nmAt
  rw [List.drop_length]
  simp [nmO]
theorem nmAt_no {L : List Ob} {i : Nat} (hi : i < L.length) (l : List Int) (hn : numV L[i] = none) : nmAt L i l = none := by
  unfold nmAt
  rw [List.drop_eq_getElem_cons hi]
  conv => lhs; unfold nmO
  rw [hn]
  rfl
theorem nmAt_yes {L : List Ob} {i : Nat} (hi : i < L.length) (l : List Int) {n : Int} (hn : numV L[i] = some n) : nmAt L i l = nmAt L (i + 1) (l ++ [n]) := by
  unfold nmAt
  rw [List.drop_eq_getElem_cons hi]
  conv => lhs; unfold nmO
  rw [hn]
  cases nmO (L.drop (i + 1)) with
  | none => rfl
  | some r => simp
theorem chk0 {nm dd : By} {L : List Ob} (h : chkF nm L dd = 0) : takes nm ≠ [63] ∧ (takes nm).length = L.length ∧ fitsT (takes nm) L = true := by
  unfold chkF at h
  split at h
  · cases h
  · rename_i h1
    split at h
    · cases h
    · rename_i h2
      split at h
      · cases h
      · rename_i h3
        exact ⟨h1, Decidable.not_not.1 h2, by simpa using h3⟩
theorem nine_takes : ∀ nm ∈ nine, ∀ b ∈ takes nm, b = 110 := by
  intro nm h
  simp only [nine, List.mem_cons, List.not_mem_nil, or_false] at h
  rcases h with rfl | rfl | rfl | rfl | rfl | rfl | rfl | rfl | rfl <;> decide +kernel
theorem nine_kinds {nm d : By} {L : List Ob} (hn : nm ∈ nine) (hc : chkF nm L d = 0) : ∀ o ∈ L, o.1 = 2 ∨ o.1 = 3 := by
  obtain ⟨_, hlen, hfit⟩ := chk0 hc
  intro o ho
  obtain ⟨i, hi⟩ := List.mem_iff_getElem?.1 ho
  have hlt := (List.getElem?_eq_some_iff.1 hi).1
  have hb : (takes nm)[i]? = some (takes nm)[i] := List.getElem?_eq_getElem (by omega)
  have hfk : fitsK (takes nm)[i] o.1 = true := by
    by_cases hh : fitsK (takes nm)[i] o.1 = true
    · exact hh
    · rw [fitsT_no hb hi (by simpa using hh)] at hfit
      cases hfit
  rw [nine_takes nm hn _ (List.getElem_mem (by omega))] at hfk
  simpa [fitsK] using hfk
/-- A path: its segments, the point where the last part began, whether it clips. -/
structure Pa where
  L : List Sg
  bg : Int × Int
  cl : Bool
def curS (L : List Sg) (bg : Int × Int) : Int × Int := match L.getLast? with
  | none => (0, 0)
  | some s => if s.1 = 4 then bg else (s.2.2.2.2.2.1, s.2.2.2.2.2.2)
def bgF (bg : Int × Int) (s : Sg) : Int × Int := if s.1 = 1 then (s.2.2.2.2.2.1, s.2.2.2.2.2.2) else bg
def clipN (nm : By) : Bool := decide (nm = [87] ∨ nm = [87, 42])
def doP (p : Pa) (nm d : By) (L : List Ob) (m : Mx) : Int × Pa := if nm ∉ nine then (8, p) else if chkF nm L d ≠ 0 then (chkF nm L d, p)
  else if nm ≠ [109] ∧ nm ≠ [114, 101] ∧ p.L = [] then (29, p)
  else match nmO L with
    | none => (2, p)
    | some l => match drawF nm m (curS p.L p.bg) l with
      | none => (2, p)
      | some T => if p.L.length + T.length ≤ 8192 then (0, ⟨p.L ++ T, T.foldl bgF p.bg, p.cl || clipN nm⟩) else (6, p)
theorem draw_len {nm : By} {m : Mx} {h : Int × Int} {l : List Int} {T : List Sg} (hd : drawF nm m h l = some T) : T.length ≤ 5 := by
  have fin : ∀ {T' : List Sg}, T'.length ≤ 5 → some T' = some T → T.length ≤ 5 := fun h1 h2 => by cases h2; exact h1
  have b : ∀ {α : Type} {o : Option α} {f : α → Option (List Sg)}, o.bind f = some T → ∃ y, f y = some T := fun {α o f} h => by
    cases o with
    | none => cases h
    | some y => exact ⟨y, h⟩
  unfold drawF at hd
  split at hd
  · obtain ⟨_, h⟩ := b hd; exact fin (by simp) h
  split at hd
  · obtain ⟨_, h⟩ := b hd; exact fin (by simp) h
  split at hd
  · obtain ⟨_, h⟩ := b hd; obtain ⟨_, h⟩ := b h; obtain ⟨_, h⟩ := b h; exact fin (by simp) h
  split at hd
  · obtain ⟨_, h⟩ := b hd; obtain ⟨_, h⟩ := b h; exact fin (by simp) h
  split at hd
  · obtain ⟨_, h⟩ := b hd; obtain ⟨_, h⟩ := b h; exact fin (by simp) h
  split at hd
  · exact fin (by decide) hd
  split at hd
  · unfold rectF at hd
    obtain ⟨_, h⟩ := b hd; obtain ⟨_, h⟩ := b h; obtain ⟨_, h⟩ := b h; obtain ⟨_, h⟩ := b h; obtain ⟨_, h⟩ := b h; obtain ⟨_, h⟩ := b h; exact fin (by simp) h
  · exact fin (by decide) hd
theorem draw_here {nm : By} (m : Mx) (h h' : Int × Int) (l : List Int) (hn : nm = [109] ∨ nm = [114, 101]) : drawF nm m h l = drawF nm m h' l := by
  rcases hn with rfl | rfl <;> rfl
section
variable {w0 w w' w1 : World} {s : Slc} {L : List Ob} {a d : ByteArray}
attribute [local irreducible] Ld Sh.St Nw Nn LdS
theorem c_knows (a : ByteArray) (w : World) : C78 a w fun r w1 => r = decide (bl a ∈ nine) ∧ Ext (fun _ => False) w w1 := by
  refine T78 _ _ _ ?_
  unfold S78
  refine (Hn.start w).nw (cs := strsB nine) fun w2 H => ?_
  refine (c_contains (SL.blk (H.get 0 rfl) rfl) (by decide) a).mono ?_
  rintro r w3 ⟨rfl, rfl⟩
  exact ⟨rfl, H.ext⟩
theorem c_nums (h : OV w s L) (hl : L.length ≤ 100000) (hk : ∀ o ∈ L, o.1 = 2 ∨ o.1 = 3) : C83 (a, s, d) w fun r e w1 => Ext (fun _ => False) w w1 ∧ match nmO L with
    | none => e = 2
    | some l => e = 0 ∧ IO w w1 r l := by
  refine T83 (a, s, d) _ _ ?_
  unfold S83
  refine (Hn.start w).nw fun w2 H => ?_
  simp only [List.nil_append, add_lit, Nat.zero_add] at H ⊢
  have hlen := h.1
  refine H.ld 0 rfl rfl ?_
  refine ⟨fun n st w3 => ∃ (i : Nat) (l : List Int), st.2 = (i : Int) ∧ i ≤ L.length ∧ n = L.length - i ∧ l.length ≤ i ∧ IO w w3 st.1 l ∧ Ext (fun _ => False) w w3 ∧ nmO L = nmAt L i l, L.length, ⟨0, [], rfl, by omega, rfl, Nat.le_refl _, IO.nil _ _, H.ext, (nmAt_0 L).symm⟩, ?_⟩
  clear H
  rintro n ⟨r, st⟩ w3 ⟨i, l, hst, hi, rfl, hll, ho, e3, hn⟩
  simp only at hst ho
  subst hst
  unfold S83L1
  dsimp only
  rw [hlen]
  refine Br.dec (fun q => ⟨by omega, by omega, ?_⟩) fun q => ?_
  · have hlt : i < L.length := by omega
    have hLi : L[i]? = some L[i] := List.getElem?_eq_getElem hlt
    obtain ⟨ad, ha, c0, c1, c2, c3, c4, c5⟩ := (h.keep e3).get hLi
    have hkk := hk L[i] (List.getElem_mem hlt)
    rw [ha, Int.toNat_natCast]
    refine Nn.of (Ld.mk c0 (Ld.mk c1 (Ld.mk c2 (Ld.mk c3 (Ld.mk c4 (Ld.mk c5 ?_))))))
    refine (Hn.start w3).nw fun w4 H => ?_
    simp only [List.nil_append, add_lit, Nat.zero_add] at H ⊢
    iterate 6 (refine H.st 0 rfl (by simp) fun _ H => ?_; simp only [List.set_cons_zero, List.set_cons_succ] at H)
    have num : ∀ (B : World → Prop) (K : Slc → World → Prop) (v : World), Ext (fun _ => False) w3 v → (numV L[i] = none → ∀ w5, Ext (fun _ => False) w w5 → B w5) → (∀ x r' w5, numV L[i] = some x → IO w w5 r' (l ++ [x]) → Ext (fun _ => False) w w5 → K r' w5) →
        C143 (L[i].1, L[i].2.1, L[i].2.2.1, L[i].2.2.2.1, L[i].2.2.2.2.1, L[i].2.2.2.2.2) v fun r28 r29 vw30 => Br (!r29) (B vw30) (Nw vw30 (.cells #[.int .i64 r28] 2) fun vw31 =>
            Rn Tryd.prog (Builtin.append_ #[24, 24] 24 #[Slc.v r, Slc.v ((⟨some ⟨vw30.heap.size, 0, none⟩, 1, 1⟩ : Slc))]) vw31 Slc.v fun (x32 : Slc) vw33 => K x32 vw33) := by
      intro B K v ev k1 k2
      refine (c_number L[i] v).mono ?_
      rintro x ok w5 ⟨hv, e5⟩
      have e35 := ev.tr e5
      cases hx : numV L[i] with
      | none =>
        rw [hx] at hv
        cases hv
        exact Br.t rfl (k1 hx w5 (e3.tr e35))
      | some y =>
        rw [hx] at hv
        cases hv
        exact Br.f rfl (IO.snoc (w0 := w) ⟨ho.1.keep e35 fun _ _ e => e, ho.2⟩ (e3.tr e35) (by omega) fun r' w' ho' e' => k2 x r' w' hx ho' e')
    have hw : IntKind.i64.wrap ((i : Int) + 1) = ((i + 1 : Nat) : Int) := by rw [i64_id (by omega)]; rfl
    rw [hw]
    have rest : ∀ x r' w5, numV L[i] = some x → IO w w5 r' (l ++ [x]) → Ext (fun _ => False) w w5 → ∃ m', m' < L.length - i ∧ ∃ (k : Nat) (l' : List Int), ((i + 1 : Nat) : Int) = (k : Int) ∧ k ≤ L.length ∧ m' = L.length - k ∧ l'.length ≤ k ∧ IO w w5 r' l' ∧ Ext (fun _ => False) w w5 ∧ nmO L = nmAt L k l' := fun x r' w5 hx ho' e' =>
      ⟨L.length - (i + 1), by omega, i + 1, l ++ [x], rfl, by omega, rfl, by rw [List.length_append, List.length_singleton]; omega, ho', e', hn.trans (nmAt_yes hlt l hx)⟩
    refine H.ld 0 rfl rfl (Br.ne (fun q2 => H.ld 0 rfl rfl (Br.ne (fun q3 => (hkk.elim q2 q3).elim) fun q3 => ?_)) fun q2 => ?_)
    · iterate 6 refine H.ld 0 rfl rfl ?_
      exact num _ _ _ H.ext (fun hx w5 e5 => by rw [hn, nmAt_no hlt l hx]; exact ⟨e5, by trivial⟩) rest
    · iterate 6 refine H.ld 0 rfl rfl ?_
      exact num _ _ _ H.ext (fun hx w5 e5 => by rw [hn, nmAt_no hlt l hx]; exact ⟨e5, by trivial⟩) rest
  · have : i = L.length := by omega
    subst this
    rw [nmAt_end] at hn
    rw [hn]
    exact ⟨e3, by trivial, ho⟩
end
end Pat
end Go.Proofs.YtjbeembbnkmpeaaDoor

/- Paths in memory; (*Path).Do. Conditions: sizes; the table of spaces is laid. -/
namespace Go.Proofs.YtjbeembbnkmpeaaDoor
namespace Pat
open Sh Mat Fix Opr
set_option linter.unusedVariables false
set_option linter.unusedSimpArgs false
set_option maxRecDepth 8000
set_option maxHeartbeats 8000000
theorem BrNB {a b : ByteArray} {A B : Prop} (h1 : ¬ bl a = bl b → A) (h2 : bl a = bl b → B) : Br (!(a.toList == b.toList)) A B := by
  rw [eqB]
  by_cases h : bl a = bl b
  · rw [decide_eq_true h]
    exact h2 h
  · rw [decide_eq_false h]
    exact h1 h
def parow (sg : Slc) (bg : Int × Int) (cl : Bool) : List Value := [Slc.v sg, .int .i64 bg.1, .int .i64 bg.2, .bool cl]
/-- A path, in its block. -/
structure PV (w : World) (b : Nat) (p : Pa) (sg : Slc) : Prop where
  blk : Blk w b (parow sg p.bg p.cl).toArray 134
  seg : Row w sg 67 7 (sgs p.L)
  own : ∀ j, sg.own j → j ≠ b
  few : p.L.length ≤ 8192
section
variable {w0 w w' w1 w7 : World} {s sg : Slc} {L : List Ob} {a d : ByteArray} {b : Nat} {p : Pa} {m : Mx}
theorem PV.keepF {F : Nat → Prop} (h : PV w b p sg) (he : Ext F w w') (hb : ¬ F b) (ho : ∀ j, sg.own j → ¬ F j) : PV w' b p sg :=
  ⟨he.blk h.blk hb, h.seg.keep he ho, h.own, h.few⟩
theorem PV.keep (h : PV w b p sg) (he : Ext (fun _ => False) w w') : PV w' b p sg := h.keepF he id fun _ _ e => e
theorem PV.len (h : PV w b p sg) : sg.len = p.L.length := by
  have := h.seg.1
  rw [sgs_len] at this
  omega
theorem PV.sv (h : PV w b p sg) : SV w sg p.L := SV.row h.seg
attribute [local irreducible] Ld Sh.St Nw Nn LdS
theorem c_current (h : PV w b p sg) (hne : p.L ≠ []) : C81 (some ⟨b, 0, none⟩) w fun r w1 => r = curS p.L p.bg ∧ Ext (fun _ => False) w w1 := by
  refine T81 _ _ _ ?_
  unfold S81
  refine (Hn.start w).nw fun w2 H => ?_
  simp only [List.nil_append, add_lit, Nat.zero_add] at H ⊢
  have H := H.drew
  have P2 := h.keep H.ext
  have hl0 : 0 < p.L.length := List.length_pos_iff.2 hne
  have hfew := h.few
  refine ⟨fun w' => PV w' b p sg, P2, Nn.of ?_⟩
  refine LdS.of (fun w' (h' : PV w' b p sg) => h'.blk) rfl (Nn.of ?_)
  refine LdS.of (fun w' (h' : PV w' b p sg) => h'.blk) rfl ?_
  have hi : IntKind.i64.wrap (((sg.len : Nat) : Int) - 1) = ((p.L.length - 1 : Nat) : Int) := by rw [h.len, i64_id (by omega)]; omega
  rw [hi, Int.toNat_natCast]
  have hlast : p.L[p.L.length - 1]? = some p.L[p.L.length - 1] := List.getElem?_eq_getElem (by omega)
  have hget : p.L.getLast? = some p.L[p.L.length - 1] := by rw [List.getLast?_eq_getElem?, hlast]
  generalize p.L[p.L.length - 1] = o at hlast hget
  obtain ⟨ad, ha, hc⟩ := P2.sv.get hlast
  have hlen := h.len
  rw [ha]
  refine ⟨by omega, by omega, Nn.of ?_⟩
  have cell : ∀ (j : Nat) (v : Value), (sgrow o)[j]? = some v → ∀ w', PV w' b p sg → w'.cell? ((ad.add ((p.L.length - 1) * 7)).add j) = some v := fun j v hj w' h' => by
    obtain ⟨ad', ha', hc'⟩ := h'.sv.get hlast
    rw [ha] at ha'
    cases ha'
    exact hc' j v hj
  have cell0 : ∀ w', PV w' b p sg → w'.cell? (ad.add ((p.L.length - 1) * 7)) = some (.int .i64 o.1) := fun w' h' => by
    have := cell 0 _ rfl w' h'
    rw [add_add', Nat.add_zero] at this
    exact this
  refine ldS_mk cell0 (ldS_mk (cell 1 _ rfl) (ldS_mk (cell 2 _ rfl) (ldS_mk (cell 3 _ rfl) (ldS_mk (cell 4 _ rfl) (ldS_mk (cell 5 _ rfl) (ldS_mk (cell 6 _ rfl) ?_))))))
  refine H.nw fun w3 H3 => ?_
  refine ⟨h.keep H3.ext, ?_⟩
  simp only [List.cons_append, List.nil_append] at H3
  iterate 7 (refine H3.st 1 rfl (by simp) fun _ H3 => ?_; simp only [List.set_cons_zero, List.set_cons_succ] at H3)
  refine H3.ld 1 rfl rfl ?_
  refine Br.ne (fun q => ?_) fun q => ?_
  · iterate 2 refine H3.ld 1 rfl rfl ?_
    iterate 2 (refine H3.st 0 rfl (by simp) fun _ H3 => ?_; simp only [List.set_cons_zero, List.set_cons_succ] at H3)
    iterate 2 refine H3.ld 0 rfl rfl ?_
    refine ⟨?_, H3.ext⟩
    unfold curS
    rw [hget]
    exact (if_neg q).symm
  · have P3 := h.keep H3.ext
    refine Nn.of ?_
    simp only [add_lit, Nat.zero_add]
    refine Ld.of P3.blk rfl (Ld.of P3.blk rfl ?_)
    iterate 2 (refine H3.st 0 rfl (by simp) fun _ H3 => ?_; simp only [List.set_cons_zero, List.set_cons_succ] at H3)
    iterate 2 refine H3.ld 0 rfl rfl ?_
    refine ⟨?_, H3.ext⟩
    unfold curS
    rw [hget]
    exact (if_pos q).symm
/-- The result is stored, and read again. -/
theorem c_fin {R : Int → World → Prop} {eb : Nat} {t : TypeId} {v0 : Value} {r : Int} (hb : Blk w7 eb ([v0] : List Value).toArray t) (k : ∀ w8, Ext (· = eb) w7 w8 → R r w8) : Sh.St w7 ⟨eb, 0, none⟩ (.int .i64 r) fun w8 => CD76 ⟨eb, 0, none⟩ none w8 fun w9 => Ld w9 ⟨eb, 0, none⟩ (Value.int .i64) fun (y : Int) => R y w9 := by
  refine stB hb (Nat.lt_succ_self 0) fun w8 g8 e8 => T76_nil _ _ _ ?_
  unfold S76_nil
  refine Ld.mk (x := r) ?_ (k w8 e8)
  rw [g8.cell]
  rfl
theorem c_pan {R : Int → World → Prop} {t : TypeId} {v0 : Value} {r : Int} (w3 : World) (hb : Blk w7 w3.heap.size ([v0] : List Value).toArray t) (k : ∀ w8, Ext (· = w3.heap.size) w7 w8 → R r w8) : S23P w3 R (gu r) w7 := by
  unfold S23P
  refine T76_T136 _ _ _ _ ?_
  unfold S76_T136
  have hlt := hb.lt
  refine (Hn.start w7).nw fun w8 H => ?_
  simp only [List.nil_append] at H
  refine H.st 0 rfl (by simp) fun w9 H => ?_
  simp only [List.set_cons_zero, List.set_cons_succ] at H
  refine H.ld 0 rfl rfl ?_
  refine stB (H.ext.blk hb id) (Nat.lt_succ_self 0) fun w10 g10 e10 => ?_
  refine Ld.mk (x := r) ?_ (k w10 ((H.ext.mono fun _ _ e => e.elim).tr e10))
  rw [g10.cell]
  rfl
/-- What Do gives. -/
def DoR (w w1 : World) (b : Nat) (sg : Slc) (r : Int) (q : Int × Pa) : Prop := ∃ sg', q.1 = r ∧ PV w1 b q.2 sg' ∧ Ext (fun j => j = b ∨ sg.own j) w w1 ∧ ∀ j, sg'.own j → sg.own j ∨ w.heap.size ≤ j
theorem nine_clip : ∀ l ∈ nine, (((l.getD 0 0).toNat : Int) == 87) = clipN l ∧ 0 < l.length := by decide
theorem c_do (hs : AS w) (hp : PV w b p sg) (h : OV w s L) (hl : L.length ≤ 9223372036854775807) : C23 (some ⟨b, 0, none⟩) (a, s, d) m w fun r w1 => DoR w w1 b sg r (doP p (bl a) (bl d) L m) := by
  refine T23 _ (a, s, d) m _ _ ?_
  unfold S23
  have hbl := hp.blk.lt
  have hlen := hp.len
  have hfew := hp.few
  refine (Hn.start w).nw fun w2 H => ?_
  refine H.nw fun w3 H => ?_
  have s3 : w.heap.size < w3.heap.size := H.lt 0 rfl
  refine H.nw fun w4 H => ?_
  simp only [List.cons_append, List.nil_append, add_lit, Nat.zero_add] at H ⊢
  let base : List (Nat × List Value × TypeId) := [(w.heap.size, [.string a, Slc.v s, .string d], 63), (w2.heap.size, mrow m, 23), (w3.heap.size, [.int .i64 0], 38)]
  have H : Hn w w4 base := H
  have l0 := H.lt 0 rfl
  have l1 := H.lt 1 rfl
  have l2 := H.lt 2 rfl
  have same : ∀ {w7 w8 : World} {r : Int}, Ext (fun _ => False) w w7 → Ext (· = w3.heap.size) w7 w8 → doP p (bl a) (bl d) L m = (r, p) → DoR w w8 b sg r (doP p (bl a) (bl d) L m) := fun {w7 w8 r} e7 e8 hd => by
    rw [hd]
    refine ⟨sg, rfl, (hp.keep e7).keepF e8 (by omega) fun j hj e => ?_, (e7.trans e8 (fun _ e => e.elim) fun j hj e => ?_), fun j hj => .inl hj⟩
    · have := hp.seg.own_lt hj
      omega
    · omega
  refine (c_need _ 1 _).mono ?_ ?_
  rotate_left
  · rintro v w5 ⟨rfl, hh, rfl⟩
    cases hh
  rintro w5 ⟨_, rfl⟩
  refine H.ld 0 rfl rfl ?_
  refine (c_knows a _).mono ?_
  rintro r w6 ⟨rfl, e6⟩
  have H := H.keep e6
  refine (c_need _ 8 _).mono ?_ ?_
  rotate_left
  · rintro v w7 ⟨rfl, hh, rfl⟩
    have hh := of_decide_eq_false hh
    exact c_pan w3 (H.get 2 rfl) fun w8 e8 => same H.ext e8 (by unfold doP; rw [if_pos hh])
  rintro w7 ⟨hk, rfl⟩
  have hk := of_decide_eq_true hk
  have H := H.drew
  refine ⟨fun w' => Hn w w' base, H, ?_⟩
  iterate 6 refine LdS.of (fun w' (h' : Hn w w' base) => h'.get 0 rfl) rfl ?_
  refine (c_check (hs.keep H.ext) (h.keep H.ext) hl).mono ?_
  rintro r w8 ⟨rfl, e8⟩
  have H := H.keep e8
  refine ⟨H, (c_mustO a d s _ _).mono ?_ ?_⟩
  rotate_left
  · rintro v w9 ⟨hne, rfl, e9⟩
    have H := H.keep e9
    exact c_pan w3 (H.get 2 rfl) fun w8 e8 => same H.ext e8 (by unfold doP; rw [if_neg (fun hn => hn hk), if_pos hne])
  rintro r w9 ⟨hck, e9⟩
  have H := H.keep e9
  iterate 6 refine H.ld 1 rfl rfl ?_
  have hL6 : L.length ≤ 6 := by
    obtain ⟨_, h1, _⟩ := chk0 hck
    have := (takes_low (bl a)).1
    omega
  have hgb : b < w9.heap.size := by have := H.size; omega
  have k0 := H.lt 0 rfl
  have k1 := H.lt 1 rfl
  have k2 := H.lt 2 rfl
  have sw := H.size
  refine H.nw' (cs := pnrow m nilS (0, 0) nilS) fun w10 H10 e10 => ?_
  have g10 := H10.get 3 rfl
  have H : Hn w w10 base := H.keep e10
  have gl10 := g10.lt
  clear H10
  have nb : ∀ j, j = w9.heap.size → w.heap.size ≤ j ∧ j ∉ base.map (·.1) := fun j hj => by
    simp only [base, List.map_cons, List.map_nil, List.mem_cons, List.not_mem_nil, or_false]
    omega
  refine Join.intro ?_
  have main : ∀ (h0 : Int × Int) (w11 : World), Hn w w11 base → Blk w11 w9.heap.size (pnrow m nilS h0 nilS).toArray 141 → ¬ (bl a ≠ [109] ∧ bl a ≠ [114, 101] ∧ p.L = []) → (∀ l, drawF (bl a) m h0 l = drawF (bl a) m (curS p.L p.bg) l) →
      S23J1 w (some ⟨b, 0, none⟩) w3 w9 (fun r w1 => DoR w w1 b sg r (doP p (bl a) (bl d) L m)) () w11 := by
    intro h0 w11 H g11 hguard hdr
    have hdo : doP p (bl a) (bl d) L m = (match nmO L with
        | none => (2, p)
        | some l => match drawF (bl a) m h0 l with
          | none => (2, p)
          | some T => if p.L.length + T.length ≤ 8192 then (0, ⟨p.L ++ T, T.foldl bgF p.bg, p.cl || clipN (bl a)⟩) else (6, p)) := by
      unfold doP
      rw [if_neg (fun hn => hn hk), if_neg (fun hn => hn hck), if_neg hguard]
      cases nmO L with
      | none => rfl
      | some l =>
        dsimp only
        rw [hdr l]
        all_goals (cases drawF (bl a) m (curS p.L p.bg) l <;> rfl)
    have gl := g11.lt
    unfold S23J1
    simp only [add_lit, Nat.zero_add]
    iterate 3 refine H.ld 0 rfl rfl ?_
    refine (c_nums (h.keep H.ext) (by omega) (nine_kinds hk hck)).mono ?_
    rintro r49 e50 w12 ⟨e12, hnum⟩
    have H := H.keep e12
    refine (c_mustN r49 e50 _).mono ?_ ?_
    rotate_left
    · rintro v w13 ⟨hne, rfl, rfl⟩
      cases hn : nmO L with
      | none =>
        rw [hn] at hnum hdo
        obtain rfl : e50 = 2 := hnum
        exact c_pan w3 (H.get 2 rfl) fun w8 e8 => same H.ext e8 hdo
      | some l =>
        rw [hn] at hnum
        exact absurd hnum.1 hne
    rintro r w13 ⟨rfl, rfl, rfl⟩
    cases hn : nmO L with
    | none =>
      rw [hn] at hnum
      cases hnum
    | some l =>
    rw [hn] at hnum hdo
    obtain ⟨_, hio⟩ := hnum
    dsimp only at hdo
    refine Nn.of ?_
    rw [add_lit, Nat.zero_add]
    refine stB (e12.blk g11 id) (by simp [pnrow, mrow]) fun w14 g14 e14 => ?_
    rw [pn_set6] at g14
    have H14 := H.other e14 nb
    have s14 := e14.size
    have s12 := e12.size
    have P0 : Pn w14 w14 w9.heap.size m r l h0 nilS [] := by
      refine ⟨g14, hio.iv.keepF e14 fun j hj e => by have e : j = w9.heap.size := e; have := hio.2 j hj; omega, ?_, Row.nil _ _ _, by omega, fun j hj => ⟨by have := hio.1.own_lt hj; omega, by have := hio.2 j hj; omega⟩, fun j hj => (by obtain ⟨a', ha', _⟩ := hj; cases ha'), Ext.refl _ _⟩
      rcases hio.1.2 with rfl | ⟨_, _, _, _, hcap, _⟩
      · exact Nat.le_refl _
      · exact hcap
    refine H14.ld 0 rfl rfl ?_
    refine (c_draw P0 (by rw [nmO_len hn, (chk0 hck).2.1]) (by simp) hk).mono ?_ ?_
    rotate_left
    · rintro v w15 ⟨rfl, hd, e15⟩
      rw [hd] at hdo
      have H15 := H14.other e15 nb
      exact c_pan w3 (H15.get 2 rfl) fun w8 e8 => same H15.ext e8 hdo
    rintro w15 ⟨ps', T', ns', l', hd, P15⟩
    rw [hd] at hdo
    dsimp only at hdo
    simp only [List.nil_append] at P15
    have hT5 := draw_len hd
    have H15 := H14.other P15.ext nb
    have hp15 := hp.keep H15.ext
    refine Nn.of ?_
    refine Ld.of (hp15.blk.drew) rfl (Nn.of ?_)
    rw [add_lit, Nat.zero_add]
    refine Ld.of P15.blk.drew rfl ?_
    have hpl := P15.plen
    rw [i64_id (by omega)]
    have H15 := H15.drew
    refine (c_need _ 6 _).mono ?_ ?_
    rotate_left
    · rintro v w16 ⟨rfl, hh, rfl⟩
      have hh := of_decide_eq_false hh
      rw [if_neg (by omega)] at hdo
      exact c_pan w3 (H15.get 2 rfl) fun w8 e8 => same H15.ext e8 hdo
    rintro w16 ⟨hh, rfl⟩
    have hh := of_decide_eq_true hh
    rw [if_pos (by omega)] at hdo
    have H16 := H15.drew
    have P16 := (P15.keep (Ext.refl _ w15).drew).keep (Ext.refl _ w15.drew).drew
    generalize w15.drew.drew = u at H16 P16 ⊢
    have hpu := hp.keep H16.ext
    refine ⟨fun w' => Blk w' b (parow sg p.bg p.cl).toArray 134 ∧ Blk w' w9.heap.size (pnrow m ns' h0 ps').toArray 141, ⟨hpu.blk, P16.blk⟩, Nn.of ?_⟩
    refine LdS.of (fun w' h' => h'.1) rfl (Nn.of ?_)
    rw [add_lit, Nat.zero_add]
    refine LdS.of (fun w' h' => h'.2) rfl ?_
    obtain ⟨s', v2, r1, r2, r3, r4, r5⟩ := elSg.app (ty := 64) hpu.seg P16.par.view (sgs_one T') (by omega) (by omega)
    refine ⟨s', v2, r1, Nn.of ?_⟩
    have su := H16.size
    have so : ∀ j, sg.own j → j < w.heap.size ∧ j ≠ b := fun j hj => ⟨hp.seg.own_lt hj, hp.own j hj⟩
    have so' : ∀ j, s'.own j → sg.own j ∨ w.heap.size ≤ j := fun j hj => (r5 j hj).imp id fun h => by omega
    have sob : ∀ j, s'.own j → j ≠ b := fun j hj => (so' j hj).elim (fun h => (so j h).2) fun h => by omega
    refine stB (r4.blk hpu.blk fun hj => (so b hj).2 rfl) (by simp [parow]) fun v3 b3 e3 => ?_
    have b3 : Blk v3 b (parow s' p.bg p.cl).toArray 134 := b3
    have Ev3 : Ext (fun j => j = b ∨ sg.own j) u v3 := r4.trans e3 (fun _ h => .inr h) fun j _ h => .inl h
    have gne : ¬ (w9.heap.size = b ∨ sg.own w9.heap.size) := fun h => h.elim (fun h => by omega) fun h => by have := (so _ h).1; omega
    have g3 := Ev3.blk P16.blk gne
    refine Nn.of ?_
    rw [add_lit, Nat.zero_add]
    refine Ld.of g3 rfl ?_
    have hrow3 : Row v3 s' 67 7 (sgs (p.L ++ T')) := by
      rw [sgs_app]
      exact r2.keep e3 fun j hj e => sob j hj e
    have hps3 : SV v3 ps' T' := (SV.row P16.par).keepF Ev3 fun j hj h => by
      have h1 := P16.pown j hj
      have h2 := P16.ng
      rcases h with h | h
      · have h : j = b := h
        omega
      · have := (so j h).1
        omega
    have eb3 : Blk v3 w3.heap.size ([.int .i64 0] : List Value).toArray 38 := Ev3.blk (H16.get 2 rfl) fun h => h.elim (fun h => by omega) fun h => by have := (so _ h).1; omega
    have op3 : Blk v3 w.heap.size ([.string a, Slc.v s, .string d] : List Value).toArray 63 := Ev3.blk (H16.get 0 rfl) fun h => h.elim (fun h => by omega) fun h => by have := (so _ h).1; omega
    have sv3 := Ev3.size
    refine ⟨fun n st v => ∃ i : Nat, st = (i : Int) ∧ i ≤ T'.length ∧ n = T'.length - i ∧ Blk v b (parow s' ((T'.take i).foldl bgF p.bg) p.cl).toArray 134 ∧ Ext (· = b) v3 v, T'.length, ⟨0, rfl, by omega, rfl, b3, Ext.refl _ _⟩, ?_⟩
    rintro n st v ⟨i, rfl, hi, rfl, bv, ev⟩
    unfold S23L1
    rw [hpl]
    have sv := ev.size
    have hpsv := hps3.keepF ev fun j hj e => by
      have e : j = b := e
      have h1 := P16.pown j hj
      have h2 := P16.ng
      omega
    refine Br.dec (fun q => ⟨by omega, by omega, ?_⟩) fun q => ?_
    · have hlt : i < T'.length := by omega
      have ho : T'[i]? = some T'[i] := List.getElem?_eq_getElem hlt
      have htake : T'.take (i + 1) = T'.take i ++ [T'[i]] := by rw [List.take_add_one, ho]; rfl
      generalize T'[i] = o at ho htake
      obtain ⟨ad, ha, hc⟩ := hpsv.get ho
      have hc0 := hc 0 _ rfl
      rw [add_add', Nat.add_zero] at hc0
      rw [ha, Int.toNat_natCast]
      refine Nn.of (Ld.mk hc0 (Ld.mk (hc 1 _ rfl) (Ld.mk (hc 2 _ rfl) (Ld.mk (hc 3 _ rfl) (Ld.mk (hc 4 _ rfl) (Ld.mk (hc 5 _ rfl) (Ld.mk (hc 6 _ rfl) ?_)))))))
      refine (Hn.start v).nw fun v5 H5 => ?_
      simp only [List.nil_append, add_lit, Nat.zero_add] at H5 ⊢
      iterate 7 (refine H5.st 0 rfl (by simp) fun _ H5 => ?_; simp only [List.set_cons_zero, List.set_cons_succ] at H5)
      have bv5 := H5.ext.blk bv id
      have ev5 : Ext (· = b) v3 _ := ev.tr (H5.ext.mono fun _ _ e => e.elim)
      refine H5.ld 0 rfl rfl ?_
      have hw : IntKind.i64.wrap ((i : Int) + 1) = ((i + 1 : Nat) : Int) := by rw [i64_id (by omega)]; rfl
      refine Br.eq (fun q2 => ?_) fun q2 => ?_
      · iterate 2 refine H5.ld 0 rfl rfl ?_
        refine Nn.of ?_
        simp only [add_lit, Nat.zero_add]
        refine stB bv5 (by simp [parow]) fun v6 b6 e6 => ?_
        refine stB b6 (by simp [parow]) fun v7 b7 e7 => ?_
        refine ⟨T'.length - (i + 1), by omega, i + 1, hw, by omega, rfl, ?_, (ev5.tr e6).tr e7⟩
        rw [htake, List.foldl_append]
        have : List.foldl bgF (List.foldl bgF p.bg (T'.take i)) [o] = (o.2.2.2.2.2.1, o.2.2.2.2.2.2) := if_pos q2
        rw [this]
        exact b7
      · refine ⟨T'.length - (i + 1), by omega, i + 1, hw, by omega, rfl, ?_, ev5⟩
        rw [htake, List.foldl_append]
        have : List.foldl bgF (List.foldl bgF p.bg (T'.take i)) [o] = List.foldl bgF p.bg (T'.take i) := if_neg q2
        rw [this]
        exact bv5
    · have hiT : i = T'.length := by omega
      subst hiT
      rw [List.take_length] at bv
      refine Nn.of ?_
      simp only [add_lit, Nat.zero_add]
      have fin : ∀ (c : Bool), c = (p.cl || clipN (bl a)) → Sh.St v ⟨b, 3, none⟩ (.bool c) fun v6 => Sh.St v6 ⟨w3.heap.size, 0, none⟩ (.int .i64 0) fun v7 => CD76 ⟨w3.heap.size, 0, none⟩ none v7 fun v8 => Ld v8 ⟨w3.heap.size, 0, none⟩ (Value.int .i64) fun (y : Int) => DoR w v8 b sg y (doP p (bl a) (bl d) L m) := by
        rintro c rfl
        refine stB bv (by simp [parow]) fun v6 b6 e6 => ?_
        refine c_fin ((ev.tr e6).blk eb3 (by omega)) fun v8 e8 => ?_
        rw [hdo]
        have Eall : Ext (· = b) v3 v6 := ev.tr e6
        have s6 := Eall.size
        refine ⟨s', rfl, ⟨e8.blk b6 (by omega), (hrow3.keep Eall fun j hj e => sob j hj e).keep e8 fun j hj e => ?_, sob, ?_⟩, ?_, so'⟩
        · have e : j = w3.heap.size := e
          rcases r5 j hj with h | h
          · have := (so j h).1
            omega
          · have := P16.ng
            have := P16.ext.size
            omega
        · show (p.L ++ T').length ≤ 8192
          rw [List.length_append]
          omega
        · refine ((H16.ext.trans Ev3 (fun _ e => e.elim) fun j _ h => h).trans Eall (fun _ h => h) fun j _ h => .inl h).trans e8 (fun _ h => h) fun j hj e => by omega
      refine Ld.of bv rfl ?_
      cases hcl : p.cl with
      | true =>
        refine Br.t rfl (Nn.of ?_)
        simp only [add_lit, Nat.zero_add]
        exact fin true (by rw [hcl]; rfl)
      | false =>
        refine Br.f rfl (Ld.of (ev.blk op3 (by omega)) rfl ?_)
        obtain ⟨q1, q2⟩ := nine_clip _ hk
        refine ⟨by omega, by rw [bl_size]; omega, Nn.of ?_⟩
        simp only [add_lit, Nat.zero_add]
        exact fin _ (by rw [hcl, Bool.false_or, ← q1]; congr 1; exact bAt_list a 0)
  refine H.ld 0 rfl rfl (BrNB (fun nm => ?_) fun qm => ?_)
  rotate_left
  · have qm : bl a = [109] := qm
    exact main (0, 0) w10 H g10 (fun h => h.1 qm) fun l => draw_here m _ _ l (.inl qm)
  refine H.ld 0 rfl rfl (BrNB (fun nre => ?_) fun qre => ?_)
  rotate_left
  · have qre : bl a = [114, 101] := qre
    exact main (0, 0) w10 H g10 (fun h => h.2.1 qre) fun l => draw_here m _ _ l (.inr qre)
  have hp10 := hp.keep H.ext
  refine Nn.of (Ld.of hp10.blk rfl ?_)
  refine (c_need _ 29 _).mono ?_ ?_
  rotate_left
  · rintro v w11 ⟨rfl, hh, rfl⟩
    have hh := of_decide_eq_false hh
    have hnil : p.L = [] := List.eq_nil_of_length_eq_zero (by omega)
    exact c_pan w3 (H.get 2 rfl) fun w8 e8 => same H.ext e8 (by unfold doP; rw [if_neg (fun hn => hn hk), if_neg (fun hn => hn hck), if_pos ⟨nm, nre, hnil⟩])
  rintro w11 ⟨hh, rfl⟩
  have hh := of_decide_eq_true hh
  have hne : p.L ≠ [] := fun e => by rw [e] at hlen; simp at hlen; omega
  refine (c_current hp10 hne).mono ?_
  rintro r w12 ⟨rfl, e12⟩
  have H := H.keep e12
  refine Nn.of ?_
  simp only [add_lit, Nat.zero_add]
  refine stB (e12.blk g10 id) (by simp [pnrow, mrow]) fun w13 g13 e13 => ?_
  refine stB g13 (by simp [pnrow, mrow]) fun w14 g14 e14 => ?_
  exact main (curS p.L p.bg) w14 (H.other (e13.tr e14) nb) g14 (fun h => hne h.2.2) fun l => rfl
end
end Pat
end Go.Proofs.YtjbeembbnkmpeaaDoor

/- Great structs in memory: read and written as one. Conditions: none. -/
namespace Go.Proofs.YtjbeembbnkmpeaaDoor
namespace Sh
set_option linter.unusedVariables false
set_option linter.unusedSimpArgs false
theorem Sig.cells_len : ∀ (ts : List Ty1) (x : Sig ts), (Sig.cells ts x).length = ts.length
  | [], _ => rfl
  | [t], _ => rfl
  | t :: u :: r, x => by
    show (_ :: Sig.cells (u :: r) x.2).length = _
    rw [List.length_cons, Sig.cells_len (u :: r) x.2]
    rfl
theorem LdT.mk {w : World} {b o : Nat} : ∀ (ts : List Ty1) (i : Nat) (x : Sig ts) (K : Sig ts → Prop), (∀ j v, (Sig.cells ts x)[j]? = some v → w.cell? ⟨b, o + i + j, none⟩ = some v) → K x → LdT w ⟨b, o, none⟩ i ts K
  | [], _, _, _, _, k => k
  | [t], i, x, K, h, k => by
    have h0 := h 0 (t.v x) rfl
    refine Ld.mk (x := x) ?_ k
    rw [add_lit]
    exact h0
  | t :: u :: r, i, x, K, h, k => by
    have h0 := h 0 (t.v x.1) rfl
    refine Ld.mk (x := x.1) ?_ (LdT.mk (u :: r) (i + 1) x.2 (fun y => K (x.1, y)) (fun j v hj => ?_) k)
    · rw [add_lit]
      exact h0
    · have := h (j + 1) v hj
      rw [show o + (i + 1) + j = o + i + (j + 1) by omega]
      exact this
theorem LdST.mk {S : World → Prop} {b o : Nat} : ∀ (ts : List Ty1) (i : Nat) (x : Sig ts) (K : Sig ts → Prop), (∀ w, S w → ∀ j v, (Sig.cells ts x)[j]? = some v → w.cell? ⟨b, o + i + j, none⟩ = some v) → K x → LdST S ⟨b, o, none⟩ i ts K
  | [], _, _, _, _, k => k
  | [t], i, x, K, h, k => ⟨x, fun w hw => by rw [add_lit]; exact h w hw 0 (t.v x) rfl, k⟩
  | t :: u :: r, i, x, K, h, k => ⟨x.1, fun w hw => by rw [add_lit]; exact h w hw 0 (t.v x.1) rfl, LdST.mk (u :: r) (i + 1) x.2 (fun y => K (x.1, y)) (fun w hw j v hj => by
      have := h w hw (j + 1) v hj
      rw [show o + (i + 1) + j = o + i + (j + 1) by omega]
      exact this) k⟩
theorem cells_blk {w : World} {b : Nat} {pre post : List Value} {t : TypeId} {ts : List Ty1} {x : Sig ts} (h : Blk w b (pre ++ (Sig.cells ts x ++ post)).toArray t) {j : Nat} {v : Value} (hj : (Sig.cells ts x)[j]? = some v) : w.cell? ⟨b, pre.length + j, none⟩ = some v := by
  have hl := (List.getElem?_eq_some_iff.1 hj).1
  rw [h.cell, List.getElem?_toArray, List.getElem?_append_right (by omega), Nat.add_sub_cancel_left, List.getElem?_append_left hl]
  exact hj
theorem LdT.blk {w : World} {b o : Nat} {pre post : List Value} {t : TypeId} {ts : List Ty1} {x : Sig ts} {K : Sig ts → Prop} (h : Blk w b (pre ++ (Sig.cells ts x ++ post)).toArray t) (ho : pre.length = o) (k : K x) : LdT w ⟨b, o, none⟩ 0 ts K :=
  LdT.mk ts 0 x K (fun j v hj => by rw [← ho]; exact cells_blk h hj) k
theorem LdST.blk {S : World → Prop} {b o : Nat} {pre post : List Value} {t : TypeId} {ts : List Ty1} {x : Sig ts} {K : Sig ts → Prop} (h : ∀ w, S w → Blk w b (pre ++ (Sig.cells ts x ++ post)).toArray t) (ho : pre.length = o) (k : K x) : LdST S ⟨b, o, none⟩ 0 ts K :=
  LdST.mk ts 0 x K (fun w hw j v hj => by rw [← ho]; exact cells_blk (h w hw) hj) k
theorem StT.of {b o : Nat} : ∀ (ts : List Ty1) (i : Nat) (x : Sig ts) (w : World) (K : World → Prop), StL b (o + i) (Sig.cells ts x) w K → StT ⟨b, o, none⟩ i ts x w K
  | [], _, _, _, _, h => h
  | [t], i, x, w, K, h => by
    show St w ((⟨b, o, none⟩ : Addr).add i) (t.v x) K
    rw [add_lit]
    exact h
  | t :: u :: r, i, x, w, K, h => by
    show St w ((⟨b, o, none⟩ : Addr).add i) (t.v x.1) fun w' => StT ⟨b, o, none⟩ (i + 1) (u :: r) x.2 w' K
    rw [add_lit]
    obtain ⟨h1, h2⟩ := h
    exact ⟨h1, StT.of (u :: r) (i + 1) x.2 _ K h2⟩
theorem Hn.stT {w0 w : World} {L : List (Nat × List Value × TypeId)} {b o : Nat} {t : TypeId} {i : Nat} {pre zs post : List Value} {ts : List Ty1} {x : Sig ts} {K : World → Prop} (h : Hn w0 w L) (hi : L[i]? = some (b, pre ++ (zs ++ post), t)) (ho : pre.length = o) (hz : zs.length = ts.length)
    (k : ∀ w2, Hn w0 w2 (L.set i (b, pre ++ (Sig.cells ts x ++ post), t)) → K w2) : StT ⟨b, o, none⟩ 0 ts x w K :=
  StT.of ts 0 x w K (Hn.stL (Sig.cells ts x) zs pre post (o + 0) w h hi ho (by rw [Sig.cells_len]; exact hz) k)
theorem Hn.ldT {w0 w : World} {L : List (Nat × List Value × TypeId)} {b o : Nat} {t : TypeId} {i : Nat} {pre post : List Value} {ts : List Ty1} {x : Sig ts} {K : Sig ts → Prop} (h : Hn w0 w L) (hi : L[i]? = some (b, pre ++ (Sig.cells ts x ++ post), t)) (ho : pre.length = o) (k : K x) : LdT w ⟨b, o, none⟩ 0 ts K :=
  LdT.blk (h.get i hi) ho k
/-- One cell after another of an old block is stored. -/
theorem stL_blk {b : Nat} {t : TypeId} {K : World → Prop} : ∀ (vs zs pre post : List Value) (o : Nat) (w : World), Blk w b (pre ++ (zs ++ post)).toArray t → pre.length = o → zs.length = vs.length → (∀ w2, Blk w2 b (pre ++ (vs ++ post)).toArray t → Ext (· = b) w w2 → K w2) → StL b o vs w K
  | [], zs, pre, post, o, w, h, ho, hz, k => by
    have : zs = [] := List.eq_nil_of_length_eq_zero hz
    subst this
    exact k w h (Ext.refl _ _)
  | v :: vs, [], pre, post, o, w, h, ho, hz, k => by cases hz
  | v :: vs, z :: zs, pre, post, o, w, h, ho, hz, k => by
    refine ⟨h.can (by rw [List.size_toArray, ← ho]; simp), ?_⟩
    have h2 := h.set o v
    have e : (pre ++ (z :: zs ++ post)).set o v = (pre ++ [v]) ++ (zs ++ post) := by
      rw [← ho, List.cons_append, set_at]
      simp
    rw [List.setIfInBounds_toArray, e] at h2
    refine stL_blk vs zs (pre ++ [v]) post (o + 1) _ h2 (by simp [ho]) (by simpa using hz) fun w3 h3 e3 => k w3 (by simpa using h3) (((Ext.refl (· = b) w).set (.inl rfl) v).tr e3)
theorem StT.blk {w : World} {b o : Nat} {t : TypeId} {pre zs post : List Value} {ts : List Ty1} {x : Sig ts} {K : World → Prop} (h : Blk w b (pre ++ (zs ++ post)).toArray t) (ho : pre.length = o) (hz : zs.length = ts.length)
    (k : ∀ w2, Blk w2 b (pre ++ (Sig.cells ts x ++ post)).toArray t → Ext (· = b) w w2 → K w2) : StT ⟨b, o, none⟩ 0 ts x w K :=
  StT.of ts 0 x w K (stL_blk (Sig.cells ts x) zs pre post (o + 0) w h ho (by rw [Sig.cells_len]; exact hz) k)
end Sh
end Go.Proofs.YtjbeembbnkmpeaaDoor

/- Paths: New, Segs, Same, Paint. Conditions: sizes; the table of painting operators is laid. -/
namespace Go.Proofs.YtjbeembbnkmpeaaDoor
namespace Pat
open Sh Mat Fix Opr
set_option linter.unusedVariables false
set_option linter.unusedSimpArgs false
set_option maxRecDepth 8000
set_option maxHeartbeats 8000000
instance sgDec : DecidableEq Sg := fun a b => decidable_of_iff (a.1 = b.1 ∧ a.2.1 = b.2.1 ∧ a.2.2.1 = b.2.2.1 ∧ a.2.2.2.1 = b.2.2.2.1 ∧ a.2.2.2.2.1 = b.2.2.2.2.1 ∧ a.2.2.2.2.2.1 = b.2.2.2.2.2.1 ∧ a.2.2.2.2.2.2 = b.2.2.2.2.2.2) (by
  obtain ⟨a1, a2, a3, a4, a5, a6, a7⟩ := a
  obtain ⟨b1, b2, b3, b4, b5, b6, b7⟩ := b
  simp only [Prod.mk.injEq])
/-- A row of segments of its own. -/
def SO (w0 w : World) (r : Slc) (L : List Sg) : Prop := Row w r 67 7 (sgs L) ∧ ∀ j, r.own j → w0.heap.size ≤ j
theorem SO.sv {w0 w : World} {r : Slc} {L : List Sg} (h : SO w0 w r L) : SV w r L := SV.row h.1
theorem SO.nil (w0 w : World) : SO w0 w nilS [] := ⟨Row.nil _ _ _, fun j hj => by obtain ⟨a, ha, _⟩ := hj; cases ha⟩
def pa0 : Pa := ⟨[], (0, 0), false⟩
section
variable {w0 w w' w1 w7 : World} {s s2 sg : Slc} {L M : List Sg} {b : Nat} {p : Pa}
theorem PV.new (h : Blk w b (parow nilS (0, 0) false).toArray 134) : PV w b pa0 nilS := ⟨h, Row.nil _ _ _, fun j hj => (by obtain ⟨a, ha, _⟩ := hj; cases ha), by decide⟩
attribute [local irreducible] Ld Sh.St Nw Nn LdS LdT LdST StT
theorem c_new (w : World) : C22 w fun r w1 => ∃ b, r = some ⟨b, 0, none⟩ ∧ w.heap.size ≤ b ∧ PV w1 b pa0 nilS ∧ Ext (fun _ => False) w w1 := by
  refine T22 _ _ ?_
  unfold S22
  refine (Hn.start w).nw fun w2 H => ?_
  exact ⟨_, rfl, Nat.le_refl _, PV.new (H.get 0 rfl), H.ext⟩
theorem c_clone (h : SV w s L) (hl : L.length ≤ 100000) : C86 s w fun r w1 => SO w w1 r L ∧ Ext (fun _ => False) w w1 := by
  refine T86 _ _ _ ?_
  unfold S86
  obtain ⟨p, n, c⟩ := s
  cases p with
  | none =>
    have : L = [] := by
      cases L with
      | nil => rfl
      | cons y r =>
        obtain ⟨a, ha, _⟩ := h.get (i := 0) rfl
        cases ha
    subst this
    exact ⟨SO.nil _ _, Ext.refl _ _⟩
  | some a =>
    show Nw _ _ _
    refine (Hn.start w).nw (cs := []) fun w2 H => ?_
    have hb := H.get 0 rfl
    have e2 := H.ext
    have hlen := h.1
    obtain ⟨s', w', r1, r2, r3, r4, r5⟩ := elSg.app (ty := 64) (s := ⟨some ⟨w.heap.size, 0, none⟩, 0, 0⟩) (xs := []) (w := w2) ⟨by simp, .inr ⟨_, #[], rfl, hb, Nat.le_refl _, by simp, by simp⟩⟩ (h.keep e2).2 (sgs_one L) (by simp only at hlen ⊢; omega) (by simp only at hlen ⊢; omega)
    have ho : ∀ j, s'.own j → w.heap.size ≤ j := fun j hj => by
      rcases r5 j hj with hh | hh
      · obtain ⟨a', ha, rfl⟩ := hh
        cases ha
        exact Nat.le_refl _
      · have := e2.size; omega
    refine ⟨s', w', r1, ⟨by simpa using r2, ho⟩, Ext.new e2 r4 fun j hj => ?_⟩
    obtain ⟨a', ha, rfl⟩ := hj
    cases ha
    exact Nat.le_refl _
theorem c_segs (h : PV w b p sg) : C25 (some ⟨b, 0, none⟩) w fun r w1 => SO w w1 r p.L ∧ Ext (fun _ => False) w w1 := by
  refine T25 _ _ _ ?_
  unfold S25
  refine Br.f rfl (Nn.of (Ld.of h.blk rfl ?_))
  exact c_clone h.sv (by have := h.few; omega)
theorem c_segs0 (w : World) : C25 none w fun r w1 => r = nilS ∧ w1 = w := by
  refine T25 _ _ _ ?_
  unfold S25
  exact Br.t rfl ⟨rfl, rfl⟩
theorem seg_eq (o q : Sg) : (!((o.1 == q.1) && (((o.2.1 == q.2.1) && ((o.2.2.1 == q.2.2.1) && true)) && (((o.2.2.2.1 == q.2.2.2.1) && ((o.2.2.2.2.1 == q.2.2.2.2.1) && true)) && (((o.2.2.2.2.2.1 == q.2.2.2.2.2.1) && ((o.2.2.2.2.2.2 == q.2.2.2.2.2.2) && true)) && true))))) = decide (o ≠ q) := by
  obtain ⟨a1, a2, a3, a4, a5, a6, a7⟩ := o
  obtain ⟨b1, b2, b3, b4, b5, b6, b7⟩ := q
  rw [Bool.eq_iff_iff]
  simp
  omega
theorem c_equal (h : SV w s L) (h2 : SV w s2 M) (hl : L.length ≤ 100000) : C88 s s2 w fun r w1 => r = decide (L = M) ∧ Ext (fun _ => False) w w1 := by
  refine T88 _ _ _ _ ?_
  unfold S88
  rw [h.1, h2.1]
  refine Br.ne (fun q => ⟨?_, Ext.refl _ _⟩) fun q => ?_
  · symm
    rw [decide_eq_false_iff_not]
    rintro rfl
    exact q rfl
  have hLM : L.length = M.length := by omega
  refine ⟨fun n st w3 => ∃ i : Nat, st = (i : Int) ∧ i ≤ L.length ∧ n = L.length - i ∧ L.take i = M.take i ∧ Ext (fun _ => False) w w3, L.length, ⟨0, rfl, by omega, rfl, by simp, Ext.refl _ _⟩, ?_⟩
  rintro n st w3 ⟨i, rfl, hi, rfl, hall, e3⟩
  unfold S88L1
  rw [h.1, h2.1]
  refine Br.dec (fun q => ?_) fun q => ?_
  · have e3 := e3.drew
    have hL : L[i]? = some L[i] := List.getElem?_eq_getElem (by omega)
    have hM : M[i]? = some M[i] := List.getElem?_eq_getElem (by omega)
    have tL : L.take (i + 1) = L.take i ++ [L[i]] := by rw [List.take_add_one, hL]; rfl
    have tM : M.take (i + 1) = M.take i ++ [M[i]] := by rw [List.take_add_one, hM]; rfl
    generalize L[i] = o at hL tL
    generalize M[i] = q' at hM tM
    obtain ⟨a1, ha1, c1⟩ := (h.keep e3).get hL
    obtain ⟨a2, ha2, c2⟩ := (h2.keep e3).get hM
    have c10 := c1 0 _ rfl
    rw [add_add', Nat.add_zero] at c10
    have c20 := c2 0 _ rfl
    rw [add_add', Nat.add_zero] at c20
    rw [ha1, ha2, Int.toNat_natCast]
    refine ⟨by omega, by omega, Nn.of (Ld.mk c10 (Ld.mk (c1 1 _ rfl) (Ld.mk (c1 2 _ rfl) (Ld.mk (c1 3 _ rfl) (Ld.mk (c1 4 _ rfl) (Ld.mk (c1 5 _ rfl) (Ld.mk (c1 6 _ rfl) ?_)))))))⟩
    refine ⟨by omega, by omega, Nn.of (Ld.mk c20 (Ld.mk (c2 1 _ rfl) (Ld.mk (c2 2 _ rfl) (Ld.mk (c2 3 _ rfl) (Ld.mk (c2 4 _ rfl) (Ld.mk (c2 5 _ rfl) (Ld.mk (c2 6 _ rfl) (Lt.of ?_))))))))⟩
    rw [seg_eq]
    refine Br.dec (fun hne => ⟨?_, e3⟩) fun heq => ?_
    · symm
      rw [decide_eq_false_iff_not]
      rintro rfl
      rw [hL] at hM
      cases hM
      exact hne rfl
    · refine ⟨L.length - (i + 1), by omega, i + 1, by rw [i64_id (by omega)]; rfl, by omega, rfl, ?_, e3⟩
      rw [tL, tM, hall, Decidable.not_not.1 heq]
  · refine ⟨?_, e3⟩
    symm
    rw [decide_eq_true_iff]
    rwa [List.take_of_length_le (by omega), List.take_of_length_le (by omega)] at hall
theorem c_same (h : SV w s L) (h2 : SV w s2 M) (hl : L.length ≤ 100000) : C28 s s2 w fun r w1 => r = decide (L = M) ∧ Ext (fun _ => False) w w1 := by
  refine T28 _ _ _ _ ?_
  unfold S28
  exact c_equal h h2 hl
end
end Pat
end Go.Proofs.YtjbeembbnkmpeaaDoor

/- Paths: Paint. Conditions: sizes; the table of painting operators is laid. -/
namespace Go.Proofs.YtjbeembbnkmpeaaDoor
namespace Pat
open Sh Mat Fix Opr
set_option linter.unusedVariables false
set_option linter.unusedSimpArgs false
set_option maxRecDepth 8000
set_option maxHeartbeats 8000000
def ten : List By := [[83], [115], [102], [70], [102, 42], [66], [66, 42], [98], [98, 42], [110]]
/-- What a painting operator does: how it paints, whether it closes the path. -/
def howN (nm : By) : Int × Bool := if nm = [83] then (4, false) else if nm = [115] then (4, true) else if nm = [102] then (1, false) else if nm = [70] then (1, false) else if nm = [102, 42] then (3, false)
  else if nm = [66] then (5, false) else if nm = [66, 42] then (7, false) else if nm = [98] then (5, true) else if nm = [98, 42] then (7, true) else (0, false)
theorem how_8 : ∀ nm ∈ ten, ior .i64 (howN nm).1 8 = (howN nm).1 + 8 := by decide
theorem how_no {nm : By} (h : nm ∉ ten) : howN nm = (0, false) := by
  simp only [ten, List.mem_cons, List.not_mem_nil, or_false, not_or] at h
  obtain ⟨h1, h2, h3, h4, h5, h6, h7, h8, h9, h10⟩ := h
  unfold howN
  rw [if_neg h1, if_neg h2, if_neg h3, if_neg h4, if_neg h5, if_neg h6, if_neg h7, if_neg h8, if_neg h9]
/-- The table of painting operators, in memory. -/
def PM (w : World) : Prop := ∃ (bm : Nat) (o : Obj), w.cell? ⟨0, 0, none⟩ = some (.map (some bm)) ∧ w.heap[bm]? = some o ∧ ∀ (w' : World) (nm : ByteArray), nm.size ≤ maxLen → w'.heap[bm]? = some o →
  RunV Tryd.prog (Instr.lookup 158 (.map (some bm)) (.string nm) true) w' (.tuple #[.agg #[.int .i64 (howN (bl nm)).1, .bool (howN (bl nm)).2], .bool (decide (bl nm ∈ ten))]) w'
theorem PM.keepF {w w' : World} {F : Nat → Prop} (h : PM w) (he : Ext F w w') (hF : ∀ j, j < w.heap.size → ¬ F j) : PM w' := by
  obtain ⟨bm, o, h1, h2, h3⟩ := h
  have h0 := cell_lt' h1
  have hb := (Array.getElem?_eq_some_iff.1 h2).1
  exact ⟨bm, o, by rw [he.cell h0 (hF _ h0)]; exact h1, by rw [he.block bm hb (hF _ hb)]; exact h2, h3⟩
theorem PM.keep {w w' : World} (h : PM w) (he : Ext (fun _ => False) w w') : PM w' := h.keepF he fun _ _ e => e
abbrev G : Type := Int × Int × Int × Int × Int × Int × Int × Int × Int × Int × Slc × Int × Int × Int × Int × Int × Int × Int × Int × Int × Int × Int × Int × Int × Int × Int × Int × Int × ByteArray × Int
abbrev LG : List Ty1 := [.int .i64, .int .i64, .int .i64, .int .i64, .int .i64, .int .i64, .int .i64, .int .i64, .int .i64, .int .i64, .slc, .int .i64, .int .i64, .int .i64, .int .i64, .int .i64, .int .i64, .int .i64, .int .i64, .int .i64, .int .i64, .int .i64, .int .i64, .int .i64, .int .i64, .int .i64, .int .i64, .int .i64, .str, .int .i64]
abbrev C5 : Type := Int × Int × Int × Int × Int
def fillG (g : G) : C5 := (g.2.2.2.2.2.2.2.2.2.2.2.2.1, g.2.2.2.2.2.2.2.2.2.2.2.2.2.1, g.2.2.2.2.2.2.2.2.2.2.2.2.2.2.1, g.2.2.2.2.2.2.2.2.2.2.2.2.2.2.2.1, g.2.2.2.2.2.2.2.2.2.2.2.2.2.2.2.2.1)
def strkG (g : G) : C5 := (g.2.2.2.2.2.2.2.2.2.2.2.2.2.2.2.2.2.1, g.2.2.2.2.2.2.2.2.2.2.2.2.2.2.2.2.2.2.1, g.2.2.2.2.2.2.2.2.2.2.2.2.2.2.2.2.2.2.2.1, g.2.2.2.2.2.2.2.2.2.2.2.2.2.2.2.2.2.2.2.2.1, g.2.2.2.2.2.2.2.2.2.2.2.2.2.2.2.2.2.2.2.2.2.1)
/-- A paint, as a value. -/
abbrev Pt : Type := Int × Slc × Int × Int × Int × Int × Int × Int × Int × Int × Int × Int
abbrev LPt : List Ty1 := [.int .i64, .slc, .int .i64, .int .i64, .int .i64, .int .i64, .int .i64, .int .i64, .int .i64, .int .i64, .int .i64, .int .i64]
def mkPt (how : Int) (s : Slc) (f k : C5) : Pt := (how, s, f.1, f.2.1, f.2.2.1, f.2.2.2.1, f.2.2.2.2, k.1, k.2.1, k.2.2.1, k.2.2.2.1, k.2.2.2.2)
def c50 : C5 := (0, 0, 0, 0, 0)
def pt0 : Pt := mkPt 0 nilS c50 c50
/-- What Paint does to a path: the error, how it paints, the segments, whether it paints, the path. -/
structure PaR where
  e : Int
  how : Int
  L : List Sg
  is : Bool
  p : Pa
def paintP (p : Pa) (nm d : By) (La : List Ob) : PaR := if nm ∉ ten then ⟨8, 0, [], false, p⟩ else if chkF nm La d ≠ 0 then ⟨chkF nm La d, 0, [], false, p⟩
  else if (if (howN nm).2 = true ∧ p.L ≠ [] then p.L ++ [clS] else p.L) = [] ∨ (howN nm).1 + (if p.cl = true then 8 else 0) = 0 then ⟨0, 0, [], false, pa0⟩
  else ⟨0, (howN nm).1 + (if p.cl = true then 8 else 0), (if (howN nm).2 = true ∧ p.L ≠ [] then p.L ++ [clS] else p.L), true, pa0⟩
section
variable {w0 w w' w1 w7 : World} {s s2 sg : Slc} {L : List Ob} {b : Nat} {p : Pa} {a d : ByteArray} {g : G}
attribute [local irreducible] Ld Sh.St Nw Nn LdS LdT LdST StT
theorem rcap {w : World} {s : Slc} {e : TypeId} {k : Nat} {xs : List Value} (h : Row w s e k xs) : s.len ≤ s.cap := by
  rcases h.2 with rfl | ⟨_, _, _, _, hcap, _⟩
  · exact Nat.le_refl _
  · exact hcap
/-- What Paint gives. -/
def PtR (w w1 : World) (b : Nat) (sg : Slc) (f k : C5) (r : Pt) (is : Bool) (e : Int) (q : PaR) : Prop := ∃ sg' sp, r = (if q.is = true then mkPt q.how sp f k else pt0) ∧ is = q.is ∧ e = q.e ∧ SV w1 sp q.L ∧ PV w1 b q.p sg' ∧ Ext (fun j => j = b ∨ sg.own j) w w1 ∧ (∀ j, sg'.own j → sg.own j ∨ w.heap.size ≤ j) ∧ (∀ j, sp.own j → sg.own j ∨ w.heap.size ≤ j) ∧ (q.e = 0 → sg' = nilS) ∧ sp.len ≤ sp.cap
theorem out1 {w w' : World} {M : List (Nat × List Value × TypeId)} {b2 : Nat} {t2 : TypeId} {y : Pt} {zs : List Value} {K : Pt → World → Prop} (H : Hn w w' M) (j : Nat) (h2 : M[j]? = some (b2, zs, t2)) (hz : zs.length = 12) (k : ∀ w'', Ext (fun _ => False) w w'' → Ext (· = b2) w' w'' → K y w'') :
    StT ⟨b2, 0, none⟩ 0 LPt y w' fun w'' => LdT w'' ⟨b2, 0, none⟩ 0 LPt fun z => K z w'' := by
  refine StT.blk (pre := []) (post := []) (ts := LPt) (x := y) (by rw [List.append_nil]; exact H.get j h2) rfl hz fun w7 g7 e7 => ?_
  rw [List.append_nil] at g7
  exact LdT.blk (pre := []) (post := []) (ts := LPt) (x := y) (by rw [List.append_nil]; exact g7) rfl (k w7 (Ext.new H.ext e7 fun j' hj => by have := H.ge j h2; omega) e7)
theorem out1B {w' : World} {b2 : Nat} {t2 : TypeId} {y : Pt} {zs : List Value} {K : Pt → World → Prop} (h2 : Blk w' b2 zs.toArray t2) (hz : zs.length = 12) (k : ∀ w'', Ext (· = b2) w' w'' → K y w'') :
    StT ⟨b2, 0, none⟩ 0 LPt y w' fun w'' => LdT w'' ⟨b2, 0, none⟩ 0 LPt fun z => K z w'' := by
  refine StT.blk (pre := []) (post := []) (ts := LPt) (x := y) (by rw [List.append_nil]; exact h2) rfl hz fun w7 g7 e7 => ?_
  rw [List.append_nil] at g7
  exact LdT.blk (pre := []) (post := []) (ts := LPt) (x := y) (by rw [List.append_nil]; exact g7) rfl (k w7 e7)
theorem pt_set0 (h v : Int) (s : Slc) (f k : C5) : (Sig.cells LPt (mkPt h s f k)).set 0 (.int .i64 v) = Sig.cells LPt (mkPt v s f k) := rfl
theorem pt_set1 (h : Int) (s v : Slc) (f k : C5) : (Sig.cells LPt (mkPt h s f k)).set 1 (Slc.v v) = Sig.cells LPt (mkPt h v f k) := rfl
theorem pt_lt (x : Pt) {i : Nat} (h : i < 12) : i < (Sig.cells LPt x).length := h
theorem c_paint (hs : AS w) (hpm : PM w) (hp : PV w b p sg) (h : OV w s L) (hl : L.length ≤ 9223372036854775807) (ha : a.size ≤ maxLen) : C30 (some ⟨b, 0, none⟩) (a, s, d) g w fun r is e w1 => PtR w w1 b sg (fillG g) (strkG g) r is e (paintP p (bl a) (bl d) L) := by
  refine T30 _ (a, s, d) _ _ _ ?_
  unfold S30
  have hbl := hp.blk.lt
  have hlen := hp.len
  have hfew := hp.few
  refine (Hn.start w).nw fun w2 H => ?_
  refine H.nw fun w3 H => ?_
  refine H.nw fun w4 H => ?_
  simp only [List.cons_append, List.nil_append, add_lit, Nat.zero_add] at H ⊢
  let base : List (Nat × List Value × TypeId) := [(w.heap.size, [.string a, Slc.v s, .string d], 63), (w2.heap.size, Sig.cells LG g, 30), (w3.heap.size, Sig.cells LPt pt0, 76)]
  have H : Hn w w4 base := H
  have l0 := H.lt 0 rfl
  have l1 := H.lt 1 rfl
  have l2 := H.lt 2 rfl
  have sw := H.size
  have g0 := H.ge 0 rfl
  have g2 := H.ge 2 rfl
  have so : ∀ j, sg.own j → j < w.heap.size ∧ j ≠ b := fun j hj => ⟨hp.seg.own_lt hj, hp.own j hj⟩
  have same : ∀ {w' : World} {e : Int} {M : List (Nat × List Value × TypeId)}, Hn w w' (base ++ M) → e ≠ 0 → paintP p (bl a) (bl d) L = ⟨e, 0, [], false, p⟩ →
      StT ⟨w3.heap.size, 0, none⟩ 0 LPt pt0 w' fun w'' => LdT w'' ⟨w3.heap.size, 0, none⟩ 0 LPt fun z => PtR w w'' b sg (fillG g) (strkG g) z false e (paintP p (bl a) (bl d) L) := fun {w' e M} H' hne hq =>
    out1 H' 2 rfl rfl fun w'' e1 e2 => by
      rw [hq]
      exact ⟨sg, nilS, rfl, rfl, rfl, SV.nil _, hp.keep e1, e1.mono fun _ _ e => e.elim, fun j hj => .inl hj, (fun j hj => by obtain ⟨a', ha, _⟩ := hj; cases ha), (fun h => absurd h hne), Nat.le_refl _⟩
  refine Br.f rfl ?_
  obtain ⟨bm, o, m1, m2, m3⟩ := hpm.keep H.ext
  refine Ld.mk m1 (H.ld 0 rfl rfl ?_)
  refine ⟨((howN (bl a)).1, (howN (bl a)).2), decide (bl a ∈ ten), w4, m3 w4 a ha m2, ?_⟩
  refine H.nw' fun w5 H5 e5 => ?_
  simp only [base, List.cons_append, List.nil_append] at H5
  iterate 2 (refine H5.st 3 rfl (by simp) fun _ H5 => ?_; simp only [List.set_cons_zero, List.set_cons_succ] at H5)
  by_cases hk : bl a ∈ ten
  case neg =>
    rw [decide_eq_false hk]
    exact Br.t rfl (same (M := [_]) H5 (by decide) (by unfold paintP; rw [if_pos hk]))
  rw [decide_eq_true hk]
  refine Br.f rfl ?_
  iterate 3 refine H5.ld 0 rfl rfl ?_
  refine (c_check (hs.keep H5.ext) (h.keep H5.ext) hl).mono ?_
  rintro r w6 ⟨rfl, e6⟩
  have H6 := H5.keep e6
  refine Br.ne (fun q => same (M := [_]) H6 q (by unfold paintP; rw [if_neg (fun hn => hn hk), if_pos q])) fun hck => ?_
  have hck : chkF (bl a) L (bl d) = 0 := hck
  have k0 := H6.lt 0 rfl
  have k2 := H6.lt 2 rfl
  have k3 := H6.lt 3 rfl
  have fin : ∀ (gp : Nat) (sp : Slc) (LL : List Sg) (w9 : World), Ext (fun j => sg.own j) w w9 → Blk w9 b (parow sg p.bg p.cl).toArray 134 → Blk w9 w3.heap.size (Sig.cells LPt pt0).toArray 76 → Blk w9 gp (Sig.cells LPt (mkPt (howN (bl a)).1 sp (fillG g) (strkG g))).toArray 76 → SV w9 sp LL → w6.heap.size ≤ gp → (∀ j, sp.own j → sg.own j ∨ (w6.heap.size ≤ j ∧ j ≠ gp)) → sp.len ≤ sp.cap → LL = (if (howN (bl a)).2 = true ∧ p.L ≠ [] then p.L ++ [clS] else p.L) →
      S30J1 (some ⟨b, 0, none⟩) w3 ⟨gp, 0, none⟩ (fun r is e w1 => PtR w w1 b sg (fillG g) (strkG g) r is e (paintP p (bl a) (bl d) L)) () w9 := by
    intro gp sp LL w9 E9 b9 z9 q9 sv9 hgp hown hcap hLL
    unfold S30J1
    simp only [add_lit, Nat.zero_add]
    have spn : ∀ j, sp.own j → j ≠ b ∧ j ≠ gp ∧ j ≠ w3.heap.size := fun j hj => by
      rcases hown j hj with h | h
      · have := so j h
        omega
      · omega
    have hq : paintP p (bl a) (bl d) L = (if LL = [] ∨ (howN (bl a)).1 + (if p.cl = true then 8 else 0) = 0 then ⟨0, 0, [], false, pa0⟩ else ⟨0, (howN (bl a)).1 + (if p.cl = true then 8 else 0), LL, true, pa0⟩) := by
      unfold paintP
      rw [if_neg (fun hn => hn hk), if_neg (fun hn => hn hck), ← hLL]
    -- behind the turn of 'How'
    have rest : ∀ (hw : Int) (w10 : World), hw = (howN (bl a)).1 + (if p.cl = true then 8 else 0) → Ext (fun j => j = gp) w9 w10 → Blk w10 gp (Sig.cells LPt (mkPt hw sp (fillG g) (strkG g))).toArray 76 →
        Sh.St w10 ⟨b, 0, none⟩ (Slc.v (⟨none, 0, 0⟩ : Slc)) fun v1 => Sh.St v1 ⟨b, 1, none⟩ (.int .i64 0) fun v2 => Sh.St v2 ⟨b, 2, none⟩ (.int .i64 0) fun v3 => Sh.St v3 ⟨b, 3, none⟩ (.bool false) fun v4 => Ld v4 ⟨gp, 1, none⟩ Slc.v fun (x76 : Slc) =>
          Br (((x76.len : Nat) : Int) == 0) (StT ⟨w3.heap.size, 0, none⟩ 0 LPt pt0 v4 fun v5 => LdT v5 ⟨w3.heap.size, 0, none⟩ 0 LPt fun z => PtR w v5 b sg (fillG g) (strkG g) z false 0 (paintP p (bl a) (bl d) L))
            (Ld v4 ⟨gp, 0, none⟩ (Value.int .i64) fun (x79 : Int) => Br (x79 == 0) (StT ⟨w3.heap.size, 0, none⟩ 0 LPt pt0 v4 fun v5 => LdT v5 ⟨w3.heap.size, 0, none⟩ 0 LPt fun z => PtR w v5 b sg (fillG g) (strkG g) z false 0 (paintP p (bl a) (bl d) L))
              (LdT v4 ⟨gp, 0, none⟩ 0 LPt fun (x82 : Pt) => StT ⟨w3.heap.size, 0, none⟩ 0 LPt x82 v4 fun v5 => LdT v5 ⟨w3.heap.size, 0, none⟩ 0 LPt fun z => PtR w v5 b sg (fillG g) (strkG g) z true 0 (paintP p (bl a) (bl d) L))) := by
      intro hw w10 hhw E10 q10
      have nob : b ≠ gp := by omega
      refine stB (E10.blk b9 nob) (by simp [parow]) fun v1 c1 e1 => stB c1 (by simp [parow]) fun v2 c2 e2 => stB c2 (by simp [parow]) fun v3 c3 e3 => stB c3 (by simp [parow]) fun v4 c4 e4 => ?_
      have eb : Ext (· = b) w10 v4 := ((e1.tr e2).tr e3).tr e4
      have c4 : Blk v4 b (parow nilS (0, 0) false).toArray 134 := c4
      have q4 := eb.blk q10 (by omega)
      have z4 := eb.blk (E10.blk z9 (by omega)) (by omega)
      have sv4 := (sv9.keepF E10 fun j hj => (spn j hj).2.1).keepF eb fun j hj => (spn j hj).1
      have Ev4 : Ext (fun j => j = b ∨ sg.own j) w v4 := (E9.trans E10 (fun _ h => .inr h) fun j hj e => by omega).trans eb (fun _ h => h) fun j _ e => .inl e
      have pv : ∀ {v5 : World}, Ext (· = w3.heap.size) v4 v5 → PV v5 b pa0 nilS := fun e => PV.new (e.blk c4 (by omega))
      have e5' : ∀ {v5 : World}, Ext (· = w3.heap.size) v4 v5 → Ext (fun j => j = b ∨ sg.own j) w v5 := fun e => Ev4.trans e (fun _ h => h) fun j hj h => by omega
      refine Ld.of q4 rfl ?_
      show Br (((sp.len : Nat) : Int) == 0) _ _
      rw [sv9.1]
      have no : LL = [] ∨ hw = 0 → StT ⟨w3.heap.size, 0, none⟩ 0 LPt pt0 v4 fun v5 => LdT v5 ⟨w3.heap.size, 0, none⟩ 0 LPt fun z => PtR w v5 b sg (fillG g) (strkG g) z false 0 (paintP p (bl a) (bl d) L) := fun hh => by
        refine out1B z4 rfl fun v5 e5 => ?_
        rw [hq, if_pos (by rw [← hhw]; exact hh)]
        exact ⟨nilS, nilS, rfl, rfl, rfl, SV.nil _, pv e5, e5' e5, (fun j hj => by obtain ⟨a', ha, _⟩ := hj; cases ha), (fun j hj => by obtain ⟨a', ha, _⟩ := hj; cases ha), (fun _ => rfl), Nat.le_refl _⟩
      refine Br.eq (fun q1 => no (.inl (List.eq_nil_of_length_eq_zero (by omega)))) fun q1 => Ld.of q4 rfl (Br.eq (fun q2 => no (.inr q2)) fun q2 => ?_)
      refine LdT.blk (pre := []) (post := []) (ts := LPt) (x := mkPt hw sp (fillG g) (strkG g)) (by rw [List.append_nil]; exact q4) rfl ?_
      refine out1B z4 rfl fun v5 e5 => ?_
      have hne : ¬ (LL = [] ∨ (howN (bl a)).1 + (if p.cl = true then 8 else 0) = 0) := by
        rw [← hhw]
        rintro (h | h)
        · rw [h] at q1
          exact q1 rfl
        · exact q2 h
      rw [hq, if_neg hne]
      refine ⟨nilS, sp, by rw [hhw]; rfl, rfl, rfl, sv4.keepF e5 fun j hj => (spn j hj).2.2, pv e5, e5' e5, (fun j hj => by obtain ⟨a', ha, _⟩ := hj; cases ha), (fun j hj => (hown j hj).imp id fun h => by omega), (fun _ => rfl), hcap⟩
    refine Nn.of ?_
    simp only [add_lit, Nat.zero_add]
    refine Ld.of b9 rfl ?_
    cases hcl : p.cl with
    | true =>
      refine Br.t rfl (Ld.of q9 rfl ?_)
      have hi : ior .i64 (howN (bl a)).1 8 = (howN (bl a)).1 + 8 := how_8 _ hk
      show Sh.St _ _ (.int .i64 (ior .i64 (howN (bl a)).1 8)) _
      rw [hi]
      refine stB q9 (pt_lt _ (by decide)) fun w10 q10 e10 => ?_
      rw [pt_set0] at q10
      refine Nn.of ?_
      simp only [add_lit, Nat.zero_add]
      exact rest _ w10 (by rw [hcl]; rfl) e10 q10
    | false =>
      refine Br.f rfl (Nn.of ?_)
      simp only [add_lit, Nat.zero_add]
      exact rest (howN (bl a)).1 w9 (by rw [hcl]; simp) (Ext.refl _ _) q9
  have main : ∀ (gp : Nat) (w8 : World), Ext (fun _ => False) w w8 → Blk w8 b (parow sg p.bg p.cl).toArray 134 → Blk w8 w4.heap.size ([.int .i64 (howN (bl a)).1, .bool (howN (bl a)).2] : List Value).toArray 156 → Blk w8 w3.heap.size (Sig.cells LPt pt0).toArray 76 → Blk w8 gp (Sig.cells LPt (mkPt (howN (bl a)).1 sg (fillG g) (strkG g))).toArray 76 → w6.heap.size ≤ gp →
      S30J2 (some ⟨b, 0, none⟩) w3 w4 (fun r is e w1 => PtR w w1 b sg (fillG g) (strkG g) r is e (paintP p (bl a) (bl d) L)) ⟨gp, 0, none⟩ w8 := by
    intro gp w8 E8 b8 h8 z8 q8 hgp
    unfold S30J2
    simp only [add_lit, Nat.zero_add]
    have p8 := hp.keep E8
    have gl := q8.lt
    have plain : ¬ ((howN (bl a)).2 = true ∧ p.L ≠ []) → S30J1 (some ⟨b, 0, none⟩) w3 ⟨gp, 0, none⟩ (fun r is e w1 => PtR w w1 b sg (fillG g) (strkG g) r is e (paintP p (bl a) (bl d) L)) () w8 := fun hh =>
      fin gp sg p.L w8 (E8.mono fun _ _ e => e.elim) b8 z8 q8 p8.sv hgp (fun j hj => .inl hj) (rcap hp.seg) (by rw [if_neg hh])
    refine Join.intro (Ld.of h8 rfl ?_)
    cases hc : (howN (bl a)).2 with
    | false => exact Br.f rfl (plain fun h => by rw [hc] at h; cases h.1)
    | true =>
      refine Br.t rfl (Ld.of q8 rfl (Br.dec (fun hpos => ?_) fun hz => plain fun h => ?_))
      · have hpos : ((sg.len : Nat) : Int) > 0 := hpos
        refine Ld.of q8 rfl ?_
        refine (Hn.start w8).nw (cs := sgrow clS) fun w9 H9 => ?_
        have p9 := p8.keep H9.ext
        have hb := H9.get 0 rfl
        obtain ⟨s', w10, r1, r2, r3, e10, r5⟩ := elSg.app1 (ty := 64) p9.seg hb rfl (sg_one clS) (by omega) (by omega)
        refine ⟨s', w10, r1, ?_⟩
        have s9 := H9.size
        have no : ∀ j, w.heap.size ≤ j → ¬ sg.own j := fun j hj h => by have := (so j h).1; omega
        have q10 := e10.blk (H9.ext.blk q8 id) (no _ (by omega))
        refine stB q10 (pt_lt _ (by decide)) fun w11 q11 e11 => ?_
        rw [pt_set1] at q11
        have own' : ∀ j, s'.own j → sg.own j ∨ (w6.heap.size ≤ j ∧ j ≠ gp) := fun j hj => (r5 j hj).imp id fun h => by
          have := H9.size
          omega
        refine fin gp s' (p.L ++ [clS]) w11 (((E8.tr H9.ext).trans e10 (fun _ e => e.elim) fun j _ h => h).trans e11 (fun _ h => h) fun j hj e => by omega) (e11.blk (e10.blk (H9.ext.blk b8 id) fun h => (so b h).2 rfl) (by omega)) (e11.blk (e10.blk (H9.ext.blk z8 id) (no _ (by omega))) (by omega)) q11 ?_ hgp own' (rcap r2) ?_
        · refine (SV.row (t := 67) (by rw [sgs_app, sgs_sing]; exact r2)).keepF e11 fun j hj e => ?_
          have e : j = gp := e
          rcases own' j hj with h | h
          · exact no _ (by omega) h
          · exact h.2 e
        · rw [if_pos ⟨hc, fun e => by rw [e] at hlen; simp at hlen; omega⟩]
      · have hz : ¬ ((sg.len : Nat) : Int) > 0 := hz
        have : 0 < p.L.length := List.length_pos_iff.2 h.2
        omega
  refine Join.intro ?_
  have H7 := H6.drew
  have p7 := hp.keep H7.ext
  refine ⟨fun w' => Blk w' w4.heap.size ([.int .i64 (howN (bl a)).1, .bool (howN (bl a)).2] : List Value).toArray 156 ∧ Blk w' b (parow sg p.bg p.cl).toArray 134 ∧ Blk w' w2.heap.size (Sig.cells LG g).toArray 30, ⟨H7.get 3 rfl, p7.blk, H7.get 1 rfl⟩, ?_⟩
  refine LdS.of (fun w' h' => h'.1) rfl (Nn.of ?_)
  refine LdS.of (fun w' h' => h'.2.1) rfl ?_
  iterate 10 refine LdS.of (fun w' h' => h'.2.2) rfl ?_
  refine ⟨?_, ?_⟩
  · refine H7.nw (cs := Sig.cells LPt pt0) fun w8 H8 => ?_
    have q8 := H8.get 4 rfl
    refine StT.blk (pre := []) (post := []) (zs := Sig.cells LPt pt0) (ts := LPt) (by rw [List.append_nil]; exact q8) rfl rfl fun w9 g9 e9 => ?_
    rw [List.append_nil] at g9
    have hsz : w6.drew.heap.size = w6.heap.size := rfl
    exact main _ w9 (Ext.new H8.ext e9 fun j hj => by have := H6.size; omega) (e9.blk (hp.keep H8.ext).blk (by omega)) (e9.blk (H8.get 3 rfl) (by omega)) (e9.blk (H8.get 2 rfl) (by omega)) g9 (Nat.le_refl _)
  · refine H7.nw (cs := Sig.cells LPt pt0) fun w8 H8 => ?_
    have q8 := H8.get 4 rfl
    refine ⟨⟨H8.get 3 rfl, (hp.keep H8.ext).blk, H8.get 1 rfl⟩, ?_⟩
    refine StT.blk (pre := []) (post := []) (zs := Sig.cells LPt pt0) (ts := LPt) (by rw [List.append_nil]; exact q8) rfl rfl fun w9 g9 e9 => ?_
    rw [List.append_nil] at g9
    have hsz : w6.drew.heap.size = w6.heap.size := rfl
    exact main _ w9 (Ext.new H8.ext e9 fun j hj => by have := H6.size; omega) (e9.blk (hp.keep H8.ext).blk (by omega)) (e9.blk (H8.get 3 rfl) (by omega)) (e9.blk (H8.get 2 rfl) (by omega)) g9 (Nat.le_refl _)
end
end Pat
end Go.Proofs.YtjbeembbnkmpeaaDoor

/- Paths: the reference's Same, SamePaint, Paints; the head of Box. Conditions: sizes. -/
namespace Go.Proofs.YtjbeembbnkmpeaaDoor
open Sh
/-- path.Box: the call returns. -/
def C29 (l1 : Slc) (w : World) (R : (Int × Int × Int × Int) → Bool → World → Prop) : Prop :=
  Calls Tryd.prog 29 #[Slc.v l1] w fun e w' => ∃ r0 : Int × Int × Int × Int, ∃ r1 : Bool, e = .returned (.tuple #[.agg #[.int .i64 (r0.1), .int .i64 (r0.2.1), .int .i64 (r0.2.2.1), .int .i64 (r0.2.2.2)], .bool r1]) ∧ R r0 r1 w'
theorem C29.mono {l1 : Slc} {w : World} {R R' : (Int × Int × Int × Int) → Bool → World → Prop} (h : C29 l1 w R) (hr : ∀ r0 r1 w', R r0 r1 w' → R' r0 r1 w') : C29 l1 w R' :=
  Calls.mono h fun _ _ ⟨r0, r1, he, hR⟩ => ⟨r0, r1, he, hr _ _ _ hR⟩
namespace Pat
open Sh Mat Fix Opr
set_option linter.unusedVariables false
set_option linter.unusedSimpArgs false
set_option maxRecDepth 8000
set_option maxHeartbeats 8000000
/-- The points of a segment. -/
def ptsS (s : Sg) : List (Int × Int) := if s.1 = 1 ∨ s.1 = 2 then [(s.2.2.2.2.2.1, s.2.2.2.2.2.2)] else if s.1 = 3 then [(s.2.1, s.2.2.1), (s.2.2.2.1, s.2.2.2.2.1), (s.2.2.2.2.2.1, s.2.2.2.2.2.2)] else []
def ptsL (L : List Sg) : List (Int × Int) := L.flatMap ptsS
abbrev Bx : Type := Int × Int × Int × Int
def addB (b : Bx) (p : Int × Int) : Bx := (min b.1 p.1, min b.2.1 p.2, max b.2.2.1 p.1, max b.2.2.2 p.2)
def boxP : List (Int × Int) → Bx × Bool
  | [] => ((0, 0, 0, 0), false)
  | p :: r => ((p :: r).foldl addB (p.1, p.2, p.1, p.2), true)
/-- What Box is to give. -/
def BoxOk : Prop := ∀ (w : World) (s : Slc) (L : List Sg), SV w s L → L.length ≤ 100000 → C29 s w fun r is w1 => (r, is) = boxP (ptsL L) ∧ Ext (fun _ => False) w w1
section
variable {w0 w w' w1 w7 : World} {s s2 sg : Slc} {L M : List Sg} {b : Nat} {p : Pa} {a : ByteArray}
attribute [local irreducible] Ld Sh.St Nw Nn LdS LdT LdST StT
theorem r_same (h : SV w s L) (h2 : SV w s2 M) (hl : L.length ≤ 100000) : C40 s s2 w fun r w1 => r = decide (L = M) ∧ Ext (fun _ => False) w w1 := by
  refine T40 _ _ _ _ ?_
  unfold S40
  rw [h.1, h2.1]
  refine Br.ne (fun q => ⟨?_, Ext.refl _ _⟩) fun q => ?_
  · symm
    rw [decide_eq_false_iff_not]
    rintro rfl
    exact q rfl
  have hLM : L.length = M.length := by omega
  refine ⟨fun n st w3 => ∃ i : Nat, st = (i : Int) ∧ i ≤ L.length ∧ n = L.length - i ∧ L.take i = M.take i ∧ Ext (fun _ => False) w w3, L.length, ⟨0, rfl, by omega, rfl, by simp, Ext.refl _ _⟩, ?_⟩
  rintro n st w3 ⟨i, rfl, hi, rfl, hall, e3⟩
  unfold S40L1
  rw [h.1, h2.1]
  refine Br.dec (fun q => ?_) fun q => ?_
  · have e3 := e3.drew
    have hL : L[i]? = some L[i] := List.getElem?_eq_getElem (by omega)
    have hM : M[i]? = some M[i] := List.getElem?_eq_getElem (by omega)
    have tL : L.take (i + 1) = L.take i ++ [L[i]] := by rw [List.take_add_one, hL]; rfl
    have tM : M.take (i + 1) = M.take i ++ [M[i]] := by rw [List.take_add_one, hM]; rfl
    generalize L[i] = o at hL tL
    generalize M[i] = q' at hM tM
    obtain ⟨a1, ha1, c1⟩ := (h.keep e3).get hL
    obtain ⟨a2, ha2, c2⟩ := (h2.keep e3).get hM
    have c10 := c1 0 _ rfl
    rw [add_add', Nat.add_zero] at c10
    have c20 := c2 0 _ rfl
    rw [add_add', Nat.add_zero] at c20
    rw [ha1, ha2, Int.toNat_natCast]
    refine ⟨by omega, by omega, Nn.of (Ld.mk c10 (Ld.mk (c1 1 _ rfl) (Ld.mk (c1 2 _ rfl) (Ld.mk (c1 3 _ rfl) (Ld.mk (c1 4 _ rfl) (Ld.mk (c1 5 _ rfl) (Ld.mk (c1 6 _ rfl) ?_)))))))⟩
    refine ⟨by omega, by omega, Nn.of (Ld.mk c20 (Ld.mk (c2 1 _ rfl) (Ld.mk (c2 2 _ rfl) (Ld.mk (c2 3 _ rfl) (Ld.mk (c2 4 _ rfl) (Ld.mk (c2 5 _ rfl) (Ld.mk (c2 6 _ rfl) (Lt.of ?_))))))))⟩
    rw [seg_eq]
    refine Br.dec (fun hne => ⟨?_, e3⟩) fun heq => ?_
    · symm
      rw [decide_eq_false_iff_not]
      rintro rfl
      rw [hL] at hM
      cases hM
      exact hne rfl
    · refine ⟨L.length - (i + 1), by omega, i + 1, by rw [i64_id (by omega)]; rfl, by omega, rfl, ?_, e3⟩
      rw [tL, tM, hall, Decidable.not_not.1 heq]
  · refine ⟨?_, e3⟩
    symm
    rw [decide_eq_true_iff]
    rwa [List.take_of_length_le (by omega), List.take_of_length_le (by omega)] at hall
theorem r_paints (a : ByteArray) (w : World) : C35 a w fun r w1 => r = decide (bl a ∈ ten) ∧ w1 = w := by
  refine T35 _ _ _ ?_
  unfold S35
  have yes : ∀ {l : By}, bl a = l → l ∈ ten → (true = decide (bl a ∈ ten) ∧ w = w) := fun h1 h2 => ⟨(decide_eq_true (by rw [h1]; exact h2)).symm, rfl⟩
  refine BrB (fun q => BrB (fun _ => yes q (by decide)) fun nq => absurd q nq) fun n1 => ?_
  refine BrB (fun q => BrB (fun _ => yes q (by decide)) fun nq => absurd q nq) fun n2 => ?_
  refine BrB (fun q => BrB (fun _ => yes q (by decide)) fun nq => absurd q nq) fun n3 => ?_
  refine BrB (fun q => BrB (fun _ => yes q (by decide)) fun nq => absurd q nq) fun n4 => ?_
  refine BrB (fun q => BrB (fun _ => yes q (by decide)) fun nq => absurd q nq) fun n5 => ?_
  refine BrB (fun q => BrB (fun _ => yes q (by decide)) fun nq => absurd q nq) fun n6 => ?_
  refine BrB (fun q => BrB (fun _ => yes q (by decide)) fun nq => absurd q nq) fun n7 => ?_
  refine BrB (fun q => BrB (fun _ => yes q (by decide)) fun nq => absurd q nq) fun n8 => ?_
  refine BrB (fun q => BrB (fun _ => yes q (by decide)) fun nq => absurd q nq) fun n9 => ?_
  refine BrB (fun q => yes q (by decide)) fun n10 => ⟨?_, rfl⟩
  symm
  rw [decide_eq_false_iff_not]
  unfold ten
  simp only [List.mem_cons, List.not_mem_nil, or_false, not_or]
  exact ⟨n1, n2, n3, n4, n5, n6, n7, n8, n9, n10⟩
theorem r_samePaint {x y : Pt} (h : SV w x.2.1 L) (h2 : SV w y.2.1 M) (hl : L.length ≤ 100000) : C37 x y w fun r w1 => r = decide (x.1 = y.1 ∧ L = M ∧ x.2.2 = y.2.2) ∧ Ext (fun _ => False) w w1 := by
  refine T37 _ _ _ _ ?_
  unfold S37
  refine (Hn.start w).nw fun w2 H => ?_
  refine H.nw fun w3 H => ?_
  simp only [List.cons_append, List.nil_append, add_lit, Nat.zero_add] at H ⊢
  have no : ∀ {w4 : World}, Ext (fun _ => False) w w4 → ¬ (x.1 = y.1 ∧ L = M ∧ x.2.2 = y.2.2) → (false = decide (x.1 = y.1 ∧ L = M ∧ x.2.2 = y.2.2) ∧ Ext (fun _ => False) w w4) := fun e hh => ⟨(decide_eq_false hh).symm, e⟩
  refine H.ld 0 rfl rfl (H.ld 1 rfl rfl ?_)
  refine Br.eq (fun q1 => ?_) fun q1 => no H.ext fun hh => q1 hh.1
  refine H.ld 0 rfl rfl (H.ld 1 rfl rfl ?_)
  refine (r_same (h.keep H.ext) (h2.keep H.ext) hl).mono ?_
  rintro r w4 ⟨rfl, e4⟩
  have H := H.keep e4
  refine Br.dec (fun q2 => ?_) fun q2 => no H.ext fun hh => q2 hh.2.1
  iterate 5 refine H.ld 0 rfl rfl ?_
  iterate 5 refine H.ld 1 rfl rfl ?_
  refine Lt.of ?_
  have t : ∀ {c : Bool} {A B : Prop}, (c = true → A) → (c = false → B) → Br c A B := fun {c A B} k1 k2 => by
    cases c
    · exact k2 rfl
    · exact k1 rfl
  obtain ⟨x1, x2, x3, x4, x5, x6, x7, x8, x9, x10, x11, x12⟩ := x
  obtain ⟨y1, y2, y3, y4, y5, y6, y7, y8, y9, y10, y11, y12⟩ := y
  refine t (fun q3 => ?_) fun q3 => no H.ext fun hh => ?_
  · iterate 5 refine H.ld 0 rfl rfl ?_
    iterate 5 refine H.ld 1 rfl rfl ?_
    refine Lt.of ⟨?_, H.ext⟩
    simp only [Prod.mk.injEq] at *
    simp only [Bool.and_true, Bool.and_eq_true, beq_iff_eq] at q3
    rw [Bool.eq_iff_iff]
    simp only [Bool.and_true, Bool.and_eq_true, beq_iff_eq, decide_eq_true_eq]
    constructor
    · rintro ⟨h1, h2, h3, h4, h5⟩
      exact ⟨q1, q2, q3.1, q3.2.1, q3.2.2.1, q3.2.2.2.1, q3.2.2.2.2, h1, h2, h3, h4, h5⟩
    · rintro ⟨_, _, _, _, _, _, _, h1, h2, h3, h4, h5⟩
      exact ⟨h1, h2, h3, h4, h5⟩
  · obtain ⟨_, _, h3⟩ := hh
    simp only [Prod.mk.injEq] at h3
    obtain ⟨g1, g2, g3, g4, g5, _⟩ := h3
    subst g1 g2 g3 g4 g5
    simp at q3
end
end Pat
end Go.Proofs.YtjbeembbnkmpeaaDoor

/- Box's points: the iterator gives the points of the segments, in order. Conditions: what a round keeps. -/
namespace Go.Proofs.YtjbeembbnkmpeaaDoor
namespace Pat
open Sh Mat Fix Opr
set_option linter.unusedVariables false
set_option linter.unusedSimpArgs false
set_option maxRecDepth 100000
set_option maxHeartbeats 4000000
/-- A row of points. -/
def PW (W : World) (s : Slc) (n1 : Nat) (ps : List (Int × Int)) : Prop := s.len = ps.length ∧ ∀ (k : Nat) (x : Int × Int), ps[k]? = some x →
  ∃ b, s.p = some ⟨b, 0, none⟩ ∧ n1 ≤ b ∧ b < W.heap.size ∧ W.cell? ((⟨b, 0, none⟩ : Addr).add (k * 2)) = some (.int .i64 x.1) ∧ W.cell? (((⟨b, 0, none⟩ : Addr).add (k * 2)).add 1) = some (.int .i64 x.2)
theorem PW.keep {W W' : World} {s : Slc} {n1 : Nat} {ps : List (Int × Int)} {B : Nat → Prop} (h : PW W s n1 ps) (he : Ext B W W') (hB : ∀ j, B j → j < n1) : PW W' s n1 ps := ⟨h.1, fun k x hk => by
  obtain ⟨b, h1, h2, h3, h4, h5⟩ := h.2 k x hk
  have hn : ¬ B b := fun h => by have := hB b h; omega
  exact ⟨b, h1, h2, Nat.lt_of_lt_of_le h3 he.size, (he.cell (p := (⟨b, 0, none⟩ : Addr).add (k * 2)) (by rw [add_block]; exact h3) (by rw [add_block]; exact hn)).trans h4, (he.cell (p := ((⟨b, 0, none⟩ : Addr).add (k * 2)).add 1) (by rw [add_block, add_block]; exact h3) (by rw [add_block, add_block]; exact hn)).trans h5⟩⟩
section
variable {l n1 : Nat} {J : List (Int × Int) → World → Prop} {B : Nat → Prop} {W : World} {s : Slc} {L : List Sg}
attribute [local irreducible] Ld Sh.St Nw Nn LdS LdT LdST StT
theorem it_in {pre ps : List (Int × Int)} {s5 : Int} {R : World → Prop} {I7 : Int → World → Prop} (hB : ∀ j, B j → j < n1)
    (hJ : ∀ (pre : List (Int × Int)) (W W' : World), J pre W → Ext (fun _ => False) W W' → J pre W')
    (hY : ∀ (pre : List (Int × Int)) (x : Int × Int) (W : World) (K : Bool → World → Prop), J pre W → (∀ W', J (pre ++ [x]) W' → Ext B W W' → K true W') → Yl Tryd.prog l #[.agg #[.int .i64 x.1, .int .i64 x.2]] W K)
    (hw : PW W s n1 ps) (hl : ps.length ≤ 3) (hj : J pre W) (hI : ∀ W', J (pre ++ ps) W' → Ext B W W' → I7 (IntKind.i64.wrap (s5 + 1)) W') :
    S148_YJ1 l s5 I7 R s W := by
  refine ⟨fun n st w3 => ∃ k : Nat, st = (k : Int) ∧ k ≤ ps.length ∧ n = ps.length - k ∧ J (pre ++ ps.take k) w3 ∧ Ext B W w3, ps.length, ⟨0, rfl, by omega, rfl, by simpa using hj, Ext.refl _ _⟩, ?_⟩
  rintro n st w3 ⟨k, rfl, hk, rfl, hj3, e3⟩
  unfold S148_YL1
  rw [hw.1]
  refine Br.dec (fun q => ?_) fun q => ?_
  · have hL : ps[k]? = some ps[k] := List.getElem?_eq_getElem (by omega)
    have tL : ps.take (k + 1) = ps.take k ++ [ps[k]] := by rw [List.take_add_one, hL]; rfl
    generalize ps[k] = x at hL tL
    obtain ⟨b, hp, _, _, c0, c1⟩ := (hw.keep e3 hB).2 k x hL
    rw [hp, Int.toNat_natCast]
    refine ⟨by omega, by omega, Nn.of (Ld.mk c0 (Ld.mk c1 ?_))⟩
    refine (Hn.start w3).nw fun w4 H => ?_
    refine H.st 0 rfl (by simp) fun w5 H => ?_
    refine H.st 0 rfl (by simp) fun w6 H => ?_
    refine H.ld 0 rfl rfl (H.ld 0 rfl rfl ?_)
    have e6 := H.h.ext
    refine hY _ x w6 _ (hJ _ _ _ hj3 e6) fun w7 hj7 e7 => Br.f rfl ?_
    refine ⟨ps.length - (k + 1), by omega, k + 1, by rw [i64_id (by omega)]; rfl, by omega, rfl, ?_, (e3.trans e6 (fun _ h => h) fun _ _ h => h.elim).tr e7⟩
    rw [tL, ← List.append_assoc]
    exact hj7
  · refine hI _ ?_ e3
    rwa [List.take_of_length_le (by omega)] at hj3
theorem pw1 {w4 : World} {b : Nat} {L4 : List (Nat × List Value × TypeId)} {w3 : World} {i : Nat} {x y : Int} {t : TypeId} (H : Hn w3 w4 L4) (hi : L4[i]? = some (b, [.int .i64 x, .int .i64 y], t)) (hn : n1 ≤ w3.heap.size) : PW w4 ⟨some ⟨b, 0, none⟩, 1, 1⟩ n1 [(x, y)] := by
  refine ⟨rfl, fun k q hk => ?_⟩
  have hb := H.get i hi
  have hg := H.ge i hi
  obtain rfl : k = 0 := by
    have := (List.getElem?_eq_some_iff.1 hk).1
    simp at this
    exact this
  cases hk
  exact ⟨b, rfl, by omega, hb.lt, hb.cell 0, hb.cell 1⟩
theorem pw3 {w4 : World} {b : Nat} {L4 : List (Nat × List Value × TypeId)} {w3 : World} {i : Nat} {x y x2 y2 x3 y3 : Int} {t : TypeId} (H : Hn w3 w4 L4) (hi : L4[i]? = some (b, [.int .i64 x, .int .i64 y, .int .i64 x2, .int .i64 y2, .int .i64 x3, .int .i64 y3], t)) (hn : n1 ≤ w3.heap.size) : PW w4 ⟨some ⟨b, 0, none⟩, 3, 3⟩ n1 [(x, y), (x2, y2), (x3, y3)] := by
  refine ⟨rfl, fun k q hk => ?_⟩
  have hb := H.get i hi
  have hg := H.ge i hi
  match k, hk with
  | 0, hk => cases hk; exact ⟨b, rfl, by omega, hb.lt, hb.cell 0, hb.cell 1⟩
  | 1, hk => cases hk; exact ⟨b, rfl, by omega, hb.lt, hb.cell 2, hb.cell 3⟩
  | 2, hk => cases hk; exact ⟨b, rfl, by omega, hb.lt, hb.cell 4, hb.cell 5⟩
  | k + 3, hk => simp at hk
theorem it_pts {w0 w : World} {c3 : Addr} (hS : SV w0 s L) (he0 : Ext (fun _ => False) w0 w) (hl : L.length ≤ 100000) (hc : w.cell? c3 = some (Slc.v s)) (hlo : ∀ j, B j → w0.heap.size ≤ j) (hB : ∀ j, B j → j < w.heap.size)
    (hJ : ∀ (pre : List (Int × Int)) (W W' : World), J pre W → Ext (fun _ => False) W W' → J pre W')
    (hY : ∀ (pre : List (Int × Int)) (x : Int × Int) (W : World) (K : Bool → World → Prop), J pre W → (∀ W', J (pre ++ [x]) W' → Ext B W W' → K true W') → Yl Tryd.prog l #[.agg #[.int .i64 x.1, .int .i64 x.2]] W K)
    (hj : J [] w) : S148_Y l c3 w fun W' => J (ptsL L) W' := by
  refine Ld.mk hc ?_
  refine ⟨fun n st w3 => ∃ i : Nat, st = (i : Int) ∧ i ≤ L.length ∧ n = L.length - i ∧ J (ptsL (L.take i)) w3 ∧ Ext B w w3, L.length, ⟨0, rfl, by omega, rfl, by simpa [ptsL] using hj, Ext.refl _ _⟩, ?_⟩
  rintro n st w3 ⟨i, rfl, hi, rfl, hj3, e3⟩
  unfold S148_YL2
  rw [hS.1]
  refine Br.dec (fun q => ?_) fun q => ?_
  · have hL : L[i]? = some L[i] := List.getElem?_eq_getElem (by omega)
    have tL : L.take (i + 1) = L.take i ++ [L[i]] := by rw [List.take_add_one, hL]; rfl
    generalize L[i] = o at hL tL
    have hpt : ptsL (L.take (i + 1)) = ptsL (L.take i) ++ ptsS o := by rw [tL]; simp [ptsL]
    obtain ⟨a, hp, c0⟩ := hS.get hL
    have c : ∀ j v, (sgrow o)[j]? = some v → w3.cell? ((a.add (i * 7)).add j) = some v := fun j v hv => by
      have h1 := c0 j v hv
      have h2 := cell_lt' h1
      have h3 := (he0.cell (p := (a.add (i * 7)).add j) h2 (fun h => h)).trans h1
      exact (e3.cell (p := (a.add (i * 7)).add j) (cell_lt' h3) (fun h => by have := hlo _ h; omega)).trans h3
    obtain ⟨kd, x1, y1, x2, y2, x3, y3⟩ := o
    have c10 := c 0 _ rfl
    rw [add_add', Nat.add_zero] at c10
    rw [hp, Int.toNat_natCast]
    refine ⟨by omega, by omega, Nn.of (Ld.mk c10 (Ld.mk (c 1 _ rfl) (Ld.mk (c 2 _ rfl) (Ld.mk (c 3 _ rfl) (Ld.mk (c 4 _ rfl) (Ld.mk (c 5 _ rfl) (Ld.mk (c 6 _ rfl) ?_)))))))⟩
    refine (Hn.start w3).nw fun w4 H => ?_
    iterate 7 (refine H.st 0 rfl (by simp) fun _ H => ?_; simp only [List.set_cons_zero, List.set_cons_succ] at H)
    have hn3 : w.heap.size ≤ w3.heap.size := e3.size
    refine ⟨fun s4 w4 => PW w4 s4 w.heap.size (ptsS (kd, x1, y1, x2, y2, x3, y3)) ∧ J (ptsL (L.take i)) w4 ∧ Ext B w w4, ?_, ?_⟩
    · rintro s4 w4 ⟨hw, hj4, e4⟩
      refine it_in hB hJ hY hw (by unfold ptsS; split; · simp
                                   · split <;> simp) hj4 fun W' hj5 e5 => ⟨L.length - (i + 1), by omega, i + 1, by rw [i64_id (by omega)]; rfl, by omega, rfl, by rw [hpt]; exact hj5, e4.tr e5⟩
    · have fin : ∀ {s5 : Slc} {w5 : World} {ps : List (Int × Int)}, PW w5 s5 w.heap.size ps → Ext (fun _ => False) w3 w5 → ptsS (kd, x1, y1, x2, y2, x3, y3) = ps → PW w5 s5 w.heap.size (ptsS (kd, x1, y1, x2, y2, x3, y3)) ∧ J (ptsL (L.take i)) w5 ∧ Ext B w w5 := fun h1 h2 h3 =>
        ⟨by rw [h3]; exact h1, hJ _ _ _ hj3 h2, e3.trans h2 (fun _ h => h) fun _ _ h => h.elim⟩
      refine H.ld 0 rfl rfl ?_
      refine Br.eq (fun q1 => Br.t (by simp [q1]) ?_) fun q1 => Br.eq (fun q2 => ?_) fun q2 => Br.eq (fun q3 => ?_) fun q3 => ?_
      · refine H.ld 0 rfl rfl (H.ld 0 rfl rfl (H.nw fun w5 H => ?_))
        exact fin (pw1 H (i := 1) rfl hn3) H.h.ext (by unfold ptsS; rw [if_pos (.inl q1)])
      · refine H.ld 0 rfl rfl (H.ld 0 rfl rfl (H.nw fun w5 H => ?_))
        exact fin (pw1 H (i := 1) rfl hn3) H.h.ext (by unfold ptsS; rw [if_pos (.inr q2)])
      · refine H.ld 0 rfl rfl (H.ld 0 rfl rfl (H.ld 0 rfl rfl (H.ld 0 rfl rfl (H.ld 0 rfl rfl (H.ld 0 rfl rfl (H.nw fun w5 H => ?_))))))
        exact fin (pw3 H (i := 1) rfl hn3) H.h.ext (by unfold ptsS; rw [if_neg (fun h => h.elim q1 q2), if_pos q3])
      · exact fin (ps := []) ⟨rfl, fun k x hk => by simp at hk⟩ H.h.ext (by unfold ptsS; rw [if_neg (fun h => h.elim q1 q2), if_neg q3])
  · rwa [List.take_of_length_le (by omega)] at hj3
end
end Pat
end Go.Proofs.YtjbeembbnkmpeaaDoor

/- A range over a function: the statement, a round, the way out of the function. Conditions: the iterator has a body. -/
namespace Go.Proofs.YtjbeembbnkmpeaaDoor
namespace Sh
open Go.RowKit
set_option linter.unusedVariables false
section
variable {P : Program} {F : Fx} {N : Nat} {G : Fence}
/-- The record of a loop, ready for a round. -/
def rfRec (fn : FuncId) (tmps : Array Value) (ps : Array Tmp) (asg body : Code) (D : Nat) : Loop := { state := .ready, pending := none, fn, tmps, params := ps, assign := asg, body, defers := D }
/-- The world in which the iterator starts. -/
def rfW (w : World) (fn : FuncId) (tmps : Array Value) (ps : Array Tmp) (asg body : Code) : World := (w.alloc (.deferred (some []))).alloc (.loop (rfRec fn tmps ps asg body w.heap.size))
def rfTmps (ps : Array Tmp) (args tmps : Array Value) : Array Value := (ps.zip args).foldl (fun tmps (t, a) => tmps.setIfInBounds t a) tmps
theorem rf_in {ok : Nat → Bool} (hF : CallsOk P ok) {g : Operand} {ps : Array Tmp} {asg body : Code} {Q : Exit → Act → World → Prop} {a : Act} {w : World} {gf : Nat} {caps : Array Value} (hg : a.eval g = .func (.func gf) #[] caps) (hent : enterB P ok gf = true)
    (h : ∀ fn : FuncId, CallsIn Fence.wide 0 P gf (#[.func (.yield (w.heap.size + 1)) #[] #[]] ++ caps) (rfW w fn a.tmps ps asg body) fun e W2 =>
      (∃ v, e = .returned v) ∧ W2.heap[w.heap.size + 1]? = some (.loop (rfRec fn a.tmps ps asg body w.heap.size)) ∧
      Q .normal { a with defers := { target := .collected w.heap.size, args := #[] } :: a.defers } (W2.putObj (w.heap.size + 1) (.loop { rfRec fn a.tmps ps asg body w.heap.size with state := .exhausted }))) :
    (Code.rangeFunc g ps asg body).wpIn Fence.wide 0 P Q a w := by
  refine wpIn_rangeFunc fun fn _ => ?_
  refine ⟨w.heap.size + 1, [{ target := .collected w.heap.size, args := #[] }], rfW w fn a.tmps ps asg body, { target := .fn (.func gf) caps, args := #[.func (.yield (w.heap.size + 1)) #[] #[]] }, rfW w fn a.tmps ps asg body, gf,
    #[.func (.yield (w.heap.size + 1)) #[] #[]] ++ caps, rfW w fn a.tmps ps asg body, ?_, ?_, ?_, ?_, fun h => by simp [Fence.wide] at h, ?_⟩
  · exact run_enterLoop_outer _ _ _ _ _
  · simp only [resolve, hg]
    simp [go_sem]
  · intro f' _
    trivial
  · simp [invoke, go_sem, callFunc_enter hF hent]
  · refine (h fn).mono ?_
    rintro e W2 ⟨⟨v, rfl⟩, hl, hQ⟩
    exact ⟨none, _, run_endLoop hl (by simp [rfRec]), hQ⟩
/-- Code that ends by going on. -/
def nrm (R : Env → World → Prop) : Exit → Env → World → Prop
  | .normal, E, w => R E w
  | _, _, _ => False
/-- The way out of a function. -/
def finX (P : Program) (fn : Func) (tys : List Ty) (R : Sg tys → World → Prop) : Exit → Env → World → Prop := fun e E w => match e with
  | .normal => resT P fn.results.toList E w fun vs => match Sg.get? tys vs with
    | some s => R s w
    | none => False
  | .ret => resT P fn.results.toList E w fun vs => match Sg.get? tys vs with
    | some s => R s w
    | none => False
  | _ => False
theorem nrm_elim {R : Env → World → Prop} {e : Exit} {E : Env} {w : World} (h : nrm R e E w) : e = .normal ∧ R E w := by
  cases e <;> first | exact ⟨rfl, h⟩ | exact h.elim
theorem yl_body (hF : CallsOk P F.ok) (hpk : ∀ v w, ¬ F.pk v w) {W : World} {l : Nat} {fn : FuncId} {tmps : Array Value} {ps : Array Tmp} {asg body : Code} {D : Nat} {args : Array Value} {K : Bool → World → Prop}
    (hl : W.heap[l]? = some (.loop (rfRec fn tmps ps asg body D))) (hs : args.size = ps.size) {E : Env} (hf : Fits N E { tmps := rfTmps ps args tmps, defers := [] })
    {pa pb : Plan} (hsa : slotsOk N asg = true) (hsb : slotsOk N body = true)
    (h : codeY P F pa asg E W <| nrm fun E1 W1 => W1.heap[l]? = some (.loop (rfRec fn tmps ps asg body D)) ∧
      codeY P F pb body E1 (W1.putObj l (.loop { rfRec fn tmps ps asg body D with state := .busy })) (nrm fun E2 W2 => W2.heap[l]? = some (.loop { rfRec fn tmps ps asg body D with state := .busy }) ∧
        K true (W2.putObj l (.loop (rfRec fn tmps ps asg body D))))) : Yl P l args W K := by
  have hy := run_yield (P := P) (args := args) hl (by simpa [rfRec] using hs)
  refine ⟨fn, rfTmps ps args tmps, asg, body, hy, roundIn_of_wpIn trivial ?_⟩
  refine wpIn_mono (codeY_in (InF.inRound l) hF asg pa E W _ _ h hf hsa) fun e a1 W1 hq => ?_
  rcases hq with ⟨E1, hq, hf1, hs1⟩ | ⟨v, _, hp, _⟩
  · obtain ⟨rfl, hl1, h1⟩ := nrm_elim hq
    refine ⟨_, run_beginRound hl1 rfl, ?_⟩
    refine wpIn_mono (codeY_in (InF.inRound l) hF body pb E1 _ _ _ h1 hf1 hsb) fun e a2 W2 hq => ?_
    rcases hq with ⟨E2, hq, _, _⟩ | ⟨v, _, hp, _⟩
    · obtain ⟨rfl, hl2, h2⟩ := nrm_elim hq
      exact ⟨_, _, run_endRound none hl2, true, rfl, h2⟩
    · exact (hpk _ _ hp).elim
  · exact (hpk _ _ hp).elim
theorem seqY (hG : InF G) (hF : CallsOk P F.ok) (hpk : ∀ v w, ¬ F.pk v w) {c d : Code} {pl : Plan} {E : Env} {w : World} {K : Env → World → Prop} {a : Act} {Q : Exit → Act → World → Prop} (h : codeY P F pl c E w (nrm K)) (hf : Fits N E a) (hs : slotsOk N c = true)
    (hn : ∀ E' a' w', K E' w' → Fits N E' a' → a'.defers = a.defers → d.wpIn G 0 P Q a' w') : (Code.seq c d).wpIn G 0 P Q a w := by
  refine wpIn_seq (wpIn_mono (codeY_in hG hF c pl E w _ a h hf hs) fun e a' w' hq => ?_)
  rcases hq with ⟨E', h1, h2, h3⟩ | ⟨v, _, hp, _⟩
  · obtain ⟨rfl, h4⟩ := nrm_elim h1
    exact hn E' a' w' h4 h2 h3.2
  · exact (hpk _ _ hp).elim
end
end Sh
end Go.Proofs.YtjbeembbnkmpeaaDoor

/- The formulas of the parts of path.Box, written by program (boxfn.py); the kernel checks each. No condition. -/
namespace Go.Proofs.YtjbeembbnkmpeaaDoor
open Sh
set_option linter.unusedVariables false
set_option maxRecDepth 100000
noncomputable def sq1 : Code → Code | .seq a _ => a | c => c
def sq2 : Code → Code | .seq _ b => b | c => c
def bk : Code → Code | .block _ b => b | c => c
def rfa : Code → Code | .rangeFunc _ _ a _ => a | c => c
def rfb : Code → Code | .rangeFunc _ _ _ b => b | c => c
noncomputable def cBoxA : Code := (sq1 (Tryd.f29.body.getD .skip))
def pBoxA : Plan := (.reg .seq)
def SBoxA (l1 : Slc) (w : World) (R : Env → World → Prop) : Prop :=
  Nw w (.cells #[.int .i64 0, .int .i64 0, .int .i64 0, .int .i64 0] 72) fun vw1 =>
  R [(3, .bool false), (2, .pointer (some (⟨w.heap.size, 0, none⟩ : Addr))), (0, Slc.v l1)] vw1
set_option maxRecDepth 100000 in
theorem EBoxA (l1 : Slc) (w : World) (R : Env → World → Prop) : codeY Tryd.prog ⟨FF, MAY, (fun _ _ => False)⟩ pBoxA cBoxA [(0, Slc.v l1)] w (nrm R) = SBoxA l1 w R := by kernel_rfl
noncomputable def cBoxB : Code := (sq1 (sq2 (Tryd.f29.body.getD .skip)))
def pBoxB : Plan := (.reg .seq)
def SBoxB (l1 : Slc) (a2 : Addr) (w : World) (R : Env → World → Prop) : Prop :=
  Nw w (.cells #[.int .i64 0, .int .i64 0, .int .i64 0, .int .i64 0] 72) fun vw2 =>
  R [(4, .pointer (some (⟨w.heap.size, 0, none⟩ : Addr))), (3, .bool false), (2, .pointer (some a2)), (0, Slc.v l1)] vw2
set_option maxRecDepth 100000 in
theorem EBoxB (l1 : Slc) (a2 : Addr) (w : World) (R : Env → World → Prop) : codeY Tryd.prog ⟨FF, MAY, (fun _ _ => False)⟩ pBoxB cBoxB [(3, .bool false), (2, .pointer (some a2)), (0, Slc.v l1)] w (nrm R) = SBoxB l1 a2 w R := by kernel_rfl
noncomputable def cBoxC : Code := (sq1 (sq2 (sq2 (Tryd.f29.body.getD .skip))))
def pBoxC : Plan := (.reg .seq)
def SBoxC (l1 : Slc) (a2 : Addr) (a4 : Addr) (w : World) (R : Env → World → Prop) : Prop :=
  Nw w (.cells #[.bool false] 4) fun vw3 =>
  St vw3 (⟨w.heap.size, 0, none⟩ : Addr) (.bool false) fun vw4 =>
  R [(5, .pointer (some (⟨w.heap.size, 0, none⟩ : Addr))), (4, .pointer (some a4)), (3, .bool false), (2, .pointer (some a2)), (0, Slc.v l1)] vw4
set_option maxRecDepth 100000 in
theorem EBoxC (l1 : Slc) (a2 : Addr) (a4 : Addr) (w : World) (R : Env → World → Prop) : codeY Tryd.prog ⟨FF, MAY, (fun _ _ => False)⟩ pBoxC cBoxC [(4, .pointer (some a4)), (3, .bool false), (2, .pointer (some a2)), (0, Slc.v l1)] w (nrm R) = SBoxC l1 a2 a4 w R := by kernel_rfl
noncomputable def cBoxD : Code := (sq1 (sq1 (sq2 (sq2 (sq2 (Tryd.f29.body.getD .skip))))))
def pBoxD : Plan := (.reg .seq)
def SBoxD (l1 : Slc) (a2 : Addr) (a4 : Addr) (a5 : Addr) (w : World) (R : Env → World → Prop) : Prop :=
  C89 l1 w fun r5 vw6 =>
    R [(8, r5), (7, Slc.v l1), (5, .pointer (some a5)), (4, .pointer (some a4)), (3, .bool false), (2, .pointer (some a2)), (0, Slc.v l1)] vw6
set_option maxRecDepth 100000 in
theorem EBoxD (l1 : Slc) (a2 : Addr) (a4 : Addr) (a5 : Addr) (w : World) (R : Env → World → Prop) : codeY Tryd.prog ⟨FF, MAY, (fun _ _ => False)⟩ pBoxD cBoxD [(5, .pointer (some a5)), (4, .pointer (some a4)), (3, .bool false), (2, .pointer (some a2)), (0, Slc.v l1)] w (nrm R) = SBoxD l1 a2 a4 a5 w R := by kernel_rfl
noncomputable def cBoxE : Code := (rfa (bk (sq2 (sq1 (sq2 (sq2 (sq2 (Tryd.f29.body.getD .skip))))))))
def pBoxE : Plan := (.reg .seq)
def SBoxE (a4 : Addr) (a5 : Addr) (x : Int) (y : Int) (w : World) (R : Env → World → Prop) : Prop :=
  Nw w (.cells #[.int .i64 0, .int .i64 0] 43) fun vw7 =>
  St vw7 (⟨w.heap.size, 0, none⟩ : Addr) (.int .i64 x) fun vw8 =>
  St vw8 ((⟨w.heap.size, 0, none⟩ : Addr).add 1) (.int .i64 y) fun vw9 =>
  R [(6, .pointer (some (⟨w.heap.size, 0, none⟩ : Addr))), (9, .agg #[.int .i64 x, .int .i64 y]), (5, .pointer (some a5)), (4, .pointer (some a4))] vw9
set_option maxRecDepth 100000 in
theorem EBoxE (a4 : Addr) (a5 : Addr) (x : Int) (y : Int) (w : World) (R : Env → World → Prop) : codeY Tryd.prog ⟨FF, MAY, (fun _ _ => False)⟩ pBoxE cBoxE [(9, .agg #[.int .i64 x, .int .i64 y]), (5, .pointer (some a5)), (4, .pointer (some a4))] w (nrm R) = SBoxE a4 a5 x y w R := by kernel_rfl
noncomputable def cBoxF : Code := (rfb (bk (sq2 (sq1 (sq2 (sq2 (sq2 (Tryd.f29.body.getD .skip))))))))
def pBoxF : Plan := (.block (.seq (.seq (.reg .seq) (.cond (.reg .seq) .leaf)) (.seq (.reg .seq) (.reg .seq))))
def SBoxF (a4 : Addr) (a5 : Addr) (a6 : Addr) (x : Int) (y : Int) (w : World) (R : World → Prop) : Prop :=
  Ld w a5 Value.bool fun (x19 : Bool) =>
  Br (!x19) (Ld w a6 (Value.int .i64) fun (x20 : Int) =>
    Ld w (a6.add 1) (Value.int .i64) fun (x21 : Int) =>
    Ld w a6 (Value.int .i64) fun (x22 : Int) =>
    Ld w (a6.add 1) (Value.int .i64) fun (x23 : Int) =>
    St w a4 (.int .i64 x20) fun vw24 =>
    St vw24 (a4.add 1) (.int .i64 x21) fun vw25 =>
    St vw25 (a4.add 2) (.int .i64 x22) fun vw26 =>
    St vw26 (a4.add 3) (.int .i64 x23) fun vw27 =>
    St vw27 a5 (.bool true) fun vw28 =>
    Ld vw28 a4 (Value.int .i64) fun (x29 : Int) =>
    Ld vw28 a6 (Value.int .i64) fun (x30 : Int) =>
    Ld vw28 (a4.add 1) (Value.int .i64) fun (x31 : Int) =>
    Ld vw28 (a6.add 1) (Value.int .i64) fun (x32 : Int) =>
    Ld vw28 (a4.add 2) (Value.int .i64) fun (x33 : Int) =>
    Ld vw28 a6 (Value.int .i64) fun (x34 : Int) =>
    Ld vw28 (a4.add 3) (Value.int .i64) fun (x35 : Int) =>
    Ld vw28 (a6.add 1) (Value.int .i64) fun (x36 : Int) =>
    St vw28 a4 (.int .i64 (if x30 < x29 then x30 else x29)) fun vw37 =>
    St vw37 (a4.add 1) (.int .i64 (if x32 < x31 then x32 else x31)) fun vw38 =>
    St vw38 (a4.add 2) (.int .i64 (if x34 > x33 then x34 else x33)) fun vw39 =>
    St vw39 (a4.add 3) (.int .i64 (if x36 > x35 then x36 else x35)) fun vw40 =>
    R vw40) (St w a5 (.bool true) fun vw41 =>
    Ld vw41 a4 (Value.int .i64) fun (x42 : Int) =>
    Ld vw41 a6 (Value.int .i64) fun (x43 : Int) =>
    Ld vw41 (a4.add 1) (Value.int .i64) fun (x44 : Int) =>
    Ld vw41 (a6.add 1) (Value.int .i64) fun (x45 : Int) =>
    Ld vw41 (a4.add 2) (Value.int .i64) fun (x46 : Int) =>
    Ld vw41 a6 (Value.int .i64) fun (x47 : Int) =>
    Ld vw41 (a4.add 3) (Value.int .i64) fun (x48 : Int) =>
    Ld vw41 (a6.add 1) (Value.int .i64) fun (x49 : Int) =>
    St vw41 a4 (.int .i64 (if x43 < x42 then x43 else x42)) fun vw50 =>
    St vw50 (a4.add 1) (.int .i64 (if x45 < x44 then x45 else x44)) fun vw51 =>
    St vw51 (a4.add 2) (.int .i64 (if x47 > x46 then x47 else x46)) fun vw52 =>
    St vw52 (a4.add 3) (.int .i64 (if x49 > x48 then x49 else x48)) fun vw53 =>
    R vw53)
set_option maxRecDepth 100000 in
theorem EBoxF (a4 : Addr) (a5 : Addr) (a6 : Addr) (x : Int) (y : Int) (w : World) (R : World → Prop) : codeY Tryd.prog ⟨FF, MAY, (fun _ _ => False)⟩ pBoxF cBoxF [(6, .pointer (some a6)), (9, .agg #[.int .i64 x, .int .i64 y]), (5, .pointer (some a5)), (4, .pointer (some a4))] w (nrm fun _ => R) = SBoxF a4 a5 a6 x y w R := by kernel_rfl
/-- The results' slots, at the end. -/
def rtK (R : Addr → Bool → World → Prop) : Exit → Env → World → Prop := fun e E w => match e with
  | .ret => (match E.get? 2, E.get? 3 with
    | some (.pointer (some a)), some (.bool b) => R a b w
    | _, _ => False)
  | _ => False
noncomputable def cBoxG : Code := (sq2 (sq2 (sq2 (sq2 (Tryd.f29.body.getD .skip)))))
def pBoxG : Plan := (.seq (.reg (.held [] (.take 0 (.take 1 (.eff 2 none (.take 3 .done)))))) .leaf)
def SBoxG (a2 : Addr) (a4 : Addr) (a5 : Addr) (w : World) (R : Addr → Bool → World → Prop) : Prop :=
  ∃ vS54 : World → Prop, vS54 w.drew ∧ LdS vS54 a4 (Value.int .i64) fun (x55 : Int) =>
  LdS vS54 (a4.add 1) (Value.int .i64) fun (x56 : Int) =>
  LdS vS54 (a4.add 2) (Value.int .i64) fun (x57 : Int) =>
  LdS vS54 (a4.add 3) (Value.int .i64) fun (x58 : Int) =>
  LdS vS54 a5 Value.bool fun (x59 : Bool) =>
  St w.drew a2 (.int .i64 x55) fun vw60 =>
  St vw60 (a2.add 1) (.int .i64 x56) fun vw61 =>
  St vw61 (a2.add 2) (.int .i64 x57) fun vw62 =>
  St vw62 (a2.add 3) (.int .i64 x58) fun vw63 =>
  vS54 vw63 ∧ R a2 x59 vw63
set_option maxRecDepth 100000 in
theorem EBoxG (a2 : Addr) (a4 : Addr) (a5 : Addr) (w : World) (R : Addr → Bool → World → Prop) : codeT Tryd.prog ⟨FF, MAY, (fun _ _ => False)⟩ pBoxG cBoxG [(5, .pointer (some a5)), (4, .pointer (some a4)), (2, .pointer (some a2))] w (rtK R) = SBoxG a2 a4 a5 w R := by kernel_rfl
def SBoxH (a2 : Addr) (b3 : Bool) (w : World) (R : (Int × Int × Int × Int) → Bool → World → Prop) : Prop :=
  Ld w a2 (Value.int .i64) fun (x64 : Int) =>
  Ld w (a2.add 1) (Value.int .i64) fun (x65 : Int) =>
  Ld w (a2.add 2) (Value.int .i64) fun (x66 : Int) =>
  Ld w (a2.add 3) (Value.int .i64) fun (x67 : Int) =>
  R (x64, x65, x66, x67) b3 w
theorem EBoxH (a2 : Addr) (b3 : Bool) (w : World) (R : (Int × Int × Int × Int) → Bool → World → Prop) : finT Tryd.prog Tryd.f29 [(.agg [(.int .i64), (.int .i64), (.int .i64), (.int .i64)]), (.one .bool)] (fun s w => R s.1 s.2 w) [(3, .bool b3), (2, .pointer (some a2))] w = SBoxH a2 b3 w R := by kernel_rfl
end Go.Proofs.YtjbeembbnkmpeaaDoor

/- Box: the bounding box. Conditions: at most 100000 segments. -/
namespace Go.Proofs.YtjbeembbnkmpeaaDoor
namespace Pat
open Sh Mat Fix Opr
open Go.RowKit
set_option linter.unusedVariables false
set_option linter.unusedSimpArgs false
set_option maxRecDepth 100000
set_option maxHeartbeats 4000000
theorem boxP_snoc (pre : List (Int × Int)) (x : Int × Int) : boxP (pre ++ [x]) = (addB (if (boxP pre).2 = true then (boxP pre).1 else (x.1, x.2, x.1, x.2)) x, true) := by
  cases pre with
  | nil => rfl
  | cons p r => simp [boxP, List.foldl_append]
def bxC (b : Bx) : Array Value := #[.int .i64 b.1, .int .i64 b.2.1, .int .i64 b.2.2.1, .int .i64 b.2.2.2]
theorem mn (a b : Int) : (if a < b then a else b) = min b a := by rw [Int.min_def]; split <;> split <;> omega
theorem mx (a b : Int) : (if a > b then a else b) = max b a := by rw [Int.max_def]; split <;> split <;> omega
section
variable {w0 w W W' : World} {s : Slc} {L : List Sg} {b2 b4 b5 b6 : Nat}
attribute [local irreducible] Ld Sh.St Nw Nn LdS LdT LdST StT
/-- One round. -/
theorem box_round {b : Bx} {f : Bool} {x y : Int} {t4 t5 t6 : TypeId} {R : World → Prop} (h4 : Blk W b4 (bxC b) t4) (h5 : Blk W b5 #[.bool f] t5) (h6 : Blk W b6 #[.int .i64 x, .int .i64 y] t6) (n45 : b4 ≠ b5) (n46 : b4 ≠ b6) (n56 : b5 ≠ b6)
    (hR : ∀ W', Blk W' b4 (bxC (addB (if f = true then b else (x, y, x, y)) (x, y))) t4 → Blk W' b5 #[.bool true] t5 → Ext (fun j => j = b4 ∨ j = b5) W W' → R W') : SBoxF ⟨b4, 0, none⟩ ⟨b5, 0, none⟩ ⟨b6, 0, none⟩ x y W R := by
  have H : Hx W (fun j => j = b4 ∨ j = b5) W [(b4, bxC b, t4), (b5, #[.bool f], t5), (b6, #[.int .i64 x, .int .i64 y], t6)] := ⟨fun p hp => by
      simp only [List.mem_cons, List.not_mem_nil, or_false] at hp
      rcases hp with rfl | rfl | rfl
      · exact h4
      · exact h5
      · exact h6, by simp [n45, n46, n56], Ext.refl _ _⟩
  unfold bxC at H
  unfold SBoxF
  refine H.ld 1 rfl rfl ?_
  cases f with
  | false =>
    refine Br.t rfl ?_
    refine H.ld 2 rfl rfl (H.ld 2 rfl rfl (H.ld 2 rfl rfl (H.ld 2 rfl rfl ?_)))
    iterate 4 (refine H.st 0 rfl (by simp) (.inl (.inl rfl)) fun _ H => ?_)
    refine H.st 1 rfl (by simp) (.inl (.inr rfl)) fun _ H => ?_
    refine H.ld 0 rfl rfl (H.ld 2 rfl rfl (H.ld 0 rfl rfl (H.ld 2 rfl rfl (H.ld 0 rfl rfl (H.ld 2 rfl rfl (H.ld 0 rfl rfl (H.ld 2 rfl rfl ?_)))))))
    iterate 4 (refine H.st 0 rfl (by simp) (.inl (.inl rfl)) fun _ H => ?_)
    have g4 := H.get 0 rfl
    have g5 := H.get 1 rfl
    refine hR _ ?_ g5 H.ext
    simp only [mn, mx] at g4
    exact g4
  | true =>
    refine Br.f rfl ?_
    refine H.st 1 rfl (by simp) (.inl (.inr rfl)) fun _ H => ?_
    refine H.ld 0 rfl rfl (H.ld 2 rfl rfl (H.ld 0 rfl rfl (H.ld 2 rfl rfl (H.ld 0 rfl rfl (H.ld 2 rfl rfl (H.ld 0 rfl rfl (H.ld 2 rfl rfl ?_)))))))
    iterate 4 (refine H.st 0 rfl (by simp) (.inl (.inl rfl)) fun _ H => ?_)
    have g4 := H.get 0 rfl
    have g5 := H.get 1 rfl
    refine hR _ ?_ g5 H.ext
    simp only [mn, mx] at g4
    exact g4
end
end Pat
end Go.Proofs.YtjbeembbnkmpeaaDoor
