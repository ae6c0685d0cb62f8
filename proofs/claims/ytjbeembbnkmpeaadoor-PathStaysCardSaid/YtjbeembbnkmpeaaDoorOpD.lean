/- Content operators: the reference's Takes and Check. Condition: none. -/
import Derived.Test.YtjbeembbnkmpeaaDoorOpC
namespace Go.Proofs.YtjbeembbnkmpeaaDoor
namespace Opr
open Sh Mat
set_option linter.unusedVariables false
set_option linter.unusedSimpArgs false
set_option maxRecDepth 8000
set_option maxHeartbeats 8000000
attribute [local irreducible] Ld St Nw Nn Lt LdS
section
variable {w w1 : World} {s : Slc} {L : List By}
theorem BrB {a b : ByteArray} {A B : Prop} (h1 : bl a = bl b → A) (h2 : ¬ bl a = bl b → B) : Br (a.toList == b.toList) A B := by rw [eqB]; exact Br.dec h1 h2
theorem r_takes (name : ByteArray) (w : World) : C104 name w fun r w1 => r = ba (takes (bl name)) ∧ w1 = w := by
  refine T104 _ _ _ ?_
  unfold S104
  have ev : ∀ l : By, bl (⟨l.toArray⟩ : ByteArray) = l := fun l => rfl
  refine ⟨fun m w1 => w1 = w ∧ m = decide (bl name ∈ ([[98], [66], [98, 42], [66, 42], [66, 84], [69, 84], [69, 77, 67], [66, 88], [69, 88], [102], [70], [102, 42], [104], [110], [113], [81], [115], [83], [84, 42], [87], [87, 42]] : List By)), ?_, ?_⟩
  rotate_left
  · skip
    refine BrB (fun h => ⟨rfl, by rw [eqB, decide_eq_true h, decide_eq_true]; rw [h]; decide⟩) fun h0 => ?_
    refine BrB (fun h => ⟨rfl, by rw [eqB, decide_eq_true h, decide_eq_true]; rw [h]; decide⟩) fun h1 => ?_
    refine BrB (fun h => ⟨rfl, by rw [eqB, decide_eq_true h, decide_eq_true]; rw [h]; decide⟩) fun h2 => ?_
    refine BrB (fun h => ⟨rfl, by rw [eqB, decide_eq_true h, decide_eq_true]; rw [h]; decide⟩) fun h3 => ?_
    refine BrB (fun h => ⟨rfl, by rw [eqB, decide_eq_true h, decide_eq_true]; rw [h]; decide⟩) fun h4 => ?_
    refine BrB (fun h => ⟨rfl, by rw [eqB, decide_eq_true h, decide_eq_true]; rw [h]; decide⟩) fun h5 => ?_
    refine BrB (fun h => ⟨rfl, by rw [eqB, decide_eq_true h, decide_eq_true]; rw [h]; decide⟩) fun h6 => ?_
    refine BrB (fun h => ⟨rfl, by rw [eqB, decide_eq_true h, decide_eq_true]; rw [h]; decide⟩) fun h7 => ?_
    refine BrB (fun h => ⟨rfl, by rw [eqB, decide_eq_true h, decide_eq_true]; rw [h]; decide⟩) fun h8 => ?_
    refine BrB (fun h => ⟨rfl, by rw [eqB, decide_eq_true h, decide_eq_true]; rw [h]; decide⟩) fun h9 => ?_
    refine BrB (fun h => ⟨rfl, by rw [eqB, decide_eq_true h, decide_eq_true]; rw [h]; decide⟩) fun h10 => ?_
    refine BrB (fun h => ⟨rfl, by rw [eqB, decide_eq_true h, decide_eq_true]; rw [h]; decide⟩) fun h11 => ?_
    refine BrB (fun h => ⟨rfl, by rw [eqB, decide_eq_true h, decide_eq_true]; rw [h]; decide⟩) fun h12 => ?_
    refine BrB (fun h => ⟨rfl, by rw [eqB, decide_eq_true h, decide_eq_true]; rw [h]; decide⟩) fun h13 => ?_
    refine BrB (fun h => ⟨rfl, by rw [eqB, decide_eq_true h, decide_eq_true]; rw [h]; decide⟩) fun h14 => ?_
    refine BrB (fun h => ⟨rfl, by rw [eqB, decide_eq_true h, decide_eq_true]; rw [h]; decide⟩) fun h15 => ?_
    refine BrB (fun h => ⟨rfl, by rw [eqB, decide_eq_true h, decide_eq_true]; rw [h]; decide⟩) fun h16 => ?_
    refine BrB (fun h => ⟨rfl, by rw [eqB, decide_eq_true h, decide_eq_true]; rw [h]; decide⟩) fun h17 => ?_
    refine BrB (fun h => ⟨rfl, by rw [eqB, decide_eq_true h, decide_eq_true]; rw [h]; decide⟩) fun h18 => ?_
    refine BrB (fun h => ⟨rfl, by rw [eqB, decide_eq_true h, decide_eq_true]; rw [h]; decide⟩) fun h19 => ?_
    refine ⟨rfl, (eqB _ _).trans (decide_eq_decide.2 ⟨fun h => by rw [h]; decide, fun h => ?_⟩)⟩
    simp only [List.mem_cons, List.not_mem_nil, or_false] at h
    rcases h with h | h | h | h | h | h | h | h | h | h | h | h | h | h | h | h | h | h | h | h | h
    · exact absurd h h0
    · exact absurd h h1
    · exact absurd h h2
    · exact absurd h h3
    · exact absurd h h4
    · exact absurd h h5
    · exact absurd h h6
    · exact absurd h h7
    · exact absurd h h8
    · exact absurd h h9
    · exact absurd h h10
    · exact absurd h h11
    · exact absurd h h12
    · exact absurd h h13
    · exact absurd h h14
    · exact absurd h h15
    · exact absurd h h16
    · exact absurd h h17
    · exact absurd h h18
    · exact absurd h h19
    · exact h
  rintro m w1 ⟨hw, rfl⟩
  rw [hw]
  clear hw w1
  unfold S104J9
  refine Br.dec (fun q0 => ⟨by unfold takes rows; simp only [takesL, if_pos q0]; rfl, rfl⟩) fun q0 => ?_
  refine ⟨fun m w1 => w1 = w ∧ m = decide (bl name ∈ ([[103], [71], [105], [106], [74], [77], [119], [84, 99], [84, 76], [84, 114], [84, 115], [84, 119], [84, 122]] : List By)), ?_, ?_⟩
  rotate_left
  · skip
    refine BrB (fun h => ⟨rfl, by rw [eqB, decide_eq_true h, decide_eq_true]; rw [h]; decide⟩) fun h0 => ?_
    refine BrB (fun h => ⟨rfl, by rw [eqB, decide_eq_true h, decide_eq_true]; rw [h]; decide⟩) fun h1 => ?_
    refine BrB (fun h => ⟨rfl, by rw [eqB, decide_eq_true h, decide_eq_true]; rw [h]; decide⟩) fun h2 => ?_
    refine BrB (fun h => ⟨rfl, by rw [eqB, decide_eq_true h, decide_eq_true]; rw [h]; decide⟩) fun h3 => ?_
    refine BrB (fun h => ⟨rfl, by rw [eqB, decide_eq_true h, decide_eq_true]; rw [h]; decide⟩) fun h4 => ?_
    refine BrB (fun h => ⟨rfl, by rw [eqB, decide_eq_true h, decide_eq_true]; rw [h]; decide⟩) fun h5 => ?_
    refine BrB (fun h => ⟨rfl, by rw [eqB, decide_eq_true h, decide_eq_true]; rw [h]; decide⟩) fun h6 => ?_
    refine BrB (fun h => ⟨rfl, by rw [eqB, decide_eq_true h, decide_eq_true]; rw [h]; decide⟩) fun h7 => ?_
    refine BrB (fun h => ⟨rfl, by rw [eqB, decide_eq_true h, decide_eq_true]; rw [h]; decide⟩) fun h8 => ?_
    refine BrB (fun h => ⟨rfl, by rw [eqB, decide_eq_true h, decide_eq_true]; rw [h]; decide⟩) fun h9 => ?_
    refine BrB (fun h => ⟨rfl, by rw [eqB, decide_eq_true h, decide_eq_true]; rw [h]; decide⟩) fun h10 => ?_
    refine BrB (fun h => ⟨rfl, by rw [eqB, decide_eq_true h, decide_eq_true]; rw [h]; decide⟩) fun h11 => ?_
    refine ⟨rfl, (eqB _ _).trans (decide_eq_decide.2 ⟨fun h => by rw [h]; decide, fun h => ?_⟩)⟩
    simp only [List.mem_cons, List.not_mem_nil, or_false] at h
    rcases h with h | h | h | h | h | h | h | h | h | h | h | h | h
    · exact absurd h h0
    · exact absurd h h1
    · exact absurd h h2
    · exact absurd h h3
    · exact absurd h h4
    · exact absurd h h5
    · exact absurd h h6
    · exact absurd h h7
    · exact absurd h h8
    · exact absurd h h9
    · exact absurd h h10
    · exact absurd h h11
    · exact h
  rintro m w1 ⟨hw, rfl⟩
  rw [hw]
  clear hw w1
  unfold S104J8
  refine Br.dec (fun q1 => ⟨by unfold takes rows; simp only [takesL, if_neg q0, if_pos q1]; rfl, rfl⟩) fun q1 => ?_
  refine ⟨fun m w1 => w1 = w ∧ m = decide (bl name ∈ ([[100, 48], [108], [109], [84, 100], [84, 68]] : List By)), ?_, ?_⟩
  rotate_left
  · skip
    refine BrB (fun h => ⟨rfl, by rw [eqB, decide_eq_true h, decide_eq_true]; rw [h]; decide⟩) fun h0 => ?_
    refine BrB (fun h => ⟨rfl, by rw [eqB, decide_eq_true h, decide_eq_true]; rw [h]; decide⟩) fun h1 => ?_
    refine BrB (fun h => ⟨rfl, by rw [eqB, decide_eq_true h, decide_eq_true]; rw [h]; decide⟩) fun h2 => ?_
    refine BrB (fun h => ⟨rfl, by rw [eqB, decide_eq_true h, decide_eq_true]; rw [h]; decide⟩) fun h3 => ?_
    refine ⟨rfl, (eqB _ _).trans (decide_eq_decide.2 ⟨fun h => by rw [h]; decide, fun h => ?_⟩)⟩
    simp only [List.mem_cons, List.not_mem_nil, or_false] at h
    rcases h with h | h | h | h | h
    · exact absurd h h0
    · exact absurd h h1
    · exact absurd h h2
    · exact absurd h h3
    · exact h
  rintro m w1 ⟨hw, rfl⟩
  rw [hw]
  clear hw w1
  unfold S104J7
  refine Br.dec (fun q2 => ⟨by unfold takes rows; simp only [takesL, if_neg q0, if_neg q1, if_pos q2]; rfl, rfl⟩) fun q2 => ?_
  refine ⟨fun m w1 => w1 = w ∧ m = decide (bl name ∈ ([[114, 103], [82, 71]] : List By)), ?_, ?_⟩
  rotate_left
  · skip
    refine BrB (fun h => ⟨rfl, by rw [eqB, decide_eq_true h, decide_eq_true]; rw [h]; decide⟩) fun h0 => ?_
    refine ⟨rfl, (eqB _ _).trans (decide_eq_decide.2 ⟨fun h => by rw [h]; decide, fun h => ?_⟩)⟩
    simp only [List.mem_cons, List.not_mem_nil, or_false] at h
    rcases h with h | h
    · exact absurd h h0
    · exact h
  rintro m w1 ⟨hw, rfl⟩
  rw [hw]
  clear hw w1
  unfold S104J6
  refine Br.dec (fun q3 => ⟨by unfold takes rows; simp only [takesL, if_neg q0, if_neg q1, if_neg q2, if_pos q3]; rfl, rfl⟩) fun q3 => ?_
  refine ⟨fun m w1 => w1 = w ∧ m = decide (bl name ∈ ([[107], [75], [114, 101], [118], [121]] : List By)), ?_, ?_⟩
  rotate_left
  · skip
    refine BrB (fun h => ⟨rfl, by rw [eqB, decide_eq_true h, decide_eq_true]; rw [h]; decide⟩) fun h0 => ?_
    refine BrB (fun h => ⟨rfl, by rw [eqB, decide_eq_true h, decide_eq_true]; rw [h]; decide⟩) fun h1 => ?_
    refine BrB (fun h => ⟨rfl, by rw [eqB, decide_eq_true h, decide_eq_true]; rw [h]; decide⟩) fun h2 => ?_
    refine BrB (fun h => ⟨rfl, by rw [eqB, decide_eq_true h, decide_eq_true]; rw [h]; decide⟩) fun h3 => ?_
    refine ⟨rfl, (eqB _ _).trans (decide_eq_decide.2 ⟨fun h => by rw [h]; decide, fun h => ?_⟩)⟩
    simp only [List.mem_cons, List.not_mem_nil, or_false] at h
    rcases h with h | h | h | h | h
    · exact absurd h h0
    · exact absurd h h1
    · exact absurd h h2
    · exact absurd h h3
    · exact h
  rintro m w1 ⟨hw, rfl⟩
  rw [hw]
  clear hw w1
  unfold S104J5
  refine Br.dec (fun q4 => ⟨by unfold takes rows; simp only [takesL, if_neg q0, if_neg q1, if_neg q2, if_neg q3, if_pos q4]; rfl, rfl⟩) fun q4 => ?_
  refine ⟨fun m w1 => w1 = w ∧ m = decide (bl name ∈ ([[99], [99, 109], [100, 49], [84, 109]] : List By)), ?_, ?_⟩
  rotate_left
  · skip
    refine BrB (fun h => ⟨rfl, by rw [eqB, decide_eq_true h, decide_eq_true]; rw [h]; decide⟩) fun h0 => ?_
    refine BrB (fun h => ⟨rfl, by rw [eqB, decide_eq_true h, decide_eq_true]; rw [h]; decide⟩) fun h1 => ?_
    refine BrB (fun h => ⟨rfl, by rw [eqB, decide_eq_true h, decide_eq_true]; rw [h]; decide⟩) fun h2 => ?_
    refine ⟨rfl, (eqB _ _).trans (decide_eq_decide.2 ⟨fun h => by rw [h]; decide, fun h => ?_⟩)⟩
    simp only [List.mem_cons, List.not_mem_nil, or_false] at h
    rcases h with h | h | h | h
    · exact absurd h h0
    · exact absurd h h1
    · exact absurd h h2
    · exact h
  rintro m w1 ⟨hw, rfl⟩
  rw [hw]
  clear hw w1
  unfold S104J4
  refine Br.dec (fun q5 => ⟨by unfold takes rows; simp only [takesL, if_neg q0, if_neg q1, if_neg q2, if_neg q3, if_neg q4, if_pos q5]; rfl, rfl⟩) fun q5 => ?_
  refine ⟨fun m w1 => w1 = w ∧ m = decide (bl name ∈ ([[66, 77, 67], [99, 115], [67, 83], [68, 111], [103, 115], [77, 80], [114, 105], [115, 104]] : List By)), ?_, ?_⟩
  rotate_left
  · skip
    refine BrB (fun h => ⟨rfl, by rw [eqB, decide_eq_true h, decide_eq_true]; rw [h]; decide⟩) fun h0 => ?_
    refine BrB (fun h => ⟨rfl, by rw [eqB, decide_eq_true h, decide_eq_true]; rw [h]; decide⟩) fun h1 => ?_
    refine BrB (fun h => ⟨rfl, by rw [eqB, decide_eq_true h, decide_eq_true]; rw [h]; decide⟩) fun h2 => ?_
    refine BrB (fun h => ⟨rfl, by rw [eqB, decide_eq_true h, decide_eq_true]; rw [h]; decide⟩) fun h3 => ?_
    refine BrB (fun h => ⟨rfl, by rw [eqB, decide_eq_true h, decide_eq_true]; rw [h]; decide⟩) fun h4 => ?_
    refine BrB (fun h => ⟨rfl, by rw [eqB, decide_eq_true h, decide_eq_true]; rw [h]; decide⟩) fun h5 => ?_
    refine BrB (fun h => ⟨rfl, by rw [eqB, decide_eq_true h, decide_eq_true]; rw [h]; decide⟩) fun h6 => ?_
    refine ⟨rfl, (eqB _ _).trans (decide_eq_decide.2 ⟨fun h => by rw [h]; decide, fun h => ?_⟩)⟩
    simp only [List.mem_cons, List.not_mem_nil, or_false] at h
    rcases h with h | h | h | h | h | h | h | h
    · exact absurd h h0
    · exact absurd h h1
    · exact absurd h h2
    · exact absurd h h3
    · exact absurd h h4
    · exact absurd h h5
    · exact absurd h h6
    · exact h
  rintro m w1 ⟨hw, rfl⟩
  rw [hw]
  clear hw w1
  unfold S104J3
  refine Br.dec (fun q6 => ⟨by unfold takes rows; simp only [takesL, if_neg q0, if_neg q1, if_neg q2, if_neg q3, if_neg q4, if_neg q5, if_pos q6]; rfl, rfl⟩) fun q6 => ?_
  refine BrB (fun h => ?_) fun h => ?_
  · have q7 : bl name ∈ ([[84, 102]] : List By) := by rw [show bl name = [84, 102] from h]; decide
    exact ⟨by unfold takes rows; simp only [takesL, if_neg q0, if_neg q1, if_neg q2, if_neg q3, if_neg q4, if_neg q5, if_neg q6, if_pos q7]; rfl, rfl⟩
  have q7 : bl name ∉ ([[84, 102]] : List By) := fun hh => h (List.mem_singleton.1 hh)
  clear h
  refine ⟨fun m w1 => w1 = w ∧ m = decide (bl name ∈ ([[66, 68, 67], [68, 80]] : List By)), ?_, ?_⟩
  rotate_left
  · skip
    refine BrB (fun h => ⟨rfl, by rw [eqB, decide_eq_true h, decide_eq_true]; rw [h]; decide⟩) fun h0 => ?_
    refine ⟨rfl, (eqB _ _).trans (decide_eq_decide.2 ⟨fun h => by rw [h]; decide, fun h => ?_⟩)⟩
    simp only [List.mem_cons, List.not_mem_nil, or_false] at h
    rcases h with h | h
    · exact absurd h h0
    · exact h
  rintro m w1 ⟨hw, rfl⟩
  rw [hw]
  clear hw w1
  unfold S104J2
  refine Br.dec (fun q8 => ⟨by unfold takes rows; simp only [takesL, if_neg q0, if_neg q1, if_neg q2, if_neg q3, if_neg q4, if_neg q5, if_neg q6, if_neg q7, if_pos q8]; rfl, rfl⟩) fun q8 => ?_
  refine ⟨fun m w1 => w1 = w ∧ m = decide (bl name ∈ ([[84, 106], [39]] : List By)), ?_, ?_⟩
  rotate_left
  · skip
    refine BrB (fun h => ⟨rfl, by rw [eqB, decide_eq_true h, decide_eq_true]; rw [h]; decide⟩) fun h0 => ?_
    refine ⟨rfl, (eqB _ _).trans (decide_eq_decide.2 ⟨fun h => by rw [h]; decide, fun h => ?_⟩)⟩
    simp only [List.mem_cons, List.not_mem_nil, or_false] at h
    rcases h with h | h
    · exact absurd h h0
    · exact h
  rintro m w1 ⟨hw, rfl⟩
  rw [hw]
  clear hw w1
  unfold S104J1
  refine Br.dec (fun q9 => ⟨by unfold takes rows; simp only [takesL, if_neg q0, if_neg q1, if_neg q2, if_neg q3, if_neg q4, if_neg q5, if_neg q6, if_neg q7, if_neg q8, if_pos q9]; rfl, rfl⟩) fun q9 => ?_
  refine BrB (fun h => ?_) fun h => ?_
  · have q10 : bl name ∈ ([[34]] : List By) := by rw [show bl name = [34] from h]; decide
    exact ⟨by unfold takes rows; simp only [takesL, if_neg q0, if_neg q1, if_neg q2, if_neg q3, if_neg q4, if_neg q5, if_neg q6, if_neg q7, if_neg q8, if_neg q9, if_pos q10]; rfl, rfl⟩
  have q10 : bl name ∉ ([[34]] : List By) := fun hh => h (List.mem_singleton.1 hh)
  clear h
  refine BrB (fun h => ?_) fun h => ?_
  · have q11 : bl name ∈ ([[84, 74]] : List By) := by rw [show bl name = [84, 74] from h]; decide
    exact ⟨by unfold takes rows; simp only [takesL, if_neg q0, if_neg q1, if_neg q2, if_neg q3, if_neg q4, if_neg q5, if_neg q6, if_neg q7, if_neg q8, if_neg q9, if_neg q10, if_pos q11]; rfl, rfl⟩
  have q11 : bl name ∉ ([[84, 74]] : List By) := fun hh => h (List.mem_singleton.1 hh)
  clear h
  refine BrB (fun h => ?_) fun h => ?_
  · have q12 : bl name ∈ ([[100]] : List By) := by rw [show bl name = [100] from h]; decide
    exact ⟨by unfold takes rows; simp only [takesL, if_neg q0, if_neg q1, if_neg q2, if_neg q3, if_neg q4, if_neg q5, if_neg q6, if_neg q7, if_neg q8, if_neg q9, if_neg q10, if_neg q11, if_pos q12]; rfl, rfl⟩
  have q12 : bl name ∉ ([[100]] : List By) := fun hh => h (List.mem_singleton.1 hh)
  clear h
  refine BrB (fun h => ?_) fun h => ?_
  · have q13 : bl name ∈ ([[66, 73]] : List By) := by rw [show bl name = [66, 73] from h]; decide
    exact ⟨by unfold takes rows; simp only [takesL, if_neg q0, if_neg q1, if_neg q2, if_neg q3, if_neg q4, if_neg q5, if_neg q6, if_neg q7, if_neg q8, if_neg q9, if_neg q10, if_neg q11, if_neg q12, if_pos q13]; rfl, rfl⟩
  have q13 : bl name ∉ ([[66, 73]] : List By) := fun hh => h (List.mem_singleton.1 hh)
  clear h
  exact ⟨by unfold takes rows; simp only [takesL, if_neg q0, if_neg q1, if_neg q2, if_neg q3, if_neg q4, if_neg q5, if_neg q6, if_neg q7, if_neg q8, if_neg q9, if_neg q10, if_neg q11, if_neg q12, if_neg q13]; rfl, rfl⟩
theorem r_fits (o : Ob) (b : UInt8) (w : World) : C105 o ((b.toNat : Nat) : Int) w fun r w1 => r = fitsK b o.1 ∧ Ext (fun _ => False) w w1 := by
  refine T105 _ _ _ _ ?_
  unfold S105 fitsK
  have e : ∀ c : UInt8, (((b.toNat : Nat) : Int) = ((c.toNat : Nat) : Int)) ↔ b = c := fun c => ⟨fun h => UInt8.toNat_inj.1 (by omega), fun h => by rw [h]⟩
  refine (Hn.start w).nw fun w2 H => ?_
  simp only [List.nil_append] at H
  have he := H.ext
  refine Br.eq (fun q => ?_) fun q => ?_
  · rw [if_pos ((e 110).1 q)]
    refine H.ld 0 rfl rfl (Br.eq (fun q2 => ⟨by rw [q2]; rfl, he⟩) fun q2 => H.ld 0 rfl rfl ⟨by simp [q2], he⟩)
  rw [if_neg fun h => q ((e 110).2 h)]
  refine Br.eq (fun q => ?_) fun q => ?_
  · rw [if_pos ((e 115).1 q)]
    exact H.ld 0 rfl rfl ⟨rfl, he⟩
  rw [if_neg fun h => q ((e 115).2 h)]
  refine Br.eq (fun q => ?_) fun q => ?_
  · rw [if_pos ((e 78).1 q)]
    exact H.ld 0 rfl rfl ⟨rfl, he⟩
  rw [if_neg fun h => q ((e 78).2 h)]
  refine Br.eq (fun q => ?_) fun q => ?_
  · rw [if_pos ((e 97).1 q)]
    exact H.ld 0 rfl rfl ⟨rfl, he⟩
  rw [if_neg fun h => q ((e 97).2 h)]
  refine Br.eq (fun q => ?_) fun q => ?_
  · rw [if_pos ((e 100).1 q)]
    exact H.ld 0 rfl rfl ⟨rfl, he⟩
  rw [if_neg fun h => q ((e 100).2 h)]
  exact ⟨rfl, he⟩
theorem r_check {name data : ByteArray} {s : Slc} {L : List Ob} (hL : OV w s L) (hlen : L.length ≤ 9223372036854775807) : C43 (name, s, data) w fun r w1 => r = chkF (bl name) L (bl data) ∧ Ext (fun _ => False) w w1 := by
  refine T43 (name, s, data) _ _ ?_
  unfold S43
  refine (Hn.start w).nw fun w2 H => ?_
  simp only [List.nil_append] at H
  iterate 1 refine H.ld 0 rfl rfl ?_
  refine (r_takes name _).mono ?_
  rintro t w3 ⟨rfl, rfl⟩
  obtain ⟨tl1, tl2⟩ := takes_low (bl name)
  rw [eqB, bl_ba]
  unfold chkF
  refine Br.dec (fun q => ⟨by rw [if_pos q], H.ext⟩) fun q => ?_
  have q' : takes (bl name) ≠ [63] := q
  rw [if_neg q']
  iterate 1 refine H.ld 0 rfl rfl ?_
  rw [ba_size, hL.1]
  refine Br.ne (fun q2 => ⟨by rw [if_pos (by omega)], H.ext⟩) fun q2 => ?_
  rw [if_neg (c := List.length (takes (bl name)) ≠ List.length L) (by omega)]
  generalize ht : takes (bl name) = t at *
  refine ⟨fun n st w4 => ∃ i : Nat, st = (i : Int) ∧ i ≤ t.length ∧ n = t.length - i ∧ Hn w w4 [(w.heap.size, [.string name, Slc.v s, .string data], 63)] ∧ ∀ j b o, j < i → t[j]? = some b → L[j]? = some o → fitsK b o.1 = true, t.length,
    ⟨0, rfl, by omega, rfl, H, fun j b o hj => by omega⟩, ?_⟩
  clear H
  rintro n st w4 ⟨i, rfl, hi, rfl, H, hall⟩
  unfold S43L1
  rw [ba_size]
  refine Br.dec (fun q3 => ?_) fun q3 => ?_
  · have q3 : i < t.length := by omega
    have H5 := H.drew
    refine H5.ld 0 rfl rfl ?_
    obtain ⟨o, ho⟩ : ∃ o, L[i]? = some o := ⟨_, List.getElem?_eq_getElem (by omega)⟩
    obtain ⟨a, ha, c0, c1, c2, c3, c4, c5⟩ := (hL.keep H5.ext).get ho
    rw [hL.1, ha, Int.toNat_natCast]
    refine ⟨by omega, by omega, Nn.of (Ld.mk c0 (Ld.mk c1 (Ld.mk c2 (Ld.mk c3 (Ld.mk c4 (Ld.mk c5 ⟨by omega, by omega, ?_⟩))))))⟩
    have hbt : bAt (ba t) (i : Int) = (((t.getD i 0).toNat : Nat) : Int) := by rw [bAt_list]; rfl
    rw [hbt]
    refine (r_fits o _ _).mono ?_
    rintro r w6 ⟨rfl, e6⟩
    have H6 := H5.keep e6
    by_cases hf : fitsK (t.getD i 0) o.1 = true
    · rw [hf]
      refine Br.f rfl ⟨t.length - (i + 1), by omega, i + 1, by rw [i64_id (by omega)]; rfl, by omega, rfl, H6, fun j b o' hj hb ho' => ?_⟩
      by_cases e : j = i
      · subst e
        rw [byte_at q3] at hb
        rw [ho] at ho'
        cases hb; cases ho'
        exact hf
      · exact hall j b o' (by omega) hb ho'
    · have hf : fitsK (t.getD i 0) o.1 = false := by simpa using hf
      rw [hf]
      exact Br.t rfl ⟨by rw [if_pos (fitsT_no (byte_at q3) ho hf)], H6.ext⟩
  · have hyes : fitsT t L = true := fitsT_yes fun j b o hb ho => hall j b o (by have := (List.getElem?_eq_some_iff.1 hb).1; omega) hb ho
    rw [if_neg (by rw [hyes]; simp)]
    iterate 1 refine H.ld 0 rfl rfl ?_
    rw [eqB]
    have e0 : bl (⟨#[]⟩ : ByteArray) = [] := rfl
    have e1 : bl (⟨#[66, 73]⟩ : ByteArray) = [66, 73] := rfl
    rw [e0]
    by_cases hd : bl data = []
    · rw [decide_eq_true hd, if_neg fun hh => hh.1 hd]
      exact Br.f rfl ⟨rfl, H.ext⟩
    · rw [decide_eq_false hd]
      refine Br.t rfl ?_
      iterate 1 refine H.ld 0 rfl rfl ?_
      rw [eqB, e1]
      by_cases hn : bl name = [66, 73]
      · rw [decide_eq_true hn, if_neg fun hh => hh.2 hn]
        exact Br.f rfl ⟨rfl, H.ext⟩
      · rw [decide_eq_false hn, if_pos ⟨hd, hn⟩]
        exact Br.t rfl ⟨rfl, H.ext⟩
end
end Opr
end Go.Proofs.YtjbeembbnkmpeaaDoor
