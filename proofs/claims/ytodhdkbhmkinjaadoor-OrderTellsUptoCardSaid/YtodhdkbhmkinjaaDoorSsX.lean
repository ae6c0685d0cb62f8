/- slices.SortFunc at rows of signs, by the kit's contract. Conditions: sizes; the places differ. -/
import Derived.Test.YtodhdkbhmkinjaaDoorSsF
import Derived.Test.YtodhdkbhmkinjaaDoorFnOl
namespace Go.Proofs.YtodhdkbhmkinjaaDoor
namespace Rdg
open Sh
set_option linter.unusedVariables false
set_option linter.unusedSimpArgs false
set_option maxRecDepth 4000
set_option maxHeartbeats 2000000
theorem ext_sortW (enc : Sg → List Value) (k : Nat) (w : World) (blk off m : Nat) (dk : Array Sg) (os : Array Obj) : Ext (· = blk) w (Go.Proofs.sortWorldK enc k w blk off m dk os) := by
  refine ⟨rfl, rfl, rfl, ?_, fun i hi hn => ?_⟩
  · show w.heap.size ≤ ((w.heap.modify blk _) ++ os).size
    rw [Array.size_append, Array.size_modify]
    omega
  · show ((w.heap.modify blk _) ++ os)[i]? = w.heap[i]?
    rw [Array.getElem?_append_left (by rw [Array.size_modify]; exact hi), Array.getElem?_modify, if_neg (fun e => hn e.symm)]
theorem grow_of {w w' : World} (h : Ext (fun _ => False) w w') (hd : w.drawn ≤ w'.drawn) : ∃ q os', w' = Go.Sort.grow (w.drewN q) os' := by
  refine ⟨w'.drawn - w.drawn, w'.heap.extract w.heap.size w'.heap.size, ?_⟩
  have hh : w'.heap = w.heap ++ w'.heap.extract w.heap.size w'.heap.size := by
    refine Array.ext_getElem? fun i => ?_
    by_cases hi : i < w.heap.size
    · rw [Array.getElem?_append_left hi]
      exact h.block i hi id
    · rw [Array.getElem?_append_right (by omega), Array.getElem?_extract]
      have := h.size
      split
      · congr 1; omega
      · rw [Array.getElem?_eq_none (by omega)]
  unfold Go.Sort.grow World.drewN
  obtain ⟨h1, h2, h3, _, _⟩ := h
  cases w'
  cases w
  simp only at *
  subst h1 h2 h3
  rw [← hh]
  congr 1
  omega
theorem swoX : Go.Sort.SWO (Go.Proofs.ltOf cfX) := by
  have e : ∀ a b, Go.Proofs.ltOf cfX a b = ltX a b := fun a b => by
    unfold Go.Proofs.ltOf
    rw [Bool.eq_iff_iff, decide_eq_true_iff]
    exact cfX_neg a b
  refine ⟨fun x => by rw [e]; exact ltX_irr x, fun x y z h k => ?_, fun x y z h k => ?_⟩
  · rw [e] at *
    exact ltX_trans x y z h k
  · rw [e] at *
    unfold ltX at *
    simp only [decide_eq_false_iff_not] at *
    omega
theorem flatK_get {R : List Sg} {j : Nat} (hj : j < R.length * 10) : some ((Go.Sort.flatK scells 10 R.toArray)[j]!) = (R.flatMap scells)[j]? := by
  obtain ⟨x, hx, e⟩ := flat_split scells_len (by decide) hj
  rw [Go.Sort.get_flatK _ _ _ _ (by rw [List.size_toArray]; exact hj), e]
  have hi := (List.getElem?_eq_some_iff.1 hx)
  obtain ⟨hlt, hxe⟩ := hi
  have h1 : R.toArray[j / 10]! = x := by
    rw [getElem!_pos R.toArray (j / 10) (by rw [List.size_toArray]; exact hlt)]
    simpa using hxe
  rw [h1]
  have h2 : j % 10 < (scells x).length := by rw [scells_len]; exact Nat.mod_lt _ (by decide)
  rw [getElem!_pos (scells x) (j % 10) h2, List.getElem?_eq_getElem h2]
theorem cmpX_lays (blk off size : Nat) (w : World) : Go.Proofs.CmpLays Tryd.prog 43 #[] scells 10 cfX blk off size w := by
  intro m os dk _ x y
  refine Calls.mono (c_cmpX x y _) ?_
  rintro e w' ⟨r, rfl, rfl, he, hd⟩
  exact ⟨rfl, grow_of he hd⟩
/-- slices.SortFunc by X: the row is sorted. -/
theorem c_sortX {w : World} {s : Slc} {R : List Sg} (h : Row w s 61 10 (R.flatMap scells)) (hR : R ≠ []) (hl : R.length ≤ 2000000) (hA : Apart R) :
    C42 s (.func (.func 43) #[] #[]) w fun w1 => Ext s.own w w1 ∧ VRow w1 s 10 ((sortI ltX R).flatMap scells) := by
  have hlen : s.len = R.length := VRow.count scells_len (by decide) (Row.view h)
  have hpos : 0 < R.length := List.length_pos_iff.2 hR
  rcases h.2 with rfl | ⟨g, cur, hp, hg, hle, hsz, htk⟩
  · simp only at hlen
    omega
  obtain ⟨p, len, cap⟩ := s
  simp only at hp hlen hle hsz htk
  subst hp
  subst hlen
  have hv := (Row.view h).2
  have hH : Go.Sort.HoldsK scells 10 w g 0 R.toArray := by
    intro j hj
    rw [Go.Sort.size_flatK, List.size_toArray] at hj
    have e := flatK_get hj
    obtain ⟨a, ha, hc⟩ := hv j _ e.symm
    cases ha
    rw [add_lit, Nat.zero_add] at hc
    rw [Nat.zero_add]
    exact ⟨hc, hg.frozen j⟩
  have hk := AnyQ.slices_SortFunc Tryd.sortSign 10 Tryd.isAgg61 Tryd.sizeOf61 scells scells_len (fun x v hv => by
    simp only [scells, gcells, List.mem_append, List.mem_cons, List.not_mem_nil, or_false] at hv
    rcases hv with (rfl | rfl | rfl | rfl | rfl | rfl | rfl | rfl | rfl) | rfl <;> rfl) cfX swoX 43 #[] g 0 cap R.toArray w
    (enters_of Tryd.func43 (by kernel_rfl) rfl) (cmpX_lays g 0 _ w) hH hg.lt (by rw [List.size_toArray]; omega)
  rw [List.size_toArray] at hk
  have hk : Calls Tryd.prog 42 #[.slice (some ⟨g, 0, none⟩) R.length cap, .func (.func 43) #[] #[]] w fun e w' => e = .returned (.tuple #[]) ∧ ∃ d' n os, Go.Sort.PermIn 0 R.length R.toArray d' ∧ Go.Sort.SortedIn (Go.Proofs.ltOf cfX) 0 R.length d' ∧ w' = Go.Proofs.sortWorldK scells 10 w g 0 n d' os := hk
  refine hk.mono ?_
  rintro e w' ⟨rfl, d', n, os, ⟨hds, _, hperm⟩, hsort, rfl⟩
  refine ⟨rfl, (ext_sortW scells 10 w g 0 n d' os).mono fun j _ e => ⟨_, rfl, e.symm⟩, ?_⟩
  have hds : d'.size = R.length := by simpa using hds
  have hH' := holdsK_sortWorldK_c scells 10 w g 0 R.toArray d' n os hH hg.lt (by rw [List.size_toArray]; exact hds)
  have hpm : d'.toList.Perm R := by
    have e1 : d'.extract 0 R.length = d' := by rw [← hds]; simp
    have e2 : R.toArray.extract 0 R.length = R.toArray := by simp
    rw [e1, e2] at hperm
    simpa using hperm
  have hA' : Apart d'.toList := hA.perm hpm.symm
  have hso : d'.toList.Pairwise fun a b => ltX a b = true := by
    refine List.pairwise_iff_getElem.2 fun i j hi hj hij => ?_
    rw [Array.length_toList] at hi hj
    have h1 := hsort i j (Nat.zero_le _) hij (by omega)
    rw [getElem!_pos d' i hi, getElem!_pos d' j hj] at h1
    have h2 := List.pairwise_iff_getElem.1 hA'.x i j (by rw [Array.length_toList]; exact hi) (by rw [Array.length_toList]; exact hj) hij
    simp only [Array.getElem_toList] at h2 ⊢
    rcases h2 with h2 | h2
    · exact h2
    · unfold Go.Proofs.ltOf at h1
      rw [decide_eq_false_iff_not, cfX_neg] at h1
      exact absurd h2 h1
  have hs : sortI ltX R = d'.toList := sortI_eq ltX ltX_trans ltX_irr hA.x hpm hso
  rw [hs]
  have hdl : d'.toList.length = R.length := by rw [Array.length_toList]; exact hds
  refine ⟨by rw [flat_len scells_len, hdl], fun j v hj => ⟨_, rfl, ?_⟩⟩
  have hjl : j < d'.toList.length * 10 := by rw [← flat_len scells_len]; exact (List.getElem?_eq_some_iff.1 hj).1
  have e := flatK_get hjl
  rw [Array.toArray_toList] at e
  have := (hH' j (by rw [Go.Sort.size_flatK, hds]; rw [hdl] at hjl; exact hjl)).1
  rw [add_lit, Nat.zero_add]
  rw [Nat.zero_add] at this
  rw [this]
  show some ((Go.Sort.flatK scells 10 d')[j]!) = some v
  rw [e, hj]
end Rdg
end Go.Proofs.YtodhdkbhmkinjaaDoor
