/- Text machines: moves, plain. Conditions: none. -/
import Derived.Test.YtcblpehnkogfdaaGreatDoorLiC
import Derived.Test.YtcblpehnkogfdaaGreatDoorSxJ
import Derived.Test.YtcblpehnkogfdaaGreatDoorFnLt
namespace Go.Proofs.YtcblpehnkogfdaaGreatDoor
namespace Ma
open Sh Mat Fix Fo Sw Opr Pat
set_option linter.unusedVariables false
set_option linter.unusedSimpArgs false
set_option maxRecDepth 8000
set_option maxHeartbeats 4000000
theorem dot_eq {l : List Int} {n : Int} (hl : l.all inW = true) (hn : near (psum l (l.length / 2)) = n) (h : inW n = true) : dotP l = some n := by
  unfold dotP
  rw [hn, if_pos ⟨hl, h⟩]
theorem near_ten (n : Int) : near (n * 10000) = n := by unfold near; omega
theorem okM_move {a b : Int} (ha : inW a = true) (hb : inW b = true) : Mat.okM (moveM a b) = true := by
  simp [Mat.okM, comps, moveM, ha, hb]
  decide
theorem move_mul {a b c d : Int} (ha : inW a = true) (hb : inW b = true) (hc : inW c = true) (hd : inW d = true) (h1 : inW (a + c) = true) (h2 : inW (b + d) = true) : mulP (moveM a b) (moveM c d) = some (moveM (a + c) (b + d)) := by
  unfold mulP
  rw [if_pos ⟨okM_move ha hb, okM_move hc hd⟩]
  show (dotP [10000, 10000, 0, 0]).bind _ = _
  rw [show dotP [10000, 10000, 0, 0] = some 10000 by decide, Option.bind_some]
  show (dotP [10000, 0, 0, 10000]).bind _ = _
  rw [show dotP [10000, 0, 0, 10000] = some 0 by decide, Option.bind_some]
  show (dotP [0, 10000, 10000, 0]).bind _ = _
  rw [show dotP [0, 10000, 10000, 0] = some 0 by decide, Option.bind_some]
  show (dotP [0, 0, 10000, 10000]).bind _ = _
  rw [show dotP [0, 0, 10000, 10000] = some 10000 by decide, Option.bind_some]
  show (dotP [a, 10000, b, 0, c, 10000]).bind _ = _
  rw [dot_eq (n := a + c) (by simp [ha, hb, hc]; decide) (by rw [show psum [a, 10000, b, 0, c, 10000] (List.length [a, 10000, b, 0, c, 10000] / 2) = (a + c) * 10000 by simp [psum]; omega, near_ten]) h1, Option.bind_some]
  show (dotP [a, 0, b, 10000, d, 10000]).bind _ = _
  rw [dot_eq (n := b + d) (by simp [ha, hb, hd]; decide) (by rw [show psum [a, 0, b, 10000, d, 10000] (List.length [a, 0, b, 10000, d, 10000] / 2) = (b + d) * 10000 by simp [psum]; omega, near_ten]) h2, Option.bind_some]
  rfl
section
variable {g : GT} {f : Font} {m : Mc} {K : List Ob}
theorem num_real {a : Int} (ha : inW a = true) : numV (obR a) = some a := by
  unfold numV obR
  simp [ha]
theorem nm_reals {a b : Int} (ha : inW a = true) (hb : inW b = true) : nmO ([obR a, obR b].filter isNum) = some [a, b] := by
  rw [show [obR a, obR b].filter isNum = [obR a, obR b] by simp [isNum, obR]]
  unfold nmO
  rw [num_real ha]
  show ((nmO [obR b]).bind fun l => some (a :: l)) = _
  unfold nmO
  rw [num_real hb]
  rfl
theorem chk_move {nm : Opr.By} (hnm : nm = [84, 100] ∨ nm = [84, 68]) (a b : Int) : Opr.chkF nm [obR a, obR b] [] = 0 := by
  refine chk_of (t := [110, 110]) ?_ (by decide) rfl (by simp [fitsT, fitsK, obR])
  rcases hnm with rfl | rfl <;> decide +kernel
theorem do_move {nm : Opr.By} (hnm : nm = [84, 100] ∨ nm = [84, 68]) {a b : Int} {l : Mx} (hon : m.on = true) (ha : inW a = true) (hb : inW b = true) (hl : moveF m.line a b = some l) : doF g f m nm [obR a, obR b] K [] = (0, ⟨true, l, l⟩, []) := by
  have hact : actF g f m nm [obR a, obR b] K [a, b] = (0, ⟨true, l, l⟩, []) := by
    unfold actF
    rw [if_neg (by rcases hnm with rfl | rfl <;> decide), if_neg (by rcases hnm with rfl | rfl <;> decide), if_pos hnm]
    show movedF m (moveF m.line a b) = _
    rw [hl, ← hon]
    rfl
  rw [doF_eq (by rcases hnm with rfl | rfl <;> decide) (chk_move hnm a b) (by rw [hon]; rcases hnm with rfl | rfl <;> decide) (nm_reals ha hb), hact, if_neg (by simp)]
theorem do_move_off {a b : Int} (hon : m.on = false) : doF g f m [84, 100] [obR a, obR b] K [] = (29, m, []) := doF_state (by decide) (chk_move (.inl rfl) a b) (by rw [hon]; decide)
theorem do_move_none : doF g f m [84, 100] [] K [] = (28, m, []) := by
  unfold doF
  rw [if_neg (by decide), if_pos (by decide +kernel), show Opr.chkF [84, 100] [] [] = 28 by decide +kernel]
theorem do_star {l : Mx} (hon : m.on = true) (hl : nextF g m.line = some l) : doF g f m [84, 42] [] K [] = (0, ⟨true, l, l⟩, []) := by
  have hact : actF g f m [84, 42] [] K [] = (0, ⟨true, l, l⟩, []) := by
    unfold actF
    rw [if_neg (by decide), if_neg (by decide), if_neg (by decide), if_pos (by decide)]
    show movedF m (nextF g m.line) = _
    rw [hl, ← hon]
    rfl
  rw [doF_eq (by decide) (chk_of (t := []) (by decide +kernel) (by decide) rfl rfl) (by rw [hon]; decide) (n := []) rfl, hact, if_neg (by simp)]
theorem num_back {n : Int} (h : inW n = true) : numV (numO n) = some n := by
  have h := inW_spec.1 h
  have htd := td n
  unfold numO
  split
  · rename_i h0
    unfold numV
    rw [if_pos rfl]
    rw [if_pos (by show -107374 ≤ Int.tdiv n 10000 ∧ Int.tdiv n 10000 ≤ 107374; omega)]
    exact congrArg some (by show Int.tdiv n 10000 * 10000 = n; omega)
  · exact num_real (inW_spec.2 h)
theorem num_kind (n : Int) : (numO n).1 = 2 ∨ (numO n).1 = 3 := by
  unfold numO
  split
  · exact .inl rfl
  · exact .inr rfl
theorem nms_back : ∀ (l : List Int), l.all inW = true → nmO (l.map numO) = some l
  | [], _ => rfl
  | n :: l, h => by
    simp only [List.all_cons, Bool.and_eq_true] at h
    show nmO (numO n :: l.map numO) = _
    unfold nmO
    rw [num_back h.1]
    show ((nmO (l.map numO)).bind fun l => some (n :: l)) = _
    rw [nms_back l h.2]
    rfl
theorem do_tm {mx : Mx} (hon : m.on = true) (hm : Mat.okM mx = true) : doF g f m [84, 109] ((comps mx).map numO) K [] = (0, ⟨true, mx, mx⟩, []) := by
  have hfil : ((comps mx).map numO).filter isNum = (comps mx).map numO := List.filter_eq_self.2 fun o ho => by
    obtain ⟨n, _, rfl⟩ := List.mem_map.1 ho
    unfold isNum
    rcases num_kind n with h | h <;> rw [h] <;> decide
  have hn : nmO (((comps mx).map numO).filter isNum) = some (comps mx) := by rw [hfil, nms_back _ hm]
  have hchk : Opr.chkF [84, 109] ((comps mx).map numO) [] = 0 := by
    refine chk_of (t := [110, 110, 110, 110, 110, 110]) (by decide +kernel) (by decide) rfl (fitsT_yes fun i b o hb ho => ?_)
    obtain ⟨n, _, rfl⟩ := List.mem_map.1 (List.mem_of_getElem? ho)
    have hb : b = 110 := by
      have := List.mem_of_getElem? hb
      simpa using this
    subst hb
    unfold fitsK
    rw [if_pos rfl]
    rcases num_kind n with h | h <;> rw [h] <;> decide
  have hact : actF g f m [84, 109] ((comps mx).map numO) K (comps mx) = (0, ⟨true, mx, mx⟩, []) := by
    unfold actF
    rw [if_neg (by decide), if_neg (by decide), if_neg (by decide), if_neg (by decide), if_pos (by decide)]
    show movedF m (if Mat.okM mx = true then some mx else none) = _
    rw [if_pos hm, ← hon]
    rfl
  rw [doF_eq (by decide) hchk (by rw [hon]; decide) hn, hact, if_neg (by simp)]
end
end Ma
end Go.Proofs.YtcblpehnkogfdaaGreatDoor
/- Text machines: strings in pieces, plain. Conditions: none. -/
namespace Go.Proofs.YtcblpehnkogfdaaGreatDoor
namespace Ma
open Sh Mat Fix Fo Sw Opr Pat
set_option linter.unusedVariables false
set_option linter.unusedSimpArgs false
set_option maxRecDepth 8000
set_option maxHeartbeats 4000000
theorem app_left (s t : ByteArray) : (s ++ t).extract 0 s.size = s := by
  apply ByteArray.ext
  simp
theorem app_right (s t : ByteArray) : (s ++ t).extract s.size (s ++ t).size = t := by
  apply ByteArray.ext
  simp only [ByteArray.data_extract, ByteArray.data_append, ByteArray.size_append, Array.extract_append, ByteArray.size_data, Nat.sub_self, Nat.add_sub_cancel_left]
  rw [Array.extract_empty_of_size_le_start (by simp), ← ByteArray.size_data]
  simp
theorem string_two {g : GT} {m m' : Mx} {f : Font} {s t : ByteArray} {L : List GlT} (h : stringF g m f (s ++ t) = (L, m', 0)) (hw : f.wide = true → s.size % 2 = 0) : ∃ La Lb m1, stringF g m f s = (La, m1, 0) ∧ stringF g m1 f t = (Lb, m', 0) ∧ L = La ++ Lb := by
  obtain ⟨La, Lb, m1, h1, h2, h3⟩ := string_cut (k := s.size) h (by rw [ByteArray.size_append]; omega) hw
  rw [app_left] at h1
  rw [app_right] at h2
  exact ⟨La, Lb, m1, h1, h2, h3⟩
theorem string_none {g : GT} {m m' : Mx} {f : Font} {s : ByteArray} {L : List GlT} {e : Int} (h : stringF g m f s = (L, m', e)) (he : e ≠ 0) : m' = noM := by
  unfold stringF at h
  split at h
  · cases h; rfl
  · split at h
    · cases h; exact absurd rfl he
    · cases h; rfl
theorem string_most {g : GT} {m m' : Mx} {f : Font} {s : ByteArray} {L : List GlT} (h : stringF g m f s = (L, m', 0)) : L.length ≤ 16384 := by
  obtain ⟨ha, hs⟩ := string_yes h
  have := showP_len _ hs
  have := (ask_parts ha).2.2.2.2
  omega
theorem row_two {g : GT} {m m1 m' : Mx} {f : Font} {s t : ByteArray} {La Lb : List GlT} (h1 : stringF g m f s = (La, m1, 0)) (h2 : stringF g m1 f t = (Lb, m', 0)) (hl : (La ++ Lb).length ≤ 16384) : rowF g f [obS s, obS t] m [] = (0, La ++ Lb, m') := by
  rw [List.length_append] at hl
  have k1 : kidF g f m [] (obS s) = (0, La, m1) := by
    unfold kidF showF
    rw [if_pos (show (obS s).1 = 4 from rfl), show (obS s).2.2.2.1 = s from rfl, h1, if_neg (by simp), if_neg (by simp; omega)]
    rfl
  have k2 : kidF g f m1 La (obS t) = (0, La ++ Lb, m') := by
    unfold kidF showF
    rw [if_pos (show (obS t).1 = 4 from rfl), show (obS t).2.2.2.1 = t from rfl, h2, if_neg (by simp), if_neg (by simp; omega)]
  rw [rowF_step k1, rowF_step k2]
  rfl
theorem ok_of_string {g : GT} {m m' : Mx} {f : Font} {s : ByteArray} {L : List GlT} (h : stringF g m f s = (L, m', 0)) : Mat.okM m = true := (ask_parts (string_yes h).1).2.1
end Ma
end Go.Proofs.YtcblpehnkogfdaaGreatDoor
/- Text machines: a known machine turns; the reference's check of a state and its objects. Conditions: the laid tables. -/
namespace Go.Proofs.YtcblpehnkogfdaaGreatDoor
namespace Ma
open Sh Mat Fix Fo Sw Opr Pat
set_option linter.unusedVariables false
set_option linter.unusedSimpArgs false
set_option maxRecDepth 8000
set_option maxHeartbeats 4000000
theorem _root_.Go.Proofs.YtcblpehnkogfdaaGreatDoor.Sh.Hn.turn {w0 w w2 : World} {L : List (Nat × List Value × TypeId)} {b : Nat} {cs cs' : List Value} {t : TypeId} (h : Hn w0 w L) (i : Nat) (hi : L[i]? = some (b, cs, t)) (hb : Blk w2 b cs'.toArray t) (he : Ext (· = b) w w2) : Hn w0 w2 (L.set i (b, cs', t)) :=
  h.set i hi (h.h.upd i (arr_get hi) hb he (.inr (h.ge i hi)))
attribute [local irreducible] Ld Sh.St Nw Nn Lt LdS
section
variable {w0 w : World} {Ls : List (Nat × List Value × TypeId)} {mb : Nat} {m : Mc} {g : GT} {x : FT} {f : Font} {L K : List Ob} {o : OpT} {nm : Opr.By}
/-- One operator on a known machine. -/
theorem go (H : Hn w0 w Ls) (i : Nat) (hi : Ls[i]? = some (mb, mcc m, TK)) (hT : TB w0) (hx : FoV w0 x f) (hnm : Opr.bl o.1 = nm) (hd : Opr.bl o.2.2 = []) (hO : OpV w o L K) {e : Int} {m' : Mc} {gl : List GlT} (hF : doF g f m nm L K [] = (e, m', gl)) :
    C13 (some (⟨mb, 0, none⟩ : Addr)) o g x w fun r e' w' => e' = e ∧ Hn w0 w' (Ls.set i (mb, mcc m', TK)) ∧ VRow w' r 9 (gl.flatMap glc) ∧ (∀ j, r.own j → w.heap.size ≤ j) ∧ Ext (· = mb) w w' := by
  refine (c_Do (g := g) (hT.keep H.ext) (hx.keep H.ext) (H.get i hi) hO).mono ?_
  rintro r e' u' ⟨mc, gl', hF', hb, he, hv, ho⟩
  rw [hnm, hd, hF] at hF'
  cases hF'
  exact ⟨rfl, H.turn i hi hb he, hv, ho, he⟩
theorem r_may (g : GT) (w : World) : C18 g w fun r w1 => r = (if useG g = true then 0 else 2) ∧ Ext (fun _ => False) w w1 := by
  refine T18 _ _ _ ?_
  unfold S18
  refine Nw.of ?_
  have H := gr_blk w g
  generalize w.alloc (.cells (Sig.cells LiA30 g).toArray 31) = wd at *
  refine H.ldT (i := 0) (pre := (Sig.cells LiA30 g).take 22) (post := []) (ts := LiA28) (x := tx g) rfl rfl ?_
  refine H.nw fun w16 H => ?_
  refine H.stT (i := 1) (pre := []) (post := []) (zs := [.int .i64 0, .int .i64 0, .int .i64 0, .int .i64 0, .int .i64 0, .int .i64 0, .string ⟨#[]⟩, .int .i64 0]) rfl rfl rfl fun w17 H => ?_
  refine H.ld 1 rfl (x := tchar g) rfl (H.ld 1 rfl (x := tword g) rfl (H.ld 1 rfl (x := tscale g) rfl (H.ld 1 rfl (x := tlead g) rfl (H.ld 1 rfl (x := tsize g) rfl (H.ld 1 rfl (x := trise g) rfl ?_)))))
  refine H.nw fun w18 H => ?_
  have HI : IRow w18 ⟨some ⟨w17.heap.size, 0, none⟩, 6, 6⟩ (texts g) := IRow.of (H.get 2 rfl) rfl fun i hi => by
    have hi : i < 6 := hi
    rcases i with _ | _ | _ | _ | _ | _ | i
    all_goals first | rfl | omega
  refine ⟨fun n st w1 => ∃ k : Nat, st = (k : Int) ∧ k ≤ 6 ∧ n = 6 - k ∧ w1 = w18 ∧ ∀ i, i < k → inW ((texts g).getD i 0) = true, 6, ⟨0, rfl, by omega, rfl, rfl, fun i hi => by omega⟩, ?_⟩
  rintro n st w1 ⟨k, rfl, hk, rfl, rfl, hall⟩
  unfold S18L1
  refine Br.dec (fun q => ?_) fun q => ?_
  · have hk6 : k < 6 := by
      have q : (k : Int) < 6 := q
      omega
    obtain ⟨a, ha, hc⟩ := HI.2 k hk6
    have ha : (⟨w17.heap.size, 0, none⟩ : Addr) = a := Option.some.inj ha
    subst ha
    have hno : inW ((texts g).getD k 0) = false → useG g = false := fun hw => by
      unfold useG
      cases ha : (texts g).all inW with
      | false => rw [Bool.and_false]
      | true =>
        have := (all_iff _).1 ha k hk6
        rw [hw] at this
        cases this
    refine ⟨by omega, by show (k : Int) < 6; omega, Nn.of (Ld.mk (x := (texts g).getD k 0) (by rw [Int.toNat_natCast, Nat.mul_one]; exact hc) (Br.dec (fun h2 => ⟨by rw [hno (inW_no.2 (by omega))]; rfl, H.ext⟩) fun h2 => Br.dec (fun h3 => ⟨by rw [hno (inW_no.2 (by omega))]; rfl, H.ext⟩) fun h3 => ?_))⟩
    refine ⟨6 - (k + 1), by omega, k + 1, by rw [i64_id (by omega)]; rfl, by omega, rfl, rfl, fun i hi => ?_⟩
    by_cases hik : i = k
    · rw [hik]; exact inW_spec.2 (by omega)
    · exact hall i (by omega)
  · refine H.ld 0 rfl (x := (ctm g).1) rfl (H.ld 0 rfl (x := (ctm g).2.1) rfl (H.ld 0 rfl (x := (ctm g).2.2.1) rfl (H.ld 0 rfl (x := (ctm g).2.2.2.1) rfl (H.ld 0 rfl (x := (ctm g).2.2.2.2.1) rfl (H.ld 0 rfl (x := (ctm g).2.2.2.2.2) rfl ?_)))))
    refine (Mat.r_check (ctm g) _).mono ?_
    rintro r w2 ⟨rfl, e2⟩
    refine ⟨?_, H.ext.tr e2⟩
    have q : ¬ (k : Int) < 6 := q
    have hta : (texts g).all inW = true := (all_iff _).2 fun i hi => hall i (by have hi : i < 6 := hi; omega)
    unfold useG
    rw [hta, Bool.and_true]
theorem c_pair (nm : ByteArray) (a b : Int) (w : World) : C19 nm a b w fun r w1 => ∃ k, r = (nm, ⟨some ⟨k, 0, none⟩, 2, 2⟩, ⟨#[]⟩) ∧ w.heap.size ≤ k ∧ Blk w1 k ([obR a, obR b].flatMap obrow).toArray 61 ∧ Ext (fun _ => False) w w1 := by
  refine T19 _ _ _ _ _ ?_
  unfold S19
  refine (Hn.start w).nw fun w3 H => H.nw fun w4 H => ?_
  iterate 3 (refine H.st 0 rfl (by simp) fun _ H => ?_; simp only [List.nil_append, List.cons_append, List.set_cons_zero, List.set_cons_succ, Nat.zero_add] at H)
  iterate 3 refine H.ld 0 rfl rfl ?_
  exact ⟨_, rfl, H.ge 1 rfl, H.get 1 rfl, H.ext⟩
theorem opvR {a b : Int} {k : Nat} (h : Blk w k ([obR a, obR b].flatMap obrow).toArray 61) (nm : ByteArray) : OpV w (nm, ⟨some ⟨k, 0, none⟩, 2, 2⟩, ⟨#[]⟩) [obR a, obR b] [] :=
  ⟨OV.of (L := [obR a, obR b]) h, fun _ => ov_nil _, by simp, by simp, fun k hm => by
    rcases List.mem_cons.1 hm with rfl | hm
    · show (⟨#[]⟩ : ByteArray).size ≤ 1048576; decide
    · rw [List.mem_singleton.1 hm]; show (⟨#[]⟩ : ByteArray).size ≤ 1048576; decide, fun k hm => (List.not_mem_nil hm).elim⟩
theorem r_num {n : Int} (hn : -9223372036854775808 ≤ n ∧ n ≤ 9223372036854775807) (w : World) : C53 n w fun r w1 => r = numO n ∧ Ext (fun _ => False) w w1 := by
  refine T53 _ _ _ ?_
  unfold S53
  refine (Hn.start w).nw fun w2 H => ?_
  have htd := td n
  simp only [List.nil_append, List.cons_append, List.set_cons_zero, List.set_cons_succ, Nat.zero_add] at H
  refine Br.eq (fun h => ?_) fun h => ?_
  · rw [i64_id (by omega)]
    iterate 6 (refine H.st 0 rfl (by simp) fun _ H => ?_; simp only [List.nil_append, List.cons_append, List.set_cons_zero, List.set_cons_succ, Nat.zero_add] at H)
    iterate 6 refine H.ld 0 rfl rfl ?_
    exact ⟨by rw [numO, if_pos h], H.ext⟩
  · iterate 6 (refine H.st 0 rfl (by simp) fun _ H => ?_; simp only [List.nil_append, List.cons_append, List.set_cons_zero, List.set_cons_succ, Nat.zero_add] at H)
    iterate 6 refine H.ld 0 rfl rfl ?_
    exact ⟨by rw [numO, if_neg h], H.ext⟩
/-- The components fit. -/
def M64 (m : Mx) : Prop := ∀ n ∈ comps m, -9223372036854775808 ≤ n ∧ n ≤ 9223372036854775807
theorem M64.ok {m : Mx} (h : Mat.okM m = true) : M64 m := fun n hn => by
  have := inW_spec.1 (List.all_eq_true.1 h n hn)
  omega
theorem r_object {m : Mx} (hm : M64 m) (w : World) :
    C21 m w fun r w1 => ∃ g, r = (6, 0, 0, ⟨#[]⟩, nilS, rowS g 6) ∧ Blk w1 g (((comps m).map numO).flatMap obrow).toArray 61 ∧ w.heap.size ≤ g ∧ Ext (fun _ => False) w w1 := by
  have m1 := hm m.1 (by simp [comps])
  have m2 := hm m.2.1 (by simp [comps])
  have m3 := hm m.2.2.1 (by simp [comps])
  have m4 := hm m.2.2.2.1 (by simp [comps])
  have m5 := hm m.2.2.2.2.1 (by simp [comps])
  have m6 := hm m.2.2.2.2.2 (by simp [comps])
  refine T21 m _ _ ?_
  unfold S21
  refine (Hn.start w).nw fun w2 H => H.nw fun w3 H => ?_
  let base : List (Nat × List Value × TypeId) := [(w.heap.size, mrow m, 24), (w2.heap.size, [.int .i64 0, .int .i64 0, .int .i64 0, .string ⟨#[]⟩, Slc.v nilS, Slc.v nilS], 61)]
  have H : Hn w w3.drew base := H.drew
  have hS : ∀ w3, Hn w w3 base → Blk w3 w.heap.size (mrow m).toArray 24 := fun w3 h => h.get 0 rfl
  refine ⟨fun w3 => Hn w w3 base, H, LdS.of hS rfl (LdS.of hS rfl (LdS.of hS rfl (LdS.of hS rfl (LdS.of hS rfl (LdS.of hS rfl ?_)))))⟩
  refine (r_num m1 _).mono ?_
  rintro r w4 ⟨rfl, he⟩
  have H := H.keep he
  refine ⟨H, (r_num m2 _).mono ?_⟩
  rintro r w4 ⟨rfl, he⟩
  have H := H.keep he
  refine ⟨H, (r_num m3 _).mono ?_⟩
  rintro r w4 ⟨rfl, he⟩
  have H := H.keep he
  refine ⟨H, (r_num m4 _).mono ?_⟩
  rintro r w4 ⟨rfl, he⟩
  have H := H.keep he
  refine ⟨H, (r_num m5 _).mono ?_⟩
  rintro r w4 ⟨rfl, he⟩
  have H := H.keep he
  refine ⟨H, (r_num m6 _).mono ?_⟩
  rintro r w4 ⟨rfl, he⟩
  have H := H.keep he
  refine H.nw (cs := ((comps m).map numO).flatMap obrow) fun w5 H => ?_
  generalize hM : ((comps m).map numO).flatMap obrow = M at H
  simp only [base, List.nil_append, List.cons_append] at H
  iterate 6 (refine H.st 1 rfl (by simp) fun _ H => ?_; simp only [List.nil_append, List.cons_append, List.set_cons_zero, List.set_cons_succ, Nat.zero_add] at H)
  iterate 6 refine H.ld 1 rfl rfl ?_
  have hb := H.get 2 rfl
  subst hM
  exact ⟨_, rfl, hb, H.ge 2 rfl, H.ext⟩
theorem opvM {m : Mx} {k : Nat} (h : Blk w k (((comps m).map numO).flatMap obrow).toArray 61) (nm : ByteArray) : OpV w (nm, rowS k 6, ⟨#[]⟩) ((comps m).map numO) [] :=
  ⟨OV.of (L := (comps m).map numO) h, fun _ => by
    show OV w (arg ((comps m).map numO) 0).2.2.2.2.2 []
    have : (arg ((comps m).map numO) 0).2.2.2.2.2 = nilS := by
      show (numO m.1).2.2.2.2.2 = nilS
      unfold numO
      split <;> rfl
    rw [this]
    exact ov_nil _, by simp [comps], by simp, fun k hm => by
      obtain ⟨n, _, rfl⟩ := List.mem_map.1 hm
      unfold numO
      split
      · show (⟨#[]⟩ : ByteArray).size ≤ 1048576; decide
      · show (⟨#[]⟩ : ByteArray).size ≤ 1048576; decide, fun k hm => (List.not_mem_nil hm).elim⟩
theorem gS {S : World → Prop} {i b : Nat} (h : ∀ w', S w' → Hn w0 w' Ls) (hi : Ls[i]? = some (b, grl g, TG)) {K : GT → Prop} (k : K g) : LdST S (⟨b, 0, none⟩ : Addr) 0 LiA30 K :=
  LdST.blk (ts := LiA30) (pre := []) (post := []) (t := TG) (x := g) (fun w' hw => (h w' hw).get i hi) rfl k
theorem fS {S : World → Prop} {i b : Nat} (h : ∀ w', S w' → Hn w0 w' Ls) (hi : Ls[i]? = some (b, fol x, TF)) {K : FT → Prop} (k : K x) : LdST S (⟨b, 0, none⟩ : Addr) 0 LiA34 K :=
  LdST.blk (ts := LiA34) (pre := []) (post := []) (t := TF) (x := x) (fun w' hw => (h w' hw).get i hi) rfl k
theorem gL (H : Hn w0 w Ls) {i b : Nat} (hi : Ls[i]? = some (b, grl g, TG)) {K : GT → Prop} (k : K g) : LdT w (⟨b, 0, none⟩ : Addr) 0 LiA30 K :=
  H.ldT (i := i) (ts := LiA30) (pre := []) (post := []) (x := g) hi rfl k
theorem fL (H : Hn w0 w Ls) {i b : Nat} (hi : Ls[i]? = some (b, fol x, TF)) {K : FT → Prop} (k : K x) : LdT w (⟨b, 0, none⟩ : Addr) 0 LiA34 K :=
  H.ldT (i := i) (ts := LiA34) (pre := []) (post := []) (x := x) hi rfl k
end
end Ma
end Go.Proofs.YtcblpehnkogfdaaGreatDoor
/- Text machines: the law on moves walked. Conditions: the laid tables. -/
namespace Go.Proofs.YtcblpehnkogfdaaGreatDoor
namespace Ma
open Sh Mat Fix Fo Sw Opr Pat
set_option linter.unusedVariables false
set_option linter.unusedSimpArgs false
set_option maxRecDepth 8000
set_option maxHeartbeats 4000000
attribute [local irreducible] Ld Sh.St Nw Nn Lt LdS
theorem reg {w0 w : World} {Ls : List (Nat × List Value × TypeId)} (H : Hn w0 w Ls) {P : (World → Prop) → Prop} (k : P (fun w' => Hn w0 w' Ls)) : ∃ S, S w.drew ∧ P S := ⟨_, H.drew, k⟩
def inB (n : Int) : Prop := -100000000 ≤ n ∧ n ≤ 100000000
abbrev TO : TypeId := 61
abbrev TP : TypeId := 48
section
variable {w vw7 w1 : World} {g : GT} {x : FT} {f : Font} {a b c d : Int}
theorem line_one (ha : inW a = true) (hb : inW b = true) : moveF one a b = some (moveM a b) := by
  have := move_mul ha hb (c := 0) (d := 0) (by decide) (by decide) (by rw [Int.add_zero]; exact ha) (by rw [Int.add_zero]; exact hb)
  rw [Int.add_zero, Int.add_zero] at this
  exact this
theorem c_moves (hT : TB w) (g : GT) (h : FoV w x f) (a b c d : Int) : C4 g x a b c d w fun r w1 => r = true ∧ Ext (fun _ => False) w w1 := by
  refine T4 _ _ _ _ _ _ _ _ ?_
  unfold S4
  refine Nw.of ?_
  have HG := gr_blk w g
  have H := Hn.push ((Hn.start w).keep HG.ext) (show Blk _ w.heap.size (grl g).toArray TG from HG.get 0 rfl) (Nat.le_refl _) (by simp)
  generalize w.alloc (.cells (Sig.cells LiA30 g).toArray TG) = vw7 at *
  refine Nw.of ?_
  have HF := fo_blk vw7 x
  have H := Hn.push (H.keep HF.ext) (show Blk _ vw7.heap.size (fol x).toArray TF from HF.get 0 rfl) H.size fun hm => Nat.lt_irrefl _ (H.all_lt hm)
  generalize vw7.alloc (.cells (Sig.cells LiA34 x).toArray TF) = w8 at *
  refine (c_lives (hT.keep H.ext)).mono ?_
  rintro r11 w12 ⟨rfl, e12⟩
  have H := H.keep e12
  refine Sh.Br.f rfl (H.ld 0 rfl (x := tlead g) rfl (H.nw fun w21 H => ?_))
  have HI : IRow w21 ⟨some ⟨w12.heap.size, 0, none⟩, 5, 5⟩ [a, b, c, d, tlead g] := IRow.of (H.get 2 rfl) rfl fun i hi => by
    have hi : i < 5 := hi
    rcases i with _ | _ | _ | _ | _ | i
    all_goals first | rfl | omega
  refine ⟨fun n st w1 => ∃ k : Nat, st = (k : Int) ∧ k ≤ 5 ∧ n = 5 - k ∧ w1 = w21 ∧ ∀ i, i < k → inB (([a, b, c, d, tlead g] : List Int).getD i 0), 5, ⟨0, rfl, by omega, rfl, rfl, fun i hi => by omega⟩, ?_⟩
  rintro n st w1 ⟨k, rfl, hk, rfl, rfl, hall⟩
  unfold S4L1
  refine Br.dec (fun q => ?_) fun q => ?_
  · have hk5 : k < 5 := by
      have q : (k : Int) < 5 := q
      omega
    obtain ⟨e, he, hc⟩ := HI.2 k hk5
    have he : (⟨w12.heap.size, 0, none⟩ : Addr) = e := Option.some.inj he
    subst he
    refine ⟨by omega, by show (k : Int) < 5; omega, Nn.of (Ld.mk (x := ([a, b, c, d, tlead g] : List Int).getD k 0) (by rw [Int.toNat_natCast, Nat.mul_one]; exact hc) (Br.dec (fun h2 => ⟨rfl, H.ext⟩) fun h2 => Br.dec (fun h3 => ⟨rfl, H.ext⟩) fun h3 => ?_))⟩
    refine ⟨5 - (k + 1), by omega, k + 1, by rw [i64_id (by omega)]; rfl, by omega, rfl, rfl, fun i hi => ?_⟩
    by_cases hik : i = k
    · rw [hik]; unfold inB; omega
    · exact hall i (by omega)
  have hk5 : k = 5 := by
    have q : ¬ (k : Int) < 5 := q
    omega
  subst hk5
  have ba : inB a := hall 0 (by omega)
  have bb : inB b := hall 1 (by omega)
  have bc : inB c := hall 2 (by omega)
  have bd : inB d := hall 3 (by omega)
  have bl : inB (tlead g) := hall 4 (by omega)
  clear hall HI q hk
  unfold inB at ba bb bc bd bl
  have wa : inW a = true := inW_spec.2 (by omega)
  have wb : inW b = true := inW_spec.2 (by omega)
  have wc : inW c = true := inW_spec.2 (by omega)
  have wd : inW d = true := inW_spec.2 (by omega)
  have wac : inW (a + c) = true := inW_spec.2 (by omega)
  have wbd : inW (b + d) = true := inW_spec.2 (by omega)
  have wl : inW (-(tlead g)) = true := inW_spec.2 (by omega)
  have wbl : inW (-(tlead g) + (b + d)) = true := inW_spec.2 (by omega)
  have H := Hn.left (L := [(w.heap.size, grl g, TG), (vw7.heap.size, fol x, TF)]) H
  refine gL H (i := 0) rfl ?_
  refine (r_may g _).mono ?_
  rintro r31 w32 ⟨rfl, e32⟩
  have H := H.keep e32
  refine Br.ne (fun q => ⟨rfl, H.ext⟩) fun q => ?_
  have hu : useG g = true := by
    cases hu : useG g with
    | true => rfl
    | false => rw [hu] at q; cases q
  clear q
  refine (c_new _).mono ?_
  rintro r33 w34 ⟨xb, rfl, gx, bx, e34⟩
  have H : Hn w w34 [(w.heap.size, grl g, TG), (vw7.heap.size, fol x, TF), (xb, mcc m0, TK)] := (H.keep e34).push bx (by have := H.size; omega) fun hm => by have := H.all_lt hm; omega
  refine (c_new _).mono ?_
  rintro r35 w36 ⟨yb, rfl, gy, by', e36⟩
  have H : Hn w w36 [(w.heap.size, grl g, TG), (vw7.heap.size, fol x, TF), (xb, mcc m0, TK), (yb, mcc m0, TK)] := (H.keep e36).push by' (by have := H.size; omega) fun hm => by have := H.all_lt hm; omega
  refine (c_pair _ a b _).mono ?_
  rintro r37 w38 ⟨kt, rfl, gk, bk, e38⟩
  have H : Hn w w38 [(w.heap.size, grl g, TG), (vw7.heap.size, fol x, TF), (xb, mcc m0, TK), (yb, mcc m0, TK), (kt, [obR a, obR b].flatMap obrow, TO)] := (H.keep e38).push bk (by have := H.size; omega) fun hm => by have := H.all_lt hm; omega
  clear bx by' bk
  refine H.nw fun w39 H => ?_
  generalize hgl : grl g = gc at H
  generalize hfl : fol x = fc at H
  simp only [List.nil_append, List.cons_append, List.set_cons_zero, List.set_cons_succ, Nat.zero_add] at H
  iterate 3 (refine H.st 5 rfl (by simp) fun _ H => ?_; simp only [List.nil_append, List.cons_append, List.set_cons_zero, List.set_cons_succ, Nat.zero_add] at H)
  subst hgl hfl
  refine gL H (i := 0) rfl (fL H (i := 1) rfl ?_)
  refine (go H 2 rfl hT h (nm := [66, 84]) rfl rfl (opv0 _ _) (do_bt (K := []) rfl)).mono ?_
  rintro r45 r46 w47 ⟨rfl, H, _⟩
  simp only [List.nil_append, List.cons_append, List.set_cons_zero, List.set_cons_succ, Nat.zero_add] at H
  refine gL H (i := 0) rfl (fL H (i := 1) rfl ?_)
  refine (go H 3 rfl hT h (nm := [66, 84]) rfl rfl (opv0 _ _) (do_bt (K := []) rfl)).mono ?_
  rintro r50 r51 w52 ⟨rfl, H, _⟩
  simp only [List.nil_append, List.cons_append, List.set_cons_zero, List.set_cons_succ, Nat.zero_add] at H
  refine H.ld 5 rfl (x := ⟨#[84, 100]⟩) rfl (H.ld 5 rfl (x := ⟨some ⟨kt, 0, none⟩, 2, 2⟩) rfl (H.ld 5 rfl (x := ⟨#[]⟩) rfl ?_))
  refine gL H (i := 0) rfl (fL H (i := 1) rfl ?_)
  refine (go H 2 rfl hT h (nm := [84, 100]) rfl rfl (opvR (H.get 4 rfl) _) (do_move (K := []) (.inl rfl) rfl wa wb (line_one wa wb))).mono ?_
  rintro r58 r59 w60 ⟨rfl, H, _⟩
  simp only [List.nil_append, List.cons_append, List.set_cons_zero, List.set_cons_succ, Nat.zero_add] at H
  refine reg H (gS (fun _ h => h) (i := 0) rfl (fS (fun _ h => h) (i := 1) rfl ?_))
  refine (c_pair _ c d _).mono ?_
  rintro r64 w65 ⟨k2, rfl, _, bk2, e65⟩
  have H := H.drew.keep e65
  refine ⟨H, ?_⟩
  refine (go H 2 rfl hT h (nm := [84, 68]) rfl rfl (opvR bk2 _) (do_move (K := []) (l := moveM (a + c) (b + d)) (.inr rfl) rfl wc wd (by rw [Int.add_comm a c, Int.add_comm b d]; exact move_mul wc wd wa wb (by rw [Int.add_comm]; exact wac) (by rw [Int.add_comm]; exact wbd)))).mono ?_
  rintro r66 r67 w68 ⟨rfl, H, _⟩
  simp only [List.nil_append, List.cons_append, List.set_cons_zero, List.set_cons_succ, Nat.zero_add] at H
  refine reg H (gS (fun _ h => h) (i := 0) rfl (fS (fun _ h => h) (i := 1) rfl ?_))
  rw [i64_id (n := a + c) (by omega), i64_id (n := b + d) (by omega)]
  refine (c_pair _ (a + c) (b + d) _).mono ?_
  rintro r72 w73 ⟨k3, rfl, _, bk3, e73⟩
  have H := H.drew.keep e73
  refine ⟨H, ?_⟩
  refine (go H 3 rfl hT h (nm := [84, 100]) rfl rfl (opvR bk3 _) (do_move (K := []) (.inl rfl) rfl wac wbd (line_one wac wbd))).mono ?_
  rintro r74 r75 w76 ⟨rfl, H, _⟩
  simp only [List.nil_append, List.cons_append, List.set_cons_zero, List.set_cons_succ, Nat.zero_add] at H
  refine Br.ne (fun q => absurd rfl q) fun _ => Br.ne (fun q => absurd rfl q) fun _ => Br.ne (fun q => absurd rfl q) fun _ => Br.ne (fun q => absurd rfl q) fun _ => Br.ne (fun q => absurd rfl q) fun _ => ?_
  refine (c_matrix (H.get 2 rfl)).mono ?_
  rintro r87 w88 ⟨rfl, e88⟩
  have H := H.keep e88
  refine (c_matrix (H.get 3 rfl)).mono ?_
  rintro r89 w90 ⟨rfl, e90⟩
  have H := H.keep e90
  refine Lt.of (Sh.Br.f (by simp) ?_)
  refine (c_matrix (H.get 2 rfl)).mono ?_
  rintro r92 w93 ⟨rfl, e93⟩
  have H := H.keep e93
  refine (Mat.r_move _ _ _).mono ?_
  rintro r94 w95 ⟨rfl, e95⟩
  have H := H.keep e95
  refine Lt.of (Sh.Br.f (by simp) ?_)
  have hst : moveF (moveM (a + c) (b + d)) 0 (-(tlead g)) = some (moveM (0 + (a + c)) (-(tlead g) + (b + d))) := move_mul (by decide) wl wac wbd (by rw [Int.zero_add]; exact wac) wbl
  refine gL H (i := 0) rfl (fL H (i := 1) rfl ?_)
  refine (go H 2 rfl hT h (nm := [84, 42]) rfl rfl (opv0 _ _) (do_star (K := []) rfl (show nextF g (moveM (a + c) (b + d)) = _ by unfold nextF; rw [if_pos hu]; exact hst))).mono ?_
  rintro r99 r100 w101 ⟨rfl, H, _⟩
  simp only [List.nil_append, List.cons_append, List.set_cons_zero, List.set_cons_succ, Nat.zero_add] at H
  refine reg H (LdS.of (fun w' hw => hw.get 0 rfl) (x := tlead g) rfl (gS (fun _ h => h) (i := 0) rfl (fS (fun _ h => h) (i := 1) rfl ?_)))
  rw [i64_id (n := 0 - tlead g) (by omega), Int.zero_sub]
  refine (c_pair _ 0 (-(tlead g)) _).mono ?_
  rintro r106 w107 ⟨k4, rfl, _, bk4, e107⟩
  have H := H.drew.keep e107
  refine ⟨H, ?_⟩
  refine (go H 3 rfl hT h (nm := [84, 100]) rfl rfl (opvR bk4 _) (do_move (K := []) (.inl rfl) rfl (by decide) wl hst)).mono ?_
  rintro r108 r109 w110 ⟨rfl, H, _⟩
  simp only [List.nil_append, List.cons_append, List.set_cons_zero, List.set_cons_succ, Nat.zero_add] at H
  refine (c_matrix (H.get 2 rfl)).mono ?_
  rintro r111 w112 ⟨rfl, e112⟩
  have H := H.keep e112
  refine mk_mx w112 (moveM (0 + (a + c)) (-(tlead g) + (b + d))) fun w119 e119 hb119 => ?_
  have H := (H.keep e119).push hb119 H.size fun hm => Nat.lt_irrefl _ (H.all_lt hm)
  simp only [List.nil_append, List.cons_append, List.set_cons_zero, List.set_cons_succ, Nat.zero_add] at H
  clear hb119
  refine gL H (i := 0) rfl (fL H (i := 1) rfl ?_)
  refine (go H 2 rfl hT h (nm := [66, 84]) rfl rfl (opv0 _ _) (do_bt2 (K := []) rfl)).mono ?_
  rintro r122 r123 w124 ⟨rfl, H, _⟩
  simp only [List.nil_append, List.cons_append, List.set_cons_zero, List.set_cons_succ, Nat.zero_add] at H
  refine gL H (i := 0) rfl (fL H (i := 1) rfl ?_)
  refine (go H 2 rfl hT h (nm := [84, 100]) rfl rfl (opv0 _ _) (do_move_none (K := []))).mono ?_
  rintro r127 r128 w129 ⟨rfl, H, _⟩
  simp only [List.nil_append, List.cons_append, List.set_cons_zero, List.set_cons_succ, Nat.zero_add] at H
  refine reg H (Br.ne (fun q => absurd rfl q) fun _ => Br.ne (fun q => absurd rfl q) fun _ => LdS.of (fun w' hw => hw.get 6 rfl) (x := (moveM (0 + (a + c)) (-(tlead g) + (b + d))).1) rfl (LdS.of (fun w' hw => hw.get 6 rfl) (x := (moveM (0 + (a + c)) (-(tlead g) + (b + d))).2.1) rfl (LdS.of (fun w' hw => hw.get 6 rfl) (x := (moveM (0 + (a + c)) (-(tlead g) + (b + d))).2.2.1) rfl (LdS.of (fun w' hw => hw.get 6 rfl) (x := (moveM (0 + (a + c)) (-(tlead g) + (b + d))).2.2.2.1) rfl (LdS.of (fun w' hw => hw.get 6 rfl) (x := (moveM (0 + (a + c)) (-(tlead g) + (b + d))).2.2.2.2.1) rfl (LdS.of (fun w' hw => hw.get 6 rfl) (x := (moveM (0 + (a + c)) (-(tlead g) + (b + d))).2.2.2.2.2) rfl (?_)))))))
  refine (c_matrix (H.drew.get 3 rfl)).mono ?_
  rintro r156 w157 ⟨rfl, e157⟩
  have H := H.drew.keep e157
  refine ⟨H, Sh.Br.f (by simp) (Sh.Br.f (by decide) (Sh.Br.f (by decide) (LdS.of (fun w' hw => hw.get 6 rfl) (x := (moveM (0 + (a + c)) (-(tlead g) + (b + d))).1) rfl (LdS.of (fun w' hw => hw.get 6 rfl) (x := (moveM (0 + (a + c)) (-(tlead g) + (b + d))).2.1) rfl (LdS.of (fun w' hw => hw.get 6 rfl) (x := (moveM (0 + (a + c)) (-(tlead g) + (b + d))).2.2.1) rfl (LdS.of (fun w' hw => hw.get 6 rfl) (x := (moveM (0 + (a + c)) (-(tlead g) + (b + d))).2.2.2.1) rfl (LdS.of (fun w' hw => hw.get 6 rfl) (x := (moveM (0 + (a + c)) (-(tlead g) + (b + d))).2.2.2.2.1) rfl (LdS.of (fun w' hw => hw.get 6 rfl) (x := (moveM (0 + (a + c)) (-(tlead g) + (b + d))).2.2.2.2.2) rfl (?_)))))))))⟩
  refine (c_matrix (H.get 2 rfl)).mono ?_
  rintro r164 w165 ⟨rfl, e165⟩
  have H := H.keep e165
  refine ⟨H, Sh.Br.f (by simp) ?_⟩
  refine (c_on (H.get 2 rfl)).mono ?_
  rintro r166 w167 ⟨rfl, rfl⟩
  refine Sh.Br.f rfl (reg H (gS (fun _ h => h) (i := 0) rfl (fS (fun _ h => h) (i := 1) rfl ?_)))
  refine (Mat.r_move c d _).mono ?_
  rintro r171 w172 ⟨rfl, e172⟩
  have H := H.drew.keep e172
  have hok : Mat.okM (moveM c d) = true := okM_move wc wd
  refine ⟨H, (r_object (M64.ok hok) _).mono ?_⟩
  rintro r173 w174 ⟨k5, rfl, bk5, _, e174⟩
  have H := H.keep e174
  refine ⟨H, (go H 2 rfl hT h (nm := [84, 109]) rfl rfl (opvM bk5 _) (do_tm (K := []) rfl hok)).mono ?_⟩
  rintro r175 r176 w177 ⟨rfl, H, _⟩
  simp only [List.nil_append, List.cons_append, List.set_cons_zero, List.set_cons_succ, Nat.zero_add] at H
  refine (c_matrix (H.get 2 rfl)).mono ?_
  rintro r178 w179 ⟨rfl, e179⟩
  have H := H.keep e179
  refine mk_mx w179 (moveM c d) fun w186 e186 hb186 => ?_
  have H := (H.keep e186).push hb186 H.size fun hm => Nat.lt_irrefl _ (H.all_lt hm)
  simp only [List.nil_append, List.cons_append, List.set_cons_zero, List.set_cons_succ, Nat.zero_add] at H
  clear hb186
  refine gL H (i := 0) rfl (fL H (i := 1) rfl ?_)
  refine (go H 2 rfl hT h (nm := [69, 84]) rfl rfl (opv0 _ _) (do_et (K := []) rfl)).mono ?_
  rintro r189 r190 w191 ⟨rfl, H, _⟩
  simp only [List.nil_append, List.cons_append, List.set_cons_zero, List.set_cons_succ, Nat.zero_add] at H
  refine H.ld 5 rfl (x := ⟨#[84, 100]⟩) rfl (H.ld 5 rfl (x := ⟨some ⟨kt, 0, none⟩, 2, 2⟩) rfl (H.ld 5 rfl (x := ⟨#[]⟩) rfl ?_))
  refine gL H (i := 0) rfl (fL H (i := 1) rfl ?_)
  refine (go H 2 rfl hT h (nm := [84, 100]) rfl rfl (opvR (H.get 4 rfl) _) (do_move_off (K := []) rfl)).mono ?_
  rintro r197 r198 w199 ⟨rfl, H, _⟩
  simp only [List.nil_append, List.cons_append, List.set_cons_zero, List.set_cons_succ, Nat.zero_add] at H
  refine reg H (Sh.Br.t rfl (LdS.of (fun w' hw => hw.get 7 rfl) (x := (moveM c d).1) rfl (LdS.of (fun w' hw => hw.get 7 rfl) (x := (moveM c d).2.1) rfl (LdS.of (fun w' hw => hw.get 7 rfl) (x := (moveM c d).2.2.1) rfl (LdS.of (fun w' hw => hw.get 7 rfl) (x := (moveM c d).2.2.2.1) rfl (LdS.of (fun w' hw => hw.get 7 rfl) (x := (moveM c d).2.2.2.2.1) rfl (LdS.of (fun w' hw => hw.get 7 rfl) (x := (moveM c d).2.2.2.2.2) rfl (?_))))))))
  refine (Mat.r_move c d _).mono ?_
  rintro r207 w208 ⟨rfl, e208⟩
  have H := H.drew.keep e208
  refine ⟨H, Sh.Br.t (by simp) (Sh.Br.t rfl ?_)⟩
  refine (c_on (H.get 2 rfl)).mono ?_
  rintro r209 w210 ⟨rfl, rfl⟩
  refine Sh.Br.t rfl ((c_matrix (H.get 2 rfl)).mono ?_)
  rintro r211 w212 ⟨rfl, e212⟩
  refine (Mat.r_one _).mono ?_
  rintro r213 w214 ⟨rfl, e214⟩
  exact Sh.Br.t (by decide) ⟨by decide, H.ext.tr (e212.tr e214)⟩
end
end Ma
namespace Sw
open Sh Mat Fix Fo
open Go.ChangeShapes Go.WideShapes Go.ChangeAt Go.RowKit
open Go.ChangeMaps (open_string shut_string)
set_option maxRecDepth 100000
theorem of_laidM {W : World} (h : laidMetH Tryz.prog Rows.showMovesUptoRow.laid W) : TB W := by
  rw [MakeChecks.laidMetH_plain _ _ _ (by kernel_rfl)] at h
  refine of_reads h ?_ ?_ ?_
  all_goals first | exact .head _ | exact .tail _ (.head _) | exact .tail _ (.tail _ (.head _)) | exact .tail _ (.tail _ (.tail _ (.head _)))
end Sw
end Go.Proofs.YtcblpehnkogfdaaGreatDoor
/- Text machines: the law on pieces walked. Conditions: sizes, the laid tables. -/
namespace Go.Proofs.YtcblpehnkogfdaaGreatDoor
namespace Ma
open Sh Mat Fix Fo Sw Opr Pat
set_option linter.unusedVariables false
set_option linter.unusedSimpArgs false
set_option maxRecDepth 8000
set_option maxHeartbeats 4000000
attribute [local irreducible] Ld Sh.St Nw Nn Lt LdS
abbrev TL : TypeId := 70
theorem r_same {s t : Slc} {L : List GlT} {w : World} (hs : VRow w s 9 (L.flatMap glc)) (ht : VRow w t 9 (L.flatMap glc)) (hl : L.length ≤ 1000000) : C15 s t w fun r w1 => r = true ∧ Ext (fun _ => False) w w1 := by
  have n1 := VRow.count glc_len (by decide) hs
  have n2 := VRow.count glc_len (by decide) ht
  refine T15 _ _ _ _ ?_
  unfold S15
  rw [n1, n2]
  refine Br.ne (fun q => absurd rfl q) fun _ => ?_
  refine ⟨fun n st w1 => ∃ k : Nat, st = (k : Int) ∧ k ≤ L.length ∧ n = L.length - k ∧ Ext (fun _ => False) w w1, L.length, ⟨0, rfl, Nat.zero_le _, rfl, Ext.refl _ _⟩, ?_⟩
  rintro n st w1 ⟨k, rfl, hk, rfl, e1⟩
  unfold S15L1
  rw [n1, n2]
  refine Br.dec (fun q => ⟨by omega, by omega, ?_⟩) fun q => ⟨rfl, e1⟩
  have hkl : k < L.length := by omega
  have e2 := e1.drew
  obtain ⟨a, ha, hac⟩ := at_glyph (hs.keep e2) hkl
  obtain ⟨b, hb, hbc⟩ := at_glyph (ht.keep e2) hkl
  rw [ha, hb, Int.toNat_natCast]
  refine Nn.of (LdT.any LiA69 0 L[k] _ (fun j v hj => by rw [Nat.zero_add]; exact hac j v hj) ⟨by omega, by omega, Nn.of (LdT.any LiA69 0 L[k] _ (fun j v hj => by rw [Nat.zero_add]; exact hbc j v hj) (Lt.of (Sh.Br.f (by simp) ?_)))⟩)
  exact ⟨L.length - (k + 1), by omega, k + 1, by rw [i64_id (by omega)]; rfl, by omega, rfl, e2⟩
theorem reg' {w0 w : World} {Ls : List (Nat × List Value × TypeId)} (H : Hn w0 w Ls) {P : (World → Prop) → Prop} (k : P (fun w' => Hn w0 w' Ls)) : ∃ S, S w ∧ P S := ⟨_, H, k⟩
theorem c_small0 (x : FT) (w : World) : C9 ⟨none, 0, 0⟩ x w fun r w1 => Ext (fun _ => False) w w1 := by
  refine T9 _ _ _ _ ?_
  unfold S9
  refine Nw.of ?_
  have H := fo_blk w x
  have hE := H.ext
  generalize w.alloc (.cells (Sig.cells LiA34 x).toArray 35) = wd at *
  refine Sh.Br.f (by decide) (H.ld 0 rfl (x := x.2.2.2.1) rfl (Br.dec (fun _ => hE) fun _ => H.ld 0 rfl (x := x.2.2.2.2.2.2) rfl (Br.dec (fun _ => hE) fun _ => H.ld 0 rfl (x := x.2.2.2.2.2.1) rfl (Br.dec (fun _ => hE) fun _ => ?_))))
  refine ⟨fun n st w1 => st = 0 ∧ Ext (fun _ => False) w w1, 0, ⟨rfl, hE⟩, ?_⟩
  rintro n st w1 ⟨rfl, e1⟩
  unfold S9L3
  exact Sh.Br.f (by decide) e1
section
variable {w vw6 vw7 w1 : World} {g : GT} {x : FT} {f : Font} {m : Mx} {s t : ByteArray}
theorem pc_J1 (hT : TB w) (h : FoV w x f) (hm : M64 m) (hs : s.size ≤ 100) (ht : t.size ≤ 100) (hw : f.wide = true → s.size % 2 = 0) (H : Hn w w1 [(w.heap.size, grl g, TG), (vw6.heap.size, mrow m, TM), (vw7.heap.size, fol x, TF)]) :
    S5J1 w s t vw6 vw7 (fun r w1 => r = true ∧ Ext (fun _ => False) w w1) () w1 := by
  unfold S5J1
  refine gL H (i := 0) rfl (H.ld 1 rfl (x := m.1) rfl (H.ld 1 rfl (x := m.2.1) rfl (H.ld 1 rfl (x := m.2.2.1) rfl (H.ld 1 rfl (x := m.2.2.2.1) rfl (H.ld 1 rfl (x := m.2.2.2.2.1) rfl (H.ld 1 rfl (x := m.2.2.2.2.2) rfl ((fL H (i := 2) rfl ⟨by show ((s.size + t.size : Nat) : Int) ≤ 9223372036854775807; omega, ?_⟩))))))))
  refine (c_string (g := g) (hT.keep H.ext) (h.keep H.ext) m (s := s ++ t) (by rw [ByteArray.size_append]; omega)).mono ?_
  rintro r27 r28 r29 w30 ⟨e30, L, hF, hv, _⟩
  have H := H.keep e30
  refine mk_mx w30 r28 fun w37 e37 hb => ?_
  have H := (H.keep e37).push hb H.size fun hm => Nat.lt_irrefl _ (H.all_lt hm)
  simp only [List.nil_append, List.cons_append, List.set_cons_zero, List.set_cons_succ, Nat.zero_add] at H
  have hv := hv.keep e37
  clear hb
  refine gL H (i := 0) rfl (H.ld 1 rfl (x := m.1) rfl (H.ld 1 rfl (x := m.2.1) rfl (H.ld 1 rfl (x := m.2.2.1) rfl (H.ld 1 rfl (x := m.2.2.2.1) rfl (H.ld 1 rfl (x := m.2.2.2.2.1) rfl (H.ld 1 rfl (x := m.2.2.2.2.2) rfl ((fL H (i := 2) rfl ?_))))))))
  refine (c_string (g := g) (hT.keep H.ext) (h.keep H.ext) m (s := s) (by omega)).mono ?_
  rintro r46 r47 r48 w49 ⟨e49, La, hFa, hva, _⟩
  have H := H.keep e49
  have hv := hv.keep e49
  refine mk_mx w49 r47 fun w56 e56 hb => ?_
  have H := (H.keep e56).push hb H.size fun hm => Nat.lt_irrefl _ (H.all_lt hm)
  simp only [List.nil_append, List.cons_append, List.set_cons_zero, List.set_cons_succ, Nat.zero_add] at H
  have hv := hv.keep e56
  have hva := hva.keep e56
  clear hb
  have n1 := VRow.count glc_len (by decide) hv
  refine Br.ne (fun q => ?_) fun q => ?_
  · have hL := string_no hF q
    have hM := string_none hF q
    subst hL hM
    refine Sh.Br.t (by rw [n1]; rfl) (H.ld 3 rfl (x := noM.1) rfl (H.ld 3 rfl (x := noM.2.1) rfl (H.ld 3 rfl (x := noM.2.2.1) rfl (H.ld 3 rfl (x := noM.2.2.2.1) rfl (H.ld 3 rfl (x := noM.2.2.2.2.1) rfl (H.ld 3 rfl (x := noM.2.2.2.2.2) rfl ((Lt.of ⟨by decide, H.ext⟩))))))))
  subst q
  obtain ⟨La', Lb, m1, h1, h2, h3⟩ := string_two hF hw
  rw [h1] at hFa
  cases hFa
  refine gL H (i := 0) rfl (H.ld 4 rfl (x := r47.1) rfl (H.ld 4 rfl (x := r47.2.1) rfl (H.ld 4 rfl (x := r47.2.2.1) rfl (H.ld 4 rfl (x := r47.2.2.2.1) rfl (H.ld 4 rfl (x := r47.2.2.2.2.1) rfl (H.ld 4 rfl (x := r47.2.2.2.2.2) rfl ((fL H (i := 2) rfl ?_))))))))
  refine (c_string (g := g) (hT.keep H.ext) (h.keep H.ext) r47 (s := t) (by omega)).mono ?_
  rintro r79 r80 r81 w82 ⟨e82, Lb', hFb, hvb, _⟩
  rw [h2] at hFb
  cases hFb
  have H := H.keep e82
  have hv := hv.keep e82
  have hva := hva.keep e82
  refine mk_mx w82 r28 fun w89 e89 hb => ?_
  have H := (H.keep e89).push hb H.size fun hm => Nat.lt_irrefl _ (H.all_lt hm)
  simp only [List.nil_append, List.cons_append, List.set_cons_zero, List.set_cons_succ, Nat.zero_add] at H
  have hv := hv.keep e89
  have hva := hva.keep e89
  have hvb := hvb.keep e89
  clear hb
  refine Br.ne (fun q => absurd rfl q) fun _ => Br.ne (fun q => absurd rfl q) fun _ => Nw.of ?_
  have e110 := (Ext.refl (fun _ => False) w89).alloc (.cells #[] TL)
  have hR := Row.new w89 #[] TL 9 0 rfl
  have hlen := string_most hF
  have lab : La.length + Lb.length ≤ 16384 := by rw [h3, List.length_append] at hlen; exact hlen
  have na := VRow.count glc_len (by decide) hva
  have nb := VRow.count glc_len (by decide) hvb
  have one : ∀ (L : List GlT), ∀ v ∈ L.flatMap glc, v.oneCell' = true := fun L v hv => by
    obtain ⟨y, _, hx⟩ := List.mem_flatMap.1 hv
    exact glc_one y v hx
  obtain ⟨s1, w112, hrun1, hrow1, hlen1, hext1, hown1⟩ := elGl.app (ty := 49) hR (hva.keep e110) (one La) (by show (0 + r46.len) * _ ≤ _; omega) (by show 0 + r46.len ≤ _; omega)
  refine ⟨s1, w112, hrun1, ?_⟩
  have own0 : ∀ j, (⟨some ⟨w89.heap.size, 0, none⟩, 0, 0⟩ : Slc).own j → w89.heap.size ≤ j := fun j hj => by
    obtain ⟨a, ha, hb⟩ := hj
    cases ha
    exact Nat.le_of_eq hb
  have E112 : Ext (fun _ => False) w89 w112 := ext_new e110 hext1 own0
  have hs1 : s1.len = r46.len := by rw [hlen1]; exact Nat.zero_add _
  obtain ⟨s2, w114, hrun2, hrow2, hlen2, hext2, hown2⟩ := elGl.app (ty := 49) hrow1 (hvb.keep E112) (one Lb) (by omega) (by omega)
  refine ⟨s2, w114, hrun2, ?_⟩
  have E114 : Ext (fun _ => False) w89 w114 := ext_new E112 hext2 fun j hj => by
    rcases hown1 j hj with h1 | h1
    · exact own0 j h1
    · have := e110.size
      omega
  have H := H.keep E114
  have hv := hv.keep E114
  have hv2 : VRow w114 s2 9 (L.flatMap glc) := by
    have := Row.view hrow2
    rw [h3, List.flatMap_append]
    simpa using this
  refine (r_same hv hv2 (by omega)).mono ?_
  rintro r115 w116 ⟨rfl, e116⟩
  have H := H.keep e116
  have hv := hv.keep e116
  refine Sh.Br.f rfl (H.ld 3 rfl (x := r28.1) rfl (H.ld 3 rfl (x := r28.2.1) rfl (H.ld 3 rfl (x := r28.2.2.1) rfl (H.ld 3 rfl (x := r28.2.2.2.1) rfl (H.ld 3 rfl (x := r28.2.2.2.2.1) rfl (H.ld 3 rfl (x := r28.2.2.2.2.2) rfl ((H.ld 5 rfl (x := r28.1) rfl (H.ld 5 rfl (x := r28.2.1) rfl (H.ld 5 rfl (x := r28.2.2.1) rfl (H.ld 5 rfl (x := r28.2.2.2.1) rfl (H.ld 5 rfl (x := r28.2.2.2.2.1) rfl (H.ld 5 rfl (x := r28.2.2.2.2.2) rfl ((Lt.of (Sh.Br.f (by simp) ?_))))))))))))))))
  refine (c_new _).mono ?_
  rintro r130 w131 ⟨xb, rfl, gx, bx, e131⟩
  have H := (H.keep e131).push bx (by have := H.size; omega) fun hm => by have := H.all_lt hm; omega
  simp only [List.nil_append, List.cons_append, List.set_cons_zero, List.set_cons_succ, Nat.zero_add] at H
  clear bx
  have hE : Ext (fun _ => False) w116 w131 := e131
  refine H.ld 1 rfl (x := m.1) rfl (H.ld 1 rfl (x := m.2.1) rfl (H.ld 1 rfl (x := m.2.2.1) rfl (H.ld 1 rfl (x := m.2.2.2.1) rfl (H.ld 1 rfl (x := m.2.2.2.2.1) rfl (H.ld 1 rfl (x := m.2.2.2.2.2) rfl (?_))))))
  refine (r_object hm _).mono ?_
  rintro r138 w139 ⟨kb, rfl, bk, gk, e139⟩
  have H := (H.keep e139).push bk (by have := H.size; omega) fun hm => by have := H.all_lt hm; omega
  generalize hmm : ((comps m).map numO).flatMap obrow = mm at H
  simp only [List.nil_append, List.cons_append, List.set_cons_zero, List.set_cons_succ, Nat.zero_add] at H
  clear bk
  have hE := hE.tr e139
  have hs139 := e139.size
  have hs131 := e131.size
  have stp : ∀ {a b : World}, Ext (fun _ => False) w116 a → Ext (· = w139.heap.size) a b → Ext (fun _ => False) w116 b := fun {a b} h1 h2 => ext_new h1 h2 fun j hj => by
    have e : j = w139.heap.size := hj
    omega
  refine H.nw' fun w140 H e140 => ?_
  have hE := hE.tr e140
  generalize hgl : grl g = gc at H
  generalize hfl : fol x = fc at H
  simp only [List.nil_append, List.cons_append, List.set_cons_zero, List.set_cons_succ, Nat.zero_add] at H
  refine H.st' 8 rfl (by simp) fun wa H ea => ?_
  have hE := stp hE ea
  simp only [List.nil_append, List.cons_append, List.set_cons_zero, List.set_cons_succ, Nat.zero_add] at H
  refine H.st' 8 rfl (by simp) fun wa H ea => ?_
  have hE := stp hE ea
  simp only [List.nil_append, List.cons_append, List.set_cons_zero, List.set_cons_succ, Nat.zero_add] at H
  refine H.st' 8 rfl (by simp) fun wa H ea => ?_
  have hE := stp hE ea
  simp only [List.nil_append, List.cons_append, List.set_cons_zero, List.set_cons_succ, Nat.zero_add] at H
  refine H.st' 8 rfl (by simp) fun wa H ea => ?_
  have hE := stp hE ea
  simp only [List.nil_append, List.cons_append, List.set_cons_zero, List.set_cons_succ, Nat.zero_add] at H
  refine H.st' 8 rfl (by simp) fun wa H ea => ?_
  have hE := stp hE ea
  simp only [List.nil_append, List.cons_append, List.set_cons_zero, List.set_cons_succ, Nat.zero_add] at H
  refine H.st' 8 rfl (by simp) fun w146 H ea => ?_
  have hE := stp hE ea
  simp only [List.nil_append, List.cons_append, List.set_cons_zero, List.set_cons_succ, Nat.zero_add] at H
  subst hgl hfl hmm
  have ok1 := ok_of_string hF
  have stepE : ∀ {a b : World}, Ext (fun _ => False) w116 a → Ext (· = xb) a b → Ext (fun _ => False) w116 b := fun {a b} h1 h2 => ext_new h1 h2 fun j hj => by
    have e : j = xb := hj
    omega
  refine gL H (i := 0) rfl (fL H (i := 2) rfl ?_)
  refine (go H 6 rfl hT h (nm := [66, 84]) rfl rfl (opv0 _ _) (do_bt (K := []) rfl)).mono ?_
  rintro r149 r150 w151 ⟨rfl, H, _, _, eb⟩
  have hE := stepE hE eb
  simp only [List.nil_append, List.cons_append, List.set_cons_zero, List.set_cons_succ, Nat.zero_add] at H
  refine H.ld 8 rfl (x := rowS kb 6) rfl (gL H (i := 0) rfl (fL H (i := 2) rfl ?_))
  refine (go H 6 rfl hT h (nm := [84, 109]) rfl rfl (opvM (H.get 7 rfl) _) (do_tm (K := []) rfl ok1)).mono ?_
  rintro r155 r156 w157 ⟨rfl, H, _, _, eb⟩
  have hE := stepE hE eb
  simp only [List.nil_append, List.cons_append, List.set_cons_zero, List.set_cons_succ, Nat.zero_add] at H
  refine H.nw' (cs := [obS s, obS t].flatMap obrow) fun w158 H e158 => ?_
  have hE := hE.tr e158
  refine H.nw' (cs := [obA w157.heap.size 2].flatMap obrow) fun w159 H e159 => ?_
  have hE := hE.tr e159
  generalize hq1 : [obS s, obS t].flatMap obrow = q1 at H
  generalize hq2 : [obA w157.heap.size 2].flatMap obrow = q2 at H
  simp only [List.nil_append, List.cons_append, List.set_cons_zero, List.set_cons_succ, Nat.zero_add] at H
  subst hq1 hq2
  refine gL H (i := 0) rfl (fL H (i := 2) rfl ?_)
  have hrow := row_two h1 h2 (by rw [← h3]; exact hlen)
  refine (go H 6 rfl hT h (nm := [84, 74]) rfl rfl (opvA (o := obA w157.heap.size 2) (K := [obS s, obS t]) (OV.of (L := [obA w157.heap.size 2]) (H.get 10 rfl)) (OV.of (L := [obS s, obS t]) (H.get 9 rfl)) (by show 2 ≤ 9223372036854775807; decide) (by show (⟨#[]⟩ : ByteArray).size ≤ 1048576; decide) fun k hk => by
    rcases List.mem_cons.1 hk with rfl | hk
    · show s.size ≤ _; omega
    · rw [List.mem_singleton.1 hk]; show t.size ≤ _; omega) (do_arr rfl rfl (by simp [kidOk, obS]) hrow)).mono ?_
  rintro r162 r163 w164 ⟨rfl, H, hvm, _, eb⟩
  have hE := stepE hE eb
  simp only [List.nil_append, List.cons_append, List.set_cons_zero, List.set_cons_succ, Nat.zero_add] at H
  have hvm : VRow w164 r162 9 (L.flatMap glc) := by rw [h3]; exact hvm
  refine Sh.Br.t rfl (Sh.Br.t rfl (Sh.Br.t rfl ?_))
  have eD := (Ext.refl (fun _ => False) w164).drew
  refine (r_same (hvm.keep eD) ((hv.keep hE).keep eD) (by omega)).mono ?_
  rintro r165 w166 ⟨rfl, e166⟩
  have H := (H.keep eD).keep e166
  refine reg' H (Sh.Br.t rfl (LdS.of (fun w' hw => hw.get 3 rfl) (x := r28.1) rfl (LdS.of (fun w' hw => hw.get 3 rfl) (x := r28.2.1) rfl (LdS.of (fun w' hw => hw.get 3 rfl) (x := r28.2.2.1) rfl (LdS.of (fun w' hw => hw.get 3 rfl) (x := r28.2.2.2.1) rfl (LdS.of (fun w' hw => hw.get 3 rfl) (x := r28.2.2.2.2.1) rfl (LdS.of (fun w' hw => hw.get 3 rfl) (x := r28.2.2.2.2.2) rfl (?_))))))))
  refine (c_matrix (H.get 6 rfl)).mono ?_
  rintro r174 w175 ⟨hr, e175⟩
  have H := H.keep e175
  subst hr
  exact ⟨H, by simp, H.ext⟩
theorem c_pieces (hT : TB w) (g : GT) (hm : M64 m) (h : FoV w x f) : C5 g m x s t w fun r w1 => r = true ∧ Ext (fun _ => False) w w1 := by
  refine T5 _ _ _ _ _ _ _ ?_
  unfold S5
  refine Nw.of ?_
  have HG := gr_blk w g
  have H := Hn.push ((Hn.start w).keep HG.ext) (show Blk _ w.heap.size (grl g).toArray TG from HG.get 0 rfl) (Nat.le_refl _) (by simp)
  generalize w.alloc (.cells (Sig.cells LiA30 g).toArray TG) = vw6 at *
  refine H.nw (cs := mrow m) fun vw7 H => ?_
  refine Nw.of ?_
  have HF := fo_blk vw7 x
  have H := Hn.push (H.keep HF.ext) (show Blk _ vw7.heap.size (fol x).toArray TF from HF.get 0 rfl) H.size fun hm => Nat.lt_irrefl _ (H.all_lt hm)
  generalize vw7.alloc (.cells (Sig.cells LiA34 x).toArray TF) = w8 at *
  refine (c_lives (hT.keep H.ext)).mono ?_
  rintro r11 w12 ⟨rfl, e12⟩
  have H : Hn w w12 [(w.heap.size, grl g, TG), (vw6.heap.size, mrow m, TM), (vw7.heap.size, fol x, TF)] := H.keep e12
  refine Sh.Br.f rfl ⟨fun _ w' => Hn w w' [(w.heap.size, grl g, TG), (vw6.heap.size, mrow m, TM), (vw7.heap.size, fol x, TF)] ∧ s.size ≤ 100 ∧ t.size ≤ 100 ∧ (f.wide = true → s.size % 2 = 0), fun _ w' H' => pc_J1 hT h hm H'.2.1 H'.2.2.1 H'.2.2.2 H'.1, ?_⟩
  refine fL H (i := 2) rfl ?_
  refine (c_small0 x _).mono fun r193 w194 e194 => ?_
  have H := H.keep e194
  cases r193 with
  | false => exact Sh.Br.t rfl ⟨rfl, H.ext⟩
  | true =>
    refine Sh.Br.f rfl (Br.dec (fun _ => ⟨rfl, H.ext⟩) fun q1 => Br.dec (fun _ => ⟨rfl, H.ext⟩) fun q2 => H.ld 2 rfl (x := x.2.1) rfl ?_)
    have hw : x.2.1 = f.wide := h.wide
    rw [hw]
    cases hfw : f.wide with
    | false => exact Sh.Br.f rfl ⟨H, by omega, by omega, fun e => by cases e⟩
    | true => exact Sh.Br.t rfl (Br.ne (fun _ => ⟨rfl, H.ext⟩) fun q3 => ⟨H, by omega, by omega, fun _ => by
        rw [tmod_id (by omega)] at q3
        omega⟩)
end
end Ma
namespace Sw
open Sh Mat Fix Fo
open Go.ChangeShapes Go.WideShapes Go.ChangeAt Go.RowKit
open Go.ChangeMaps (open_string shut_string)
set_option maxRecDepth 100000
theorem of_laidPc {W : World} (h : laidMetH Tryz.prog Rows.showPiecesUptoRow.laid W) : TB W := by
  rw [MakeChecks.laidMetH_plain _ _ _ (by kernel_rfl)] at h
  refine of_reads h ?_ ?_ ?_
  all_goals first | exact .head _ | exact .tail _ (.head _) | exact .tail _ (.tail _ (.head _)) | exact .tail _ (.tail _ (.tail _ (.head _)))
end Sw
end Go.Proofs.YtcblpehnkogfdaaGreatDoor
