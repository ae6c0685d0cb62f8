/- Box's points: the iterator gives the points of the segments, in order. Conditions: what a round keeps. -/
import Derived.Test.YtjbeembbnkmpeaaDoorFnPaY
import Derived.Test.YtjbeembbnkmpeaaDoorPaI
namespace Go.Proofs.YtjbeembbnkmpeaaDoor
namespace Pat
open Sh Mat Fix Opr
set_option linter.unusedVariables false
set_option linter.unusedSimpArgs false
set_option maxRecDepth 100000
set_option maxHeartbeats 4000000
/-- A row of points. -/
def PW (W : World) (s : Slc) (n1 : Nat) (ps : List (Int × Int)) : Prop := s.len = ps.length ∧ ∀ (k : Nat) (x : Int × Int), ps[k]? = some x →
  ∃ b, s.p = some ⟨b, 0, none⟩ ∧ n1 ≤ b ∧ b < W.heap.size ∧ W.cell? ((⟨b, 0, none⟩ : Addr).add (k * 2)) = some (.int .i64 x.1) ∧ W.cell? (((⟨b, 0, none⟩ : Addr).add (k * 2)).add 1) = some (.int .i64 x.2)
theorem PW.keep {W W' : World} {s : Slc} {n1 : Nat} {ps : List (Int × Int)} {B : Nat → Prop} (h : PW W s n1 ps) (he : Ext B W W') (hB : ∀ j, B j → j < n1) : PW W' s n1 ps := ⟨h.1, fun k x hk => by
  obtain ⟨b, h1, h2, h3, h4, h5⟩ := h.2 k x hk
  have hn : ¬ B b := fun h => by have := hB b h; omega
  exact ⟨b, h1, h2, Nat.lt_of_lt_of_le h3 he.size, (he.cell (p := (⟨b, 0, none⟩ : Addr).add (k * 2)) (by rw [add_block]; exact h3) (by rw [add_block]; exact hn)).trans h4, (he.cell (p := ((⟨b, 0, none⟩ : Addr).add (k * 2)).add 1) (by rw [add_block, add_block]; exact h3) (by rw [add_block, add_block]; exact hn)).trans h5⟩⟩
section
variable {l n1 : Nat} {J : List (Int × Int) → World → Prop} {B : Nat → Prop} {W : World} {s : Slc} {L : List Sg}
attribute [local irreducible] Ld Sh.St Nw Nn LdS LdT LdST StT
theorem it_in {pre ps : List (Int × Int)} {s5 : Int} {R : World → Prop} {I7 : Int → World → Prop} (hB : ∀ j, B j → j < n1)
    (hJ : ∀ (pre : List (Int × Int)) (W W' : World), J pre W → Ext (fun _ => False) W W' → J pre W')
    (hY : ∀ (pre : List (Int × Int)) (x : Int × Int) (W : World) (K : Bool → World → Prop), J pre W → (∀ W', J (pre ++ [x]) W' → Ext B W W' → K true W') → Yl Tryd.prog l #[.agg #[.int .i64 x.1, .int .i64 x.2]] W K)
    (hw : PW W s n1 ps) (hl : ps.length ≤ 3) (hj : J pre W) (hI : ∀ W', J (pre ++ ps) W' → Ext B W W' → I7 (IntKind.i64.wrap (s5 + 1)) W') :
    S148_YJ1 l s5 I7 R s W := by
  refine ⟨fun n st w3 => ∃ k : Nat, st = (k : Int) ∧ k ≤ ps.length ∧ n = ps.length - k ∧ J (pre ++ ps.take k) w3 ∧ Ext B W w3, ps.length, ⟨0, rfl, by omega, rfl, by simpa using hj, Ext.refl _ _⟩, ?_⟩
  rintro n st w3 ⟨k, rfl, hk, rfl, hj3, e3⟩
  unfold S148_YL1
  rw [hw.1]
  refine Br.dec (fun q => ?_) fun q => ?_
  · have hL : ps[k]? = some ps[k] := List.getElem?_eq_getElem (by omega)
    have tL : ps.take (k + 1) = ps.take k ++ [ps[k]] := by rw [List.take_add_one, hL]; rfl
    generalize ps[k] = x at hL tL
    obtain ⟨b, hp, _, _, c0, c1⟩ := (hw.keep e3 hB).2 k x hL
    rw [hp, Int.toNat_natCast]
    refine ⟨by omega, by omega, Nn.of (Ld.mk c0 (Ld.mk c1 ?_))⟩
    refine (Hn.start w3).nw fun w4 H => ?_
    refine H.st 0 rfl (by simp) fun w5 H => ?_
    refine H.st 0 rfl (by simp) fun w6 H => ?_
    refine H.ld 0 rfl rfl (H.ld 0 rfl rfl ?_)
    have e6 := H.h.ext
    refine hY _ x w6 _ (hJ _ _ _ hj3 e6) fun w7 hj7 e7 => Br.f rfl ?_
    refine ⟨ps.length - (k + 1), by omega, k + 1, by rw [i64_id (by omega)]; rfl, by omega, rfl, ?_, (e3.trans e6 (fun _ h => h) fun _ _ h => h.elim).tr e7⟩
    rw [tL, ← List.append_assoc]
    exact hj7
  · refine hI _ ?_ e3
    rwa [List.take_of_length_le (by omega)] at hj3
theorem pw1 {w4 : World} {b : Nat} {L4 : List (Nat × List Value × TypeId)} {w3 : World} {i : Nat} {x y : Int} {t : TypeId} (H : Hn w3 w4 L4) (hi : L4[i]? = some (b, [.int .i64 x, .int .i64 y], t)) (hn : n1 ≤ w3.heap.size) : PW w4 ⟨some ⟨b, 0, none⟩, 1, 1⟩ n1 [(x, y)] := by
  refine ⟨rfl, fun k q hk => ?_⟩
  have hb := H.get i hi
  have hg := H.ge i hi
  obtain rfl : k = 0 := by
    have := (List.getElem?_eq_some_iff.1 hk).1
    simp at this
    exact this
  cases hk
  exact ⟨b, rfl, by omega, hb.lt, hb.cell 0, hb.cell 1⟩
theorem pw3 {w4 : World} {b : Nat} {L4 : List (Nat × List Value × TypeId)} {w3 : World} {i : Nat} {x y x2 y2 x3 y3 : Int} {t : TypeId} (H : Hn w3 w4 L4) (hi : L4[i]? = some (b, [.int .i64 x, .int .i64 y, .int .i64 x2, .int .i64 y2, .int .i64 x3, .int .i64 y3], t)) (hn : n1 ≤ w3.heap.size) : PW w4 ⟨some ⟨b, 0, none⟩, 3, 3⟩ n1 [(x, y), (x2, y2), (x3, y3)] := by
  refine ⟨rfl, fun k q hk => ?_⟩
  have hb := H.get i hi
  have hg := H.ge i hi
  match k, hk with
  | 0, hk => cases hk; exact ⟨b, rfl, by omega, hb.lt, hb.cell 0, hb.cell 1⟩
  | 1, hk => cases hk; exact ⟨b, rfl, by omega, hb.lt, hb.cell 2, hb.cell 3⟩
  | 2, hk => cases hk; exact ⟨b, rfl, by omega, hb.lt, hb.cell 4, hb.cell 5⟩
  | k + 3, hk => simp at hk
theorem it_pts {w0 w : World} {c3 : Addr} (hS : SV w0 s L) (he0 : Ext (fun _ => False) w0 w) (hl : L.length ≤ 100000) (hc : w.cell? c3 = some (Slc.v s)) (hlo : ∀ j, B j → w0.heap.size ≤ j) (hB : ∀ j, B j → j < w.heap.size)
    (hJ : ∀ (pre : List (Int × Int)) (W W' : World), J pre W → Ext (fun _ => False) W W' → J pre W')
    (hY : ∀ (pre : List (Int × Int)) (x : Int × Int) (W : World) (K : Bool → World → Prop), J pre W → (∀ W', J (pre ++ [x]) W' → Ext B W W' → K true W') → Yl Tryd.prog l #[.agg #[.int .i64 x.1, .int .i64 x.2]] W K)
    (hj : J [] w) : S148_Y l c3 w fun W' => J (ptsL L) W' := by
  refine Ld.mk hc ?_
  refine ⟨fun n st w3 => ∃ i : Nat, st = (i : Int) ∧ i ≤ L.length ∧ n = L.length - i ∧ J (ptsL (L.take i)) w3 ∧ Ext B w w3, L.length, ⟨0, rfl, by omega, rfl, by simpa [ptsL] using hj, Ext.refl _ _⟩, ?_⟩
  rintro n st w3 ⟨i, rfl, hi, rfl, hj3, e3⟩
  unfold S148_YL2
  rw [hS.1]
  refine Br.dec (fun q => ?_) fun q => ?_
  · have hL : L[i]? = some L[i] := List.getElem?_eq_getElem (by omega)
    have tL : L.take (i + 1) = L.take i ++ [L[i]] := by rw [List.take_add_one, hL]; rfl
    generalize L[i] = o at hL tL
    have hpt : ptsL (L.take (i + 1)) = ptsL (L.take i) ++ ptsS o := by rw [tL]; simp [ptsL]
    obtain ⟨a, hp, c0⟩ := hS.get hL
    have c : ∀ j v, (sgrow o)[j]? = some v → w3.cell? ((a.add (i * 7)).add j) = some v := fun j v hv => by
      have h1 := c0 j v hv
      have h2 := cell_lt' h1
      have h3 := (he0.cell (p := (a.add (i * 7)).add j) h2 (fun h => h)).trans h1
      exact (e3.cell (p := (a.add (i * 7)).add j) (cell_lt' h3) (fun h => by have := hlo _ h; omega)).trans h3
    obtain ⟨kd, x1, y1, x2, y2, x3, y3⟩ := o
    have c10 := c 0 _ rfl
    rw [add_add', Nat.add_zero] at c10
    rw [hp, Int.toNat_natCast]
    refine ⟨by omega, by omega, Nn.of (Ld.mk c10 (Ld.mk (c 1 _ rfl) (Ld.mk (c 2 _ rfl) (Ld.mk (c 3 _ rfl) (Ld.mk (c 4 _ rfl) (Ld.mk (c 5 _ rfl) (Ld.mk (c 6 _ rfl) ?_)))))))⟩
    refine (Hn.start w3).nw fun w4 H => ?_
    iterate 7 (refine H.st 0 rfl (by simp) fun _ H => ?_; simp only [List.set_cons_zero, List.set_cons_succ] at H)
    have hn3 : w.heap.size ≤ w3.heap.size := e3.size
    refine ⟨fun s4 w4 => PW w4 s4 w.heap.size (ptsS (kd, x1, y1, x2, y2, x3, y3)) ∧ J (ptsL (L.take i)) w4 ∧ Ext B w w4, ?_, ?_⟩
    · rintro s4 w4 ⟨hw, hj4, e4⟩
      refine it_in hB hJ hY hw (by unfold ptsS; split; · simp
                                   · split <;> simp) hj4 fun W' hj5 e5 => ⟨L.length - (i + 1), by omega, i + 1, by rw [i64_id (by omega)]; rfl, by omega, rfl, by rw [hpt]; exact hj5, e4.tr e5⟩
    · have fin : ∀ {s5 : Slc} {w5 : World} {ps : List (Int × Int)}, PW w5 s5 w.heap.size ps → Ext (fun _ => False) w3 w5 → ptsS (kd, x1, y1, x2, y2, x3, y3) = ps → PW w5 s5 w.heap.size (ptsS (kd, x1, y1, x2, y2, x3, y3)) ∧ J (ptsL (L.take i)) w5 ∧ Ext B w w5 := fun h1 h2 h3 =>
        ⟨by rw [h3]; exact h1, hJ _ _ _ hj3 h2, e3.trans h2 (fun _ h => h) fun _ _ h => h.elim⟩
      refine H.ld 0 rfl rfl ?_
      refine Br.eq (fun q1 => Br.t (by simp [q1]) ?_) fun q1 => Br.eq (fun q2 => ?_) fun q2 => Br.eq (fun q3 => ?_) fun q3 => ?_
      · refine H.ld 0 rfl rfl (H.ld 0 rfl rfl (H.nw fun w5 H => ?_))
        exact fin (pw1 H (i := 1) rfl hn3) H.h.ext (by unfold ptsS; rw [if_pos (.inl q1)])
      · refine H.ld 0 rfl rfl (H.ld 0 rfl rfl (H.nw fun w5 H => ?_))
        exact fin (pw1 H (i := 1) rfl hn3) H.h.ext (by unfold ptsS; rw [if_pos (.inr q2)])
      · refine H.ld 0 rfl rfl (H.ld 0 rfl rfl (H.ld 0 rfl rfl (H.ld 0 rfl rfl (H.ld 0 rfl rfl (H.ld 0 rfl rfl (H.nw fun w5 H => ?_))))))
        exact fin (pw3 H (i := 1) rfl hn3) H.h.ext (by unfold ptsS; rw [if_neg (fun h => h.elim q1 q2), if_pos q3])
      · exact fin (ps := []) ⟨rfl, fun k x hk => by simp at hk⟩ H.h.ext (by unfold ptsS; rw [if_neg (fun h => h.elim q1 q2), if_neg q3])
  · rwa [List.take_of_length_le (by omega)] at hj3
end
end Pat
end Go.Proofs.YtjbeembbnkmpeaaDoor
