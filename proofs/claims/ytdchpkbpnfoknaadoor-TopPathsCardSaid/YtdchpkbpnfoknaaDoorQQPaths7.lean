/- The formulas of 2 functions of the program, written by program (gen.py); the kernel checks each. No condition. -/
import Derived.Test.YtdchpkbpnfoknaaDoorQQPaths2
import Derived.Test.YtdchpkbpnfoknaaDoorQQPaths3
import Derived.Test.YtdchpkbpnfoknaaDoorQQPaths4
import Derived.Test.YtdchpkbpnfoknaaDoorQQPaths5
import Derived.Test.YtdchpkbpnfoknaaDoorQQPaths6
import Derived.Test.YtdchpkbpnfoknaaDoorRows
import Derived.WalkKit
import Derived.ProofKit
import Derived.OpenShut
import Derived.Deep.DeepHandedRow
import Derived.Lib.LaidTab
import Derived.LaidMore
import Derived.ChangeSame
import Derived.StringKeys
import Derived.WideKeyElems2
import Derived.Laws.IdiomMaps
namespace Go.Proofs.YtdchpkbpnfoknaaDoor
open Sh
set_option linter.unusedVariables false
set_option maxRecDepth 100000


def C37 (l1 : Slc) (w : World) (R : Value → World → Prop) : Prop :=
  Calls Tryd.prog 37 #[Slc.v l1] w fun e w' => ∃ r0 : Value, e = .returned r0 ∧ R r0 w'
theorem C37.mono {l1 : Slc} {w : World} {R R' : Value → World → Prop} (h : C37 l1 w R) (hr : ∀ r0 w', R r0 w' → R' r0 w') : C37 l1 w R' :=
  Calls.mono h fun _ _ ⟨r0, he, hR⟩ => ⟨r0, he, hr _ _ hR⟩

def S52_YL1 (l2 : Nat) (s5 : Int) (I7 : Int → World → Prop) (s45 : Slc) (R : World → Prop) (I49 : Int → World → Prop) (s47 : Int) (vw48 : World) : Prop :=
  Br (decide (s47 < ((s45.len : Nat) : Int))) (0 ≤ s47 ∧ s47 < (s45.len : Nat) ∧ Nn s45.p fun a50 =>
    Ld vw48 (a50.add ((s47).toNat * 2)) (Value.int .i64) fun (x51 : Int) =>
    Ld vw48 ((a50.add ((s47).toNat * 2)).add 1) (Value.int .i64) fun (x52 : Int) =>
    Nw vw48 (.cells #[.int .i64 0, .int .i64 0] 36) fun vw53 =>
    St vw53 (⟨vw48.heap.size, 0, none⟩ : Addr) (.int .i64 x51) fun vw54 =>
    St vw54 ((⟨vw48.heap.size, 0, none⟩ : Addr).add 1) (.int .i64 x52) fun vw55 =>
    Ld vw55 (⟨vw48.heap.size, 0, none⟩ : Addr) (Value.int .i64) fun (x56 : Int) =>
    Ld vw55 ((⟨vw48.heap.size, 0, none⟩ : Addr).add 1) (Value.int .i64) fun (x57 : Int) =>
    Yl Tryd.prog l2 #[.agg #[.int .i64 x56, .int .i64 x57]] vw55 fun (b58 : Bool) vw59 =>
      Br (!b58) (R vw59) (I49 (IntKind.i64.wrap (s47 + 1)) vw59)) (I7 (IntKind.i64.wrap (s5 + 1)) vw48)
def S52_YJ1 (l2 : Nat) (s5 : Int) (I7 : Int → World → Prop) (R : World → Prop) (s45 : Slc) (vw46 : World) : Prop :=
  Lp (σ := Int) (S52_YL1 l2 s5 I7 s45 R) 0 vw46
def S52_YL2 (l2 : Nat) (x4 : Slc) (R : World → Prop) (I7 : Int → World → Prop) (s5 : Int) (vw6 : World) : Prop :=
  Br (decide (s5 < ((x4.len : Nat) : Int))) (0 ≤ s5 ∧ s5 < (x4.len : Nat) ∧ Nn x4.p fun a8 =>
    Ld vw6 (a8.add ((s5).toNat * 7)) (Value.int .i64) fun (x9 : Int) =>
    Ld vw6 ((a8.add ((s5).toNat * 7)).add 1) (Value.int .i64) fun (x10 : Int) =>
    Ld vw6 ((a8.add ((s5).toNat * 7)).add 2) (Value.int .i64) fun (x11 : Int) =>
    Ld vw6 ((a8.add ((s5).toNat * 7)).add 3) (Value.int .i64) fun (x12 : Int) =>
    Ld vw6 ((a8.add ((s5).toNat * 7)).add 4) (Value.int .i64) fun (x13 : Int) =>
    Ld vw6 ((a8.add ((s5).toNat * 7)).add 5) (Value.int .i64) fun (x14 : Int) =>
    Ld vw6 ((a8.add ((s5).toNat * 7)).add 6) (Value.int .i64) fun (x15 : Int) =>
    Nw vw6 (.cells #[.int .i64 0, .int .i64 0, .int .i64 0, .int .i64 0, .int .i64 0, .int .i64 0, .int .i64 0] 38) fun vw16 =>
    St vw16 (⟨vw6.heap.size, 0, none⟩ : Addr) (.int .i64 x9) fun vw17 =>
    St vw17 ((⟨vw6.heap.size, 0, none⟩ : Addr).add 1) (.int .i64 x10) fun vw18 =>
    St vw18 ((⟨vw6.heap.size, 0, none⟩ : Addr).add 2) (.int .i64 x11) fun vw19 =>
    St vw19 ((⟨vw6.heap.size, 0, none⟩ : Addr).add 3) (.int .i64 x12) fun vw20 =>
    St vw20 ((⟨vw6.heap.size, 0, none⟩ : Addr).add 4) (.int .i64 x13) fun vw21 =>
    St vw21 ((⟨vw6.heap.size, 0, none⟩ : Addr).add 5) (.int .i64 x14) fun vw22 =>
    St vw22 ((⟨vw6.heap.size, 0, none⟩ : Addr).add 6) (.int .i64 x15) fun vw23 =>
    Join (S52_YJ1 l2 s5 I7 R) fun (vJ60 : Slc → World → Prop) =>
      Ld vw23 (⟨vw6.heap.size, 0, none⟩ : Addr) (Value.int .i64) fun (x61 : Int) =>
      Br (x61 == 1) (Br (x61 == 1) (Ld vw23 ((⟨vw6.heap.size, 0, none⟩ : Addr).add 5) (Value.int .i64) fun (x62 : Int) =>
          Ld vw23 (((⟨vw6.heap.size, 0, none⟩ : Addr).add 5).add 1) (Value.int .i64) fun (x63 : Int) =>
          Nw vw23 (.cells #[.int .i64 x62, .int .i64 x63] 36) fun vw64 =>
          vJ60 (⟨some ⟨vw23.heap.size, 0, none⟩, 1, 1⟩ : Slc) vw64) (Br (x61 == 3) (Ld vw23 ((⟨vw6.heap.size, 0, none⟩ : Addr).add 1) (Value.int .i64) fun (x65 : Int) =>
            Ld vw23 (((⟨vw6.heap.size, 0, none⟩ : Addr).add 1).add 1) (Value.int .i64) fun (x66 : Int) =>
            Ld vw23 ((⟨vw6.heap.size, 0, none⟩ : Addr).add 3) (Value.int .i64) fun (x67 : Int) =>
            Ld vw23 (((⟨vw6.heap.size, 0, none⟩ : Addr).add 3).add 1) (Value.int .i64) fun (x68 : Int) =>
            Ld vw23 ((⟨vw6.heap.size, 0, none⟩ : Addr).add 5) (Value.int .i64) fun (x69 : Int) =>
            Ld vw23 (((⟨vw6.heap.size, 0, none⟩ : Addr).add 5).add 1) (Value.int .i64) fun (x70 : Int) =>
            Nw vw23 (.cells #[.int .i64 x65, .int .i64 x66, .int .i64 x67, .int .i64 x68, .int .i64 x69, .int .i64 x70] 36) fun vw71 =>
            vJ60 (⟨some ⟨vw23.heap.size, 0, none⟩, 3, 3⟩ : Slc) vw71) (vJ60 (⟨none, 0, 0⟩ : Slc) vw23))) (Br (x61 == 2) (Ld vw23 ((⟨vw6.heap.size, 0, none⟩ : Addr).add 5) (Value.int .i64) fun (x72 : Int) =>
          Ld vw23 (((⟨vw6.heap.size, 0, none⟩ : Addr).add 5).add 1) (Value.int .i64) fun (x73 : Int) =>
          Nw vw23 (.cells #[.int .i64 x72, .int .i64 x73] 36) fun vw74 =>
          vJ60 (⟨some ⟨vw23.heap.size, 0, none⟩, 1, 1⟩ : Slc) vw74) (Br (x61 == 3) (Ld vw23 ((⟨vw6.heap.size, 0, none⟩ : Addr).add 1) (Value.int .i64) fun (x75 : Int) =>
            Ld vw23 (((⟨vw6.heap.size, 0, none⟩ : Addr).add 1).add 1) (Value.int .i64) fun (x76 : Int) =>
            Ld vw23 ((⟨vw6.heap.size, 0, none⟩ : Addr).add 3) (Value.int .i64) fun (x77 : Int) =>
            Ld vw23 (((⟨vw6.heap.size, 0, none⟩ : Addr).add 3).add 1) (Value.int .i64) fun (x78 : Int) =>
            Ld vw23 ((⟨vw6.heap.size, 0, none⟩ : Addr).add 5) (Value.int .i64) fun (x79 : Int) =>
            Ld vw23 (((⟨vw6.heap.size, 0, none⟩ : Addr).add 5).add 1) (Value.int .i64) fun (x80 : Int) =>
            Nw vw23 (.cells #[.int .i64 x75, .int .i64 x76, .int .i64 x77, .int .i64 x78, .int .i64 x79, .int .i64 x80] 36) fun vw81 =>
            vJ60 (⟨some ⟨vw23.heap.size, 0, none⟩, 3, 3⟩ : Slc) vw81) (vJ60 (⟨none, 0, 0⟩ : Slc) vw23)))) (R vw6)
/-- foliant/path.points$1 -/
def S52_Y (l2 : Nat) (c3 : Addr) (w : World) (R : World → Prop) : Prop :=
  Ld w c3 Slc.v fun (x4 : Slc) =>
  Lp (σ := Int) (S52_YL2 l2 x4 R) 0 w
def pl52_Y : Plan := (.seq (.reg .seq) (.block (.loop [(10, (.one (.int .i64)))] [0, 8, 9] (.seq (.reg .seq) (.seq (.cond .leaf .leaf) (.seq (.block (.seq (.reg .seq) (.seq (.reg .seq) (.join [(5, (.one .slc))] [0, 8, 9, 10] (.seq (.reg .seq) (.block (.seq (.seq (.reg .seq) (.cond .leaf (.reg .seq))) (.cond (.reg .seq) (.seq (.reg .seq) (.cond (.reg .seq) .leaf)))))) (.seq (.reg .seq) (.block (.loop [(33, (.one (.int .i64)))] [0, 8, 9, 10, 31, 32] (.seq (.reg .seq) (.seq (.cond .leaf .leaf) (.seq (.block (.seq (.reg .seq) (.seq (.reg .seq) (.cond .leaf .leaf)))) (.reg .seq))))))))))) (.reg .seq)))))))
set_option maxRecDepth 100000 in
theorem T52_Y (l2 : Nat) (c3 : Addr) (w : World) (R : World → Prop) (h : S52_Y l2 c3 w R) : CallsIn Fence.wide 0 Tryd.prog 52 #[.func (.yield l2) #[] #[], .pointer (some c3)] w fun e w' => e = .returned (.tuple #[]) ∧ R w' := by
  have e : fnY Tryd.prog ⟨FF, MAY, (fun _ _ => False)⟩ pl52_Y Tryd.f52 [.func (.yield l2) #[] #[], .pointer (some c3)] w [] (fun _ w => R w) = S52_Y l2 c3 w R := by kernel_rfl
  exact (fnY_calls okF Tryd.func52 (by kernel_rfl) (by kernel_rfl) (e.mpr h)).mono fun _ _ ⟨_, he, hR⟩ => ⟨he, hR⟩

/-- foliant/path.points -/
def S37 (l1 : Slc) (w : World) (R : Value → World → Prop) : Prop :=
  Nw w (.cells #[Slc.v l1] 33) fun vw2 =>
  R (.func (.func 52) #[] #[.pointer (some (⟨w.heap.size, 0, none⟩ : Addr))]) vw2
def pl37 : Plan := (.seq (.reg .seq) (.seq (.reg .seq) .leaf))
set_option maxRecDepth 100000 in
theorem T37 (l1 : Slc) (w : World) (R : Value → World → Prop) (h : S37 l1 w R) : C37 l1 w R := by
  have e : fnT Tryd.prog ⟨FF, MAY, (fun _ _ => False)⟩ pl37 Tryd.f37 [Slc.v l1] w [(.one .raw)] (fun s w => R s w) = S37 l1 w R := by kernel_rfl
  exact (fn_calls okF okM Tryd.func37 (by kernel_rfl) (by kernel_rfl) (e.mpr h)).mono fun _ _ ⟨s, he, hR⟩ => ⟨s, he, hR⟩

end Go.Proofs.YtdchpkbpnfoknaaDoor

/- Box's points: the iterator gives the points of the segments, in order. Conditions: what a round keeps. -/
namespace Go.Proofs.YtdchpkbpnfoknaaDoor
namespace Pat
open Sh Mat Fix Opr
set_option linter.unusedVariables false
set_option linter.unusedSimpArgs false
set_option maxRecDepth 100000
set_option maxHeartbeats 4000000
/-- A row of points. -/
def PW (W : World) (s : Slc) (n1 : Nat) (ps : List (Int × Int)) : Prop := s.len = ps.length ∧ ∀ (k : Nat) (x : Int × Int), ps[k]? = some x →
  ∃ b, s.p = some ⟨b, 0, none⟩ ∧ n1 ≤ b ∧ b < W.heap.size ∧ W.cell? ((⟨b, 0, none⟩ : Addr).add (k * 2)) = some (.int .i64 x.1) ∧ W.cell? (((⟨b, 0, none⟩ : Addr).add (k * 2)).add 1) = some (.int .i64 x.2)
theorem PW.keep {W W' : World} {s : Slc} {n1 : Nat} {ps : List (Int × Int)} {B : Nat → Prop} (h : PW W s n1 ps) (he : Ext B W W') (hB : ∀ j, B j → j < n1) : PW W' s n1 ps := ⟨h.1, fun k x hk => by
  obtain ⟨b, h1, h2, h3, h4, h5⟩ := h.2 k x hk
  have hn : ¬ B b := fun h => by have := hB b h; omega
  exact ⟨b, h1, h2, Nat.lt_of_lt_of_le h3 he.size, (he.cell (p := (⟨b, 0, none⟩ : Addr).add (k * 2)) (by rw [add_block]; exact h3) (by rw [add_block]; exact hn)).trans h4, (he.cell (p := ((⟨b, 0, none⟩ : Addr).add (k * 2)).add 1) (by rw [add_block, add_block]; exact h3) (by rw [add_block, add_block]; exact hn)).trans h5⟩⟩
section
variable {l n1 : Nat} {J : List (Int × Int) → World → Prop} {B : Nat → Prop} {W : World} {s : Slc} {L : List Sg}
attribute [local irreducible] Ld Sh.St Nw Nn LdS LdT LdST StT
theorem it_in {pre ps : List (Int × Int)} {s5 : Int} {R : World → Prop} {I7 : Int → World → Prop} (hB : ∀ j, B j → j < n1)
    (hJ : ∀ (pre : List (Int × Int)) (W W' : World), J pre W → Ext (fun _ => False) W W' → J pre W')
    (hY : ∀ (pre : List (Int × Int)) (x : Int × Int) (W : World) (K : Bool → World → Prop), J pre W → (∀ W', J (pre ++ [x]) W' → Ext B W W' → K true W') → Yl Tryd.prog l #[.agg #[.int .i64 x.1, .int .i64 x.2]] W K)
    (hw : PW W s n1 ps) (hl : ps.length ≤ 3) (hj : J pre W) (hI : ∀ W', J (pre ++ ps) W' → Ext B W W' → I7 (IntKind.i64.wrap (s5 + 1)) W') :
    S52_YJ1 l s5 I7 R s W := by
  refine ⟨fun n st w3 => ∃ k : Nat, st = (k : Int) ∧ k ≤ ps.length ∧ n = ps.length - k ∧ J (pre ++ ps.take k) w3 ∧ Ext B W w3, ps.length, ⟨0, rfl, by omega, rfl, by simpa using hj, Ext.refl _ _⟩, ?_⟩
  rintro n st w3 ⟨k, rfl, hk, rfl, hj3, e3⟩
  unfold S52_YL1
  rw [hw.1]
  refine Br.dec (fun q => ?_) fun q => ?_
  · have hL : ps[k]? = some ps[k] := List.getElem?_eq_getElem (by omega)
    have tL : ps.take (k + 1) = ps.take k ++ [ps[k]] := by rw [List.take_add_one, hL]; rfl
    generalize ps[k] = x at hL tL
    obtain ⟨b, hp, _, _, c0, c1⟩ := (hw.keep e3 hB).2 k x hL
    rw [hp, Int.toNat_natCast]
    refine ⟨by omega, by omega, Nn.of (Ld.mk c0 (Ld.mk c1 ?_))⟩
    refine (Hn.start w3).nw fun w4 H => ?_
    refine H.st 0 rfl (by simp) fun w5 H => ?_
    refine H.st 0 rfl (by simp) fun w6 H => ?_
    refine H.ld 0 rfl rfl (H.ld 0 rfl rfl ?_)
    have e6 := H.h.ext
    refine hY _ x w6 _ (hJ _ _ _ hj3 e6) fun w7 hj7 e7 => Br.f rfl ?_
    refine ⟨ps.length - (k + 1), by omega, k + 1, by rw [i64_id (by omega)]; rfl, by omega, rfl, ?_, (e3.trans e6 (fun _ h => h) fun _ _ h => h.elim).tr e7⟩
    rw [tL, ← List.append_assoc]
    exact hj7
  · refine hI _ ?_ e3
    rwa [List.take_of_length_le (by omega)] at hj3
theorem pw1 {w4 : World} {b : Nat} {L4 : List (Nat × List Value × TypeId)} {w3 : World} {i : Nat} {x y : Int} {t : TypeId} (H : Hn w3 w4 L4) (hi : L4[i]? = some (b, [.int .i64 x, .int .i64 y], t)) (hn : n1 ≤ w3.heap.size) : PW w4 ⟨some ⟨b, 0, none⟩, 1, 1⟩ n1 [(x, y)] := by
  refine ⟨rfl, fun k q hk => ?_⟩
  have hb := H.get i hi
  have hg := H.ge i hi
  obtain rfl : k = 0 := by
    have := (List.getElem?_eq_some_iff.1 hk).1
    simp at this
    exact this
  cases hk
  exact ⟨b, rfl, by omega, hb.lt, hb.cell 0, hb.cell 1⟩
theorem pw3 {w4 : World} {b : Nat} {L4 : List (Nat × List Value × TypeId)} {w3 : World} {i : Nat} {x y x2 y2 x3 y3 : Int} {t : TypeId} (H : Hn w3 w4 L4) (hi : L4[i]? = some (b, [.int .i64 x, .int .i64 y, .int .i64 x2, .int .i64 y2, .int .i64 x3, .int .i64 y3], t)) (hn : n1 ≤ w3.heap.size) : PW w4 ⟨some ⟨b, 0, none⟩, 3, 3⟩ n1 [(x, y), (x2, y2), (x3, y3)] := by
  refine ⟨rfl, fun k q hk => ?_⟩
  have hb := H.get i hi
  have hg := H.ge i hi
  match k, hk with
  | 0, hk => cases hk; exact ⟨b, rfl, by omega, hb.lt, hb.cell 0, hb.cell 1⟩
  | 1, hk => cases hk; exact ⟨b, rfl, by omega, hb.lt, hb.cell 2, hb.cell 3⟩
  | 2, hk => cases hk; exact ⟨b, rfl, by omega, hb.lt, hb.cell 4, hb.cell 5⟩
  | k + 3, hk => simp at hk
theorem it_pts {w0 w : World} {c3 : Addr} (hS : SV w0 s L) (he0 : Ext (fun _ => False) w0 w) (hl : L.length ≤ 100000) (hc : w.cell? c3 = some (Slc.v s)) (hlo : ∀ j, B j → w0.heap.size ≤ j) (hB : ∀ j, B j → j < w.heap.size)
    (hJ : ∀ (pre : List (Int × Int)) (W W' : World), J pre W → Ext (fun _ => False) W W' → J pre W')
    (hY : ∀ (pre : List (Int × Int)) (x : Int × Int) (W : World) (K : Bool → World → Prop), J pre W → (∀ W', J (pre ++ [x]) W' → Ext B W W' → K true W') → Yl Tryd.prog l #[.agg #[.int .i64 x.1, .int .i64 x.2]] W K)
    (hj : J [] w) : S52_Y l c3 w fun W' => J (ptsL L) W' := by
  refine Ld.mk hc ?_
  refine ⟨fun n st w3 => ∃ i : Nat, st = (i : Int) ∧ i ≤ L.length ∧ n = L.length - i ∧ J (ptsL (L.take i)) w3 ∧ Ext B w w3, L.length, ⟨0, rfl, by omega, rfl, by simpa [ptsL] using hj, Ext.refl _ _⟩, ?_⟩
  rintro n st w3 ⟨i, rfl, hi, rfl, hj3, e3⟩
  unfold S52_YL2
  rw [hS.1]
  refine Br.dec (fun q => ?_) fun q => ?_
  · have hL : L[i]? = some L[i] := List.getElem?_eq_getElem (by omega)
    have tL : L.take (i + 1) = L.take i ++ [L[i]] := by rw [List.take_add_one, hL]; rfl
    generalize L[i] = o at hL tL
    have hpt : ptsL (L.take (i + 1)) = ptsL (L.take i) ++ ptsS o := by rw [tL]; simp [ptsL]
    obtain ⟨a, hp, c0⟩ := hS.get hL
    have c : ∀ j v, (sgrow o)[j]? = some v → w3.cell? ((a.add (i * 7)).add j) = some v := fun j v hv => by
      have h1 := c0 j v hv
      have h2 := cell_lt' h1
      have h3 := (he0.cell (p := (a.add (i * 7)).add j) h2 (fun h => h)).trans h1
      exact (e3.cell (p := (a.add (i * 7)).add j) (cell_lt' h3) (fun h => by have := hlo _ h; omega)).trans h3
    obtain ⟨kd, x1, y1, x2, y2, x3, y3⟩ := o
    have c10 := c 0 _ rfl
    rw [add_add', Nat.add_zero] at c10
    rw [hp, Int.toNat_natCast]
    refine ⟨by omega, by omega, Nn.of (Ld.mk c10 (Ld.mk (c 1 _ rfl) (Ld.mk (c 2 _ rfl) (Ld.mk (c 3 _ rfl) (Ld.mk (c 4 _ rfl) (Ld.mk (c 5 _ rfl) (Ld.mk (c 6 _ rfl) ?_)))))))⟩
    refine (Hn.start w3).nw fun w4 H => ?_
    iterate 7 (refine H.st 0 rfl (by simp) fun _ H => ?_; simp only [List.set_cons_zero, List.set_cons_succ] at H)
    have hn3 : w.heap.size ≤ w3.heap.size := e3.size
    refine ⟨fun s4 w4 => PW w4 s4 w.heap.size (ptsS (kd, x1, y1, x2, y2, x3, y3)) ∧ J (ptsL (L.take i)) w4 ∧ Ext B w w4, ?_, ?_⟩
    · rintro s4 w4 ⟨hw, hj4, e4⟩
      refine it_in hB hJ hY hw (by unfold ptsS; split; · simp
                                   · split <;> simp) hj4 fun W' hj5 e5 => ⟨L.length - (i + 1), by omega, i + 1, by rw [i64_id (by omega)]; rfl, by omega, rfl, by rw [hpt]; exact hj5, e4.tr e5⟩
    · have fin : ∀ {s5 : Slc} {w5 : World} {ps : List (Int × Int)}, PW w5 s5 w.heap.size ps → Ext (fun _ => False) w3 w5 → ptsS (kd, x1, y1, x2, y2, x3, y3) = ps → PW w5 s5 w.heap.size (ptsS (kd, x1, y1, x2, y2, x3, y3)) ∧ J (ptsL (L.take i)) w5 ∧ Ext B w w5 := fun h1 h2 h3 =>
        ⟨by rw [h3]; exact h1, hJ _ _ _ hj3 h2, e3.trans h2 (fun _ h => h) fun _ _ h => h.elim⟩
      refine H.ld 0 rfl rfl ?_
      refine Br.eq (fun q1 => Br.t (by simp [q1]) ?_) fun q1 => Br.eq (fun q2 => ?_) fun q2 => Br.eq (fun q3 => ?_) fun q3 => ?_
      · refine H.ld 0 rfl rfl (H.ld 0 rfl rfl (H.nw fun w5 H => ?_))
        exact fin (pw1 H (i := 1) rfl hn3) H.h.ext (by unfold ptsS; rw [if_pos (.inl q1)])
      · refine H.ld 0 rfl rfl (H.ld 0 rfl rfl (H.nw fun w5 H => ?_))
        exact fin (pw1 H (i := 1) rfl hn3) H.h.ext (by unfold ptsS; rw [if_pos (.inr q2)])
      · refine H.ld 0 rfl rfl (H.ld 0 rfl rfl (H.ld 0 rfl rfl (H.ld 0 rfl rfl (H.ld 0 rfl rfl (H.ld 0 rfl rfl (H.nw fun w5 H => ?_))))))
        exact fin (pw3 H (i := 1) rfl hn3) H.h.ext (by unfold ptsS; rw [if_neg (fun h => h.elim q1 q2), if_pos q3])
      · exact fin (ps := []) ⟨rfl, fun k x hk => by simp at hk⟩ H.h.ext (by unfold ptsS; rw [if_neg (fun h => h.elim q1 q2), if_neg q3])
  · rwa [List.take_of_length_le (by omega)] at hj3
end
end Pat
end Go.Proofs.YtdchpkbpnfoknaaDoor

/- A range over a function: the statement, a round, the way out of the function. Conditions: the iterator has a body. -/
namespace Go.Proofs.YtdchpkbpnfoknaaDoor
namespace Sh
open Go.RowKit
set_option linter.unusedVariables false
section
variable {P : Program} {F : Fx} {N : Nat} {G : Fence}
/-- The record of a loop, ready for a round. -/
def rfRec (fn : FuncId) (tmps : Array Value) (ps : Array Tmp) (asg body : Code) (D : Nat) : Loop := { state := .ready, pending := none, fn, tmps, params := ps, assign := asg, body, defers := D }
/-- The world in which the iterator starts. -/
def rfW (w : World) (fn : FuncId) (tmps : Array Value) (ps : Array Tmp) (asg body : Code) : World := (w.alloc (.deferred (some []))).alloc (.loop (rfRec fn tmps ps asg body w.heap.size))
def rfTmps (ps : Array Tmp) (args tmps : Array Value) : Array Value := (ps.zip args).foldl (fun tmps (t, a) => tmps.setIfInBounds t a) tmps
theorem rf_in {ok : Nat → Bool} (hF : CallsOk P ok) {g : Operand} {ps : Array Tmp} {asg body : Code} {Q : Exit → Act → World → Prop} {a : Act} {w : World} {gf : Nat} {caps : Array Value} (hg : a.eval g = .func (.func gf) #[] caps) (hent : enterB P ok gf = true)
    (h : ∀ fn : FuncId, CallsIn Fence.wide 0 P gf (#[.func (.yield (w.heap.size + 1)) #[] #[]] ++ caps) (rfW w fn a.tmps ps asg body) fun e W2 =>
      (∃ v, e = .returned v) ∧ W2.heap[w.heap.size + 1]? = some (.loop (rfRec fn a.tmps ps asg body w.heap.size)) ∧
      Q .normal { a with defers := { target := .collected w.heap.size, args := #[] } :: a.defers } (W2.putObj (w.heap.size + 1) (.loop { rfRec fn a.tmps ps asg body w.heap.size with state := .exhausted }))) :
    (Code.rangeFunc g ps asg body).wpIn Fence.wide 0 P Q a w := by
  refine wpIn_rangeFunc fun fn _ => ?_
  refine ⟨w.heap.size + 1, [{ target := .collected w.heap.size, args := #[] }], rfW w fn a.tmps ps asg body, { target := .fn (.func gf) caps, args := #[.func (.yield (w.heap.size + 1)) #[] #[]] }, rfW w fn a.tmps ps asg body, gf,
    #[.func (.yield (w.heap.size + 1)) #[] #[]] ++ caps, rfW w fn a.tmps ps asg body, ?_, ?_, ?_, ?_, fun h => by simp [Fence.wide] at h, ?_⟩
  · exact run_enterLoop_outer _ _ _ _ _
  · simp only [resolve, hg]
    simp [go_sem]
  · intro f' _
    trivial
  · simp [invoke, go_sem, callFunc_enter hF hent]
  · refine (h fn).mono ?_
    rintro e W2 ⟨⟨v, rfl⟩, hl, hQ⟩
    exact ⟨none, _, run_endLoop hl (by simp [rfRec]), hQ⟩
/-- Code that ends by going on. -/
def nrm (R : Env → World → Prop) : Exit → Env → World → Prop
  | .normal, E, w => R E w
  | _, _, _ => False
/-- The way out of a function. -/
def finX (P : Program) (fn : Func) (tys : List Ty) (R : Sg tys → World → Prop) : Exit → Env → World → Prop := fun e E w => match e with
  | .normal => resT P fn.results.toList E w fun vs => match Sg.get? tys vs with
    | some s => R s w
    | none => False
  | .ret => resT P fn.results.toList E w fun vs => match Sg.get? tys vs with
    | some s => R s w
    | none => False
  | _ => False
theorem nrm_elim {R : Env → World → Prop} {e : Exit} {E : Env} {w : World} (h : nrm R e E w) : e = .normal ∧ R E w := by
  cases e <;> first | exact ⟨rfl, h⟩ | exact h.elim
theorem yl_body (hF : CallsOk P F.ok) (hpk : ∀ v w, ¬ F.pk v w) {W : World} {l : Nat} {fn : FuncId} {tmps : Array Value} {ps : Array Tmp} {asg body : Code} {D : Nat} {args : Array Value} {K : Bool → World → Prop}
    (hl : W.heap[l]? = some (.loop (rfRec fn tmps ps asg body D))) (hs : args.size = ps.size) {E : Env} (hf : Fits N E { tmps := rfTmps ps args tmps, defers := [] })
    {pa pb : Plan} (hsa : slotsOk N asg = true) (hsb : slotsOk N body = true)
    (h : codeY P F pa asg E W <| nrm fun E1 W1 => W1.heap[l]? = some (.loop (rfRec fn tmps ps asg body D)) ∧
      codeY P F pb body E1 (W1.putObj l (.loop { rfRec fn tmps ps asg body D with state := .busy })) (nrm fun E2 W2 => W2.heap[l]? = some (.loop { rfRec fn tmps ps asg body D with state := .busy }) ∧
        K true (W2.putObj l (.loop (rfRec fn tmps ps asg body D))))) : Yl P l args W K := by
  have hy := run_yield (P := P) (args := args) hl (by simpa [rfRec] using hs)
  refine ⟨fn, rfTmps ps args tmps, asg, body, hy, roundIn_of_wpIn trivial ?_⟩
  refine wpIn_mono (codeY_in (InF.inRound l) hF asg pa E W _ _ h hf hsa) fun e a1 W1 hq => ?_
  rcases hq with ⟨E1, hq, hf1, hs1⟩ | ⟨v, _, hp, _⟩
  · obtain ⟨rfl, hl1, h1⟩ := nrm_elim hq
    refine ⟨_, run_beginRound hl1 rfl, ?_⟩
    refine wpIn_mono (codeY_in (InF.inRound l) hF body pb E1 _ _ _ h1 hf1 hsb) fun e a2 W2 hq => ?_
    rcases hq with ⟨E2, hq, _, _⟩ | ⟨v, _, hp, _⟩
    · obtain ⟨rfl, hl2, h2⟩ := nrm_elim hq
      exact ⟨_, _, run_endRound none hl2, true, rfl, h2⟩
    · exact (hpk _ _ hp).elim
  · exact (hpk _ _ hp).elim
theorem seqY (hG : InF G) (hF : CallsOk P F.ok) (hpk : ∀ v w, ¬ F.pk v w) {c d : Code} {pl : Plan} {E : Env} {w : World} {K : Env → World → Prop} {a : Act} {Q : Exit → Act → World → Prop} (h : codeY P F pl c E w (nrm K)) (hf : Fits N E a) (hs : slotsOk N c = true)
    (hn : ∀ E' a' w', K E' w' → Fits N E' a' → a'.defers = a.defers → d.wpIn G 0 P Q a' w') : (Code.seq c d).wpIn G 0 P Q a w := by
  refine wpIn_seq (wpIn_mono (codeY_in hG hF c pl E w _ a h hf hs) fun e a' w' hq => ?_)
  rcases hq with ⟨E', h1, h2, h3⟩ | ⟨v, _, hp, _⟩
  · obtain ⟨rfl, h4⟩ := nrm_elim h1
    exact hn E' a' w' h4 h2 h3.2
  · exact (hpk _ _ hp).elim
end
end Sh
end Go.Proofs.YtdchpkbpnfoknaaDoor

/- The formulas of the parts of path.Box, written by program (boxfn.py); the kernel checks each. No condition. -/
namespace Go.Proofs.YtdchpkbpnfoknaaDoor
open Sh
set_option linter.unusedVariables false
set_option maxRecDepth 100000
noncomputable def sq1 : Code → Code | .seq a _ => a | c => c
def sq2 : Code → Code | .seq _ b => b | c => c
def bk : Code → Code | .block _ b => b | c => c
def rfa : Code → Code | .rangeFunc _ _ a _ => a | c => c
def rfb : Code → Code | .rangeFunc _ _ _ b => b | c => c
noncomputable def cBoxA : Code := (sq1 (Tryd.f14.body.getD .skip))
def pBoxA : Plan := (.reg .seq)
def SBoxA (l1 : Slc) (w : World) (R : Env → World → Prop) : Prop :=
  Nw w (.cells #[.int .i64 0, .int .i64 0, .int .i64 0, .int .i64 0] 46) fun vw1 =>
  R [(3, .bool false), (2, .pointer (some (⟨w.heap.size, 0, none⟩ : Addr))), (0, Slc.v l1)] vw1
set_option maxRecDepth 100000 in
theorem EBoxA (l1 : Slc) (w : World) (R : Env → World → Prop) : codeY Tryd.prog ⟨FF, MAY, (fun _ _ => False)⟩ pBoxA cBoxA [(0, Slc.v l1)] w (nrm R) = SBoxA l1 w R := by kernel_rfl
noncomputable def cBoxB : Code := (sq1 (sq2 (Tryd.f14.body.getD .skip)))
def pBoxB : Plan := (.reg .seq)
def SBoxB (l1 : Slc) (a2 : Addr) (w : World) (R : Env → World → Prop) : Prop :=
  Nw w (.cells #[.int .i64 0, .int .i64 0, .int .i64 0, .int .i64 0] 46) fun vw2 =>
  R [(4, .pointer (some (⟨w.heap.size, 0, none⟩ : Addr))), (3, .bool false), (2, .pointer (some a2)), (0, Slc.v l1)] vw2
set_option maxRecDepth 100000 in
theorem EBoxB (l1 : Slc) (a2 : Addr) (w : World) (R : Env → World → Prop) : codeY Tryd.prog ⟨FF, MAY, (fun _ _ => False)⟩ pBoxB cBoxB [(3, .bool false), (2, .pointer (some a2)), (0, Slc.v l1)] w (nrm R) = SBoxB l1 a2 w R := by kernel_rfl
noncomputable def cBoxC : Code := (sq1 (sq2 (sq2 (Tryd.f14.body.getD .skip))))
def pBoxC : Plan := (.reg .seq)
def SBoxC (l1 : Slc) (a2 : Addr) (a4 : Addr) (w : World) (R : Env → World → Prop) : Prop :=
  Nw w (.cells #[.bool false] 4) fun vw3 =>
  St vw3 (⟨w.heap.size, 0, none⟩ : Addr) (.bool false) fun vw4 =>
  R [(5, .pointer (some (⟨w.heap.size, 0, none⟩ : Addr))), (4, .pointer (some a4)), (3, .bool false), (2, .pointer (some a2)), (0, Slc.v l1)] vw4
set_option maxRecDepth 100000 in
theorem EBoxC (l1 : Slc) (a2 : Addr) (a4 : Addr) (w : World) (R : Env → World → Prop) : codeY Tryd.prog ⟨FF, MAY, (fun _ _ => False)⟩ pBoxC cBoxC [(4, .pointer (some a4)), (3, .bool false), (2, .pointer (some a2)), (0, Slc.v l1)] w (nrm R) = SBoxC l1 a2 a4 w R := by kernel_rfl
noncomputable def cBoxD : Code := (sq1 (sq1 (sq2 (sq2 (sq2 (Tryd.f14.body.getD .skip))))))
def pBoxD : Plan := (.reg .seq)
def SBoxD (l1 : Slc) (a2 : Addr) (a4 : Addr) (a5 : Addr) (w : World) (R : Env → World → Prop) : Prop :=
  C37 l1 w fun r5 vw6 =>
    R [(8, r5), (7, Slc.v l1), (5, .pointer (some a5)), (4, .pointer (some a4)), (3, .bool false), (2, .pointer (some a2)), (0, Slc.v l1)] vw6
set_option maxRecDepth 100000 in
theorem EBoxD (l1 : Slc) (a2 : Addr) (a4 : Addr) (a5 : Addr) (w : World) (R : Env → World → Prop) : codeY Tryd.prog ⟨FF, MAY, (fun _ _ => False)⟩ pBoxD cBoxD [(5, .pointer (some a5)), (4, .pointer (some a4)), (3, .bool false), (2, .pointer (some a2)), (0, Slc.v l1)] w (nrm R) = SBoxD l1 a2 a4 a5 w R := by kernel_rfl
noncomputable def cBoxE : Code := (rfa (bk (sq2 (sq1 (sq2 (sq2 (sq2 (Tryd.f14.body.getD .skip))))))))
def pBoxE : Plan := (.reg .seq)
def SBoxE (a4 : Addr) (a5 : Addr) (x : Int) (y : Int) (w : World) (R : Env → World → Prop) : Prop :=
  Nw w (.cells #[.int .i64 0, .int .i64 0] 36) fun vw7 =>
  St vw7 (⟨w.heap.size, 0, none⟩ : Addr) (.int .i64 x) fun vw8 =>
  St vw8 ((⟨w.heap.size, 0, none⟩ : Addr).add 1) (.int .i64 y) fun vw9 =>
  R [(6, .pointer (some (⟨w.heap.size, 0, none⟩ : Addr))), (9, .agg #[.int .i64 x, .int .i64 y]), (5, .pointer (some a5)), (4, .pointer (some a4))] vw9
set_option maxRecDepth 100000 in
theorem EBoxE (a4 : Addr) (a5 : Addr) (x : Int) (y : Int) (w : World) (R : Env → World → Prop) : codeY Tryd.prog ⟨FF, MAY, (fun _ _ => False)⟩ pBoxE cBoxE [(9, .agg #[.int .i64 x, .int .i64 y]), (5, .pointer (some a5)), (4, .pointer (some a4))] w (nrm R) = SBoxE a4 a5 x y w R := by kernel_rfl
noncomputable def cBoxF : Code := (rfb (bk (sq2 (sq1 (sq2 (sq2 (sq2 (Tryd.f14.body.getD .skip))))))))
def pBoxF : Plan := (.block (.seq (.seq (.reg .seq) (.cond (.reg .seq) .leaf)) (.seq (.reg .seq) (.reg .seq))))
def SBoxF (a4 : Addr) (a5 : Addr) (a6 : Addr) (x : Int) (y : Int) (w : World) (R : World → Prop) : Prop :=
  Ld w a5 Value.bool fun (x19 : Bool) =>
  Br (!x19) (Ld w a6 (Value.int .i64) fun (x20 : Int) =>
    Ld w (a6.add 1) (Value.int .i64) fun (x21 : Int) =>
    Ld w a6 (Value.int .i64) fun (x22 : Int) =>
    Ld w (a6.add 1) (Value.int .i64) fun (x23 : Int) =>
    St w a4 (.int .i64 x20) fun vw24 =>
    St vw24 (a4.add 1) (.int .i64 x21) fun vw25 =>
    St vw25 (a4.add 2) (.int .i64 x22) fun vw26 =>
    St vw26 (a4.add 3) (.int .i64 x23) fun vw27 =>
    St vw27 a5 (.bool true) fun vw28 =>
    Ld vw28 a4 (Value.int .i64) fun (x29 : Int) =>
    Ld vw28 a6 (Value.int .i64) fun (x30 : Int) =>
    Ld vw28 (a4.add 1) (Value.int .i64) fun (x31 : Int) =>
    Ld vw28 (a6.add 1) (Value.int .i64) fun (x32 : Int) =>
    Ld vw28 (a4.add 2) (Value.int .i64) fun (x33 : Int) =>
    Ld vw28 a6 (Value.int .i64) fun (x34 : Int) =>
    Ld vw28 (a4.add 3) (Value.int .i64) fun (x35 : Int) =>
    Ld vw28 (a6.add 1) (Value.int .i64) fun (x36 : Int) =>
    St vw28 a4 (.int .i64 (if x30 < x29 then x30 else x29)) fun vw37 =>
    St vw37 (a4.add 1) (.int .i64 (if x32 < x31 then x32 else x31)) fun vw38 =>
    St vw38 (a4.add 2) (.int .i64 (if x34 > x33 then x34 else x33)) fun vw39 =>
    St vw39 (a4.add 3) (.int .i64 (if x36 > x35 then x36 else x35)) fun vw40 =>
    R vw40) (St w a5 (.bool true) fun vw41 =>
    Ld vw41 a4 (Value.int .i64) fun (x42 : Int) =>
    Ld vw41 a6 (Value.int .i64) fun (x43 : Int) =>
    Ld vw41 (a4.add 1) (Value.int .i64) fun (x44 : Int) =>
    Ld vw41 (a6.add 1) (Value.int .i64) fun (x45 : Int) =>
    Ld vw41 (a4.add 2) (Value.int .i64) fun (x46 : Int) =>
    Ld vw41 a6 (Value.int .i64) fun (x47 : Int) =>
    Ld vw41 (a4.add 3) (Value.int .i64) fun (x48 : Int) =>
    Ld vw41 (a6.add 1) (Value.int .i64) fun (x49 : Int) =>
    St vw41 a4 (.int .i64 (if x43 < x42 then x43 else x42)) fun vw50 =>
    St vw50 (a4.add 1) (.int .i64 (if x45 < x44 then x45 else x44)) fun vw51 =>
    St vw51 (a4.add 2) (.int .i64 (if x47 > x46 then x47 else x46)) fun vw52 =>
    St vw52 (a4.add 3) (.int .i64 (if x49 > x48 then x49 else x48)) fun vw53 =>
    R vw53)
set_option maxRecDepth 100000 in
theorem EBoxF (a4 : Addr) (a5 : Addr) (a6 : Addr) (x : Int) (y : Int) (w : World) (R : World → Prop) : codeY Tryd.prog ⟨FF, MAY, (fun _ _ => False)⟩ pBoxF cBoxF [(6, .pointer (some a6)), (9, .agg #[.int .i64 x, .int .i64 y]), (5, .pointer (some a5)), (4, .pointer (some a4))] w (nrm fun _ => R) = SBoxF a4 a5 a6 x y w R := by kernel_rfl
/-- The results' slots, at the end. -/
def rtK (R : Addr → Bool → World → Prop) : Exit → Env → World → Prop := fun e E w => match e with
  | .ret => (match E.get? 2, E.get? 3 with
    | some (.pointer (some a)), some (.bool b) => R a b w
    | _, _ => False)
  | _ => False
noncomputable def cBoxG : Code := (sq2 (sq2 (sq2 (sq2 (Tryd.f14.body.getD .skip)))))
def pBoxG : Plan := (.seq (.reg (.held [] (.take 0 (.take 1 (.eff 2 none (.take 3 .done)))))) .leaf)
def SBoxG (a2 : Addr) (a4 : Addr) (a5 : Addr) (w : World) (R : Addr → Bool → World → Prop) : Prop :=
  ∃ vS54 : World → Prop, vS54 w.drew ∧ LdS vS54 a4 (Value.int .i64) fun (x55 : Int) =>
  LdS vS54 (a4.add 1) (Value.int .i64) fun (x56 : Int) =>
  LdS vS54 (a4.add 2) (Value.int .i64) fun (x57 : Int) =>
  LdS vS54 (a4.add 3) (Value.int .i64) fun (x58 : Int) =>
  LdS vS54 a5 Value.bool fun (x59 : Bool) =>
  St w.drew a2 (.int .i64 x55) fun vw60 =>
  St vw60 (a2.add 1) (.int .i64 x56) fun vw61 =>
  St vw61 (a2.add 2) (.int .i64 x57) fun vw62 =>
  St vw62 (a2.add 3) (.int .i64 x58) fun vw63 =>
  vS54 vw63 ∧ R a2 x59 vw63
set_option maxRecDepth 100000 in
theorem EBoxG (a2 : Addr) (a4 : Addr) (a5 : Addr) (w : World) (R : Addr → Bool → World → Prop) : codeT Tryd.prog ⟨FF, MAY, (fun _ _ => False)⟩ pBoxG cBoxG [(5, .pointer (some a5)), (4, .pointer (some a4)), (2, .pointer (some a2))] w (rtK R) = SBoxG a2 a4 a5 w R := by kernel_rfl
def SBoxH (a2 : Addr) (b3 : Bool) (w : World) (R : (Int × Int × Int × Int) → Bool → World → Prop) : Prop :=
  Ld w a2 (Value.int .i64) fun (x64 : Int) =>
  Ld w (a2.add 1) (Value.int .i64) fun (x65 : Int) =>
  Ld w (a2.add 2) (Value.int .i64) fun (x66 : Int) =>
  Ld w (a2.add 3) (Value.int .i64) fun (x67 : Int) =>
  R (x64, x65, x66, x67) b3 w
theorem EBoxH (a2 : Addr) (b3 : Bool) (w : World) (R : (Int × Int × Int × Int) → Bool → World → Prop) : finT Tryd.prog Tryd.f14 [(.agg [(.int .i64), (.int .i64), (.int .i64), (.int .i64)]), (.one .bool)] (fun s w => R s.1 s.2 w) [(3, .bool b3), (2, .pointer (some a2))] w = SBoxH a2 b3 w R := by kernel_rfl
end Go.Proofs.YtdchpkbpnfoknaaDoor

/- Box: the bounding box. Conditions: at most 100000 segments. -/
namespace Go.Proofs.YtdchpkbpnfoknaaDoor
namespace Pat
open Sh Mat Fix Opr
open Go.RowKit
set_option linter.unusedVariables false
set_option linter.unusedSimpArgs false
set_option maxRecDepth 100000
set_option maxHeartbeats 4000000
theorem boxP_snoc (pre : List (Int × Int)) (x : Int × Int) : boxP (pre ++ [x]) = (addB (if (boxP pre).2 = true then (boxP pre).1 else (x.1, x.2, x.1, x.2)) x, true) := by
  cases pre with
  | nil => rfl
  | cons p r => simp [boxP, List.foldl_append]
def bxC (b : Bx) : Array Value := #[.int .i64 b.1, .int .i64 b.2.1, .int .i64 b.2.2.1, .int .i64 b.2.2.2]
theorem mn (a b : Int) : (if a < b then a else b) = min b a := by rw [Int.min_def]; split <;> split <;> omega
theorem mx (a b : Int) : (if a > b then a else b) = max b a := by rw [Int.max_def]; split <;> split <;> omega
section
variable {w0 w W W' : World} {s : Slc} {L : List Sg} {b2 b4 b5 b6 : Nat}
attribute [local irreducible] Ld Sh.St Nw Nn LdS LdT LdST StT
/-- One round. -/
theorem box_round {b : Bx} {f : Bool} {x y : Int} {t4 t5 t6 : TypeId} {R : World → Prop} (h4 : Blk W b4 (bxC b) t4) (h5 : Blk W b5 #[.bool f] t5) (h6 : Blk W b6 #[.int .i64 x, .int .i64 y] t6) (n45 : b4 ≠ b5) (n46 : b4 ≠ b6) (n56 : b5 ≠ b6)
    (hR : ∀ W', Blk W' b4 (bxC (addB (if f = true then b else (x, y, x, y)) (x, y))) t4 → Blk W' b5 #[.bool true] t5 → Ext (fun j => j = b4 ∨ j = b5) W W' → R W') : SBoxF ⟨b4, 0, none⟩ ⟨b5, 0, none⟩ ⟨b6, 0, none⟩ x y W R := by
  have H : Hx W (fun j => j = b4 ∨ j = b5) W [(b4, bxC b, t4), (b5, #[.bool f], t5), (b6, #[.int .i64 x, .int .i64 y], t6)] := ⟨fun p hp => by
      simp only [List.mem_cons, List.not_mem_nil, or_false] at hp
      rcases hp with rfl | rfl | rfl
      · exact h4
      · exact h5
      · exact h6, by simp [n45, n46, n56], Ext.refl _ _⟩
  unfold bxC at H
  unfold SBoxF
  refine H.ld 1 rfl rfl ?_
  cases f with
  | false =>
    refine Br.t rfl ?_
    refine H.ld 2 rfl rfl (H.ld 2 rfl rfl (H.ld 2 rfl rfl (H.ld 2 rfl rfl ?_)))
    iterate 4 (refine H.st 0 rfl (by simp) (.inl (.inl rfl)) fun _ H => ?_)
    refine H.st 1 rfl (by simp) (.inl (.inr rfl)) fun _ H => ?_
    refine H.ld 0 rfl rfl (H.ld 2 rfl rfl (H.ld 0 rfl rfl (H.ld 2 rfl rfl (H.ld 0 rfl rfl (H.ld 2 rfl rfl (H.ld 0 rfl rfl (H.ld 2 rfl rfl ?_)))))))
    iterate 4 (refine H.st 0 rfl (by simp) (.inl (.inl rfl)) fun _ H => ?_)
    have g4 := H.get 0 rfl
    have g5 := H.get 1 rfl
    refine hR _ ?_ g5 H.ext
    simp only [mn, mx] at g4
    exact g4
  | true =>
    refine Br.f rfl ?_
    refine H.st 1 rfl (by simp) (.inl (.inr rfl)) fun _ H => ?_
    refine H.ld 0 rfl rfl (H.ld 2 rfl rfl (H.ld 0 rfl rfl (H.ld 2 rfl rfl (H.ld 0 rfl rfl (H.ld 2 rfl rfl (H.ld 0 rfl rfl (H.ld 2 rfl rfl ?_)))))))
    iterate 4 (refine H.st 0 rfl (by simp) (.inl (.inl rfl)) fun _ H => ?_)
    have g4 := H.get 0 rfl
    have g5 := H.get 1 rfl
    refine hR _ ?_ g5 H.ext
    simp only [mn, mx] at g4
    exact g4
end
end Pat
end Go.Proofs.YtdchpkbpnfoknaaDoor

/- Paths: the laid tables. Condition: the rows' own list. -/
namespace Go.Proofs.YtdchpkbpnfoknaaDoor
namespace Pat
open Sh Mat Opr
open Go.ChangeShapes Go.WideShapes Go.ChangeAt Go.WideMaps Go.WideElems Go.RowKit
set_option linter.unusedVariables false
set_option linter.unusedSimpArgs false
set_option maxRecDepth 100000
theorem gAS : Tryd.prog.globalNamed "strings.asciiSpace" = some 1 := by kernel_rfl
theorem tAS : (Tryd.prog.globals[1]?).map (·.type) = some 140 := by kernel_rfl
theorem gPM : Tryd.prog.globalNamed "foliant/path.paints" = some 0 := by kernel_rfl
theorem tPM : (Tryd.prog.globals[0]?).map (·.type) = some 98 := by kernel_rfl
theorem undU8 : Tryd.prog.underlying 5 = some (.int .u8) := by kernel_rfl
theorem und256 : Tryd.prog.underlying 140 = some (.array 256 5) := by kernel_rfl
theorem cU8 : Tryd.prog.cellsOf 5 = 1 := by kernel_rfl
theorem c256 : Tryd.prog.cellsOf 140 = 256 := by kernel_rfl
def zsA : List Int := (List.range 256).map fun c => if spB (UInt8.ofNat c) = true then 1 else 0
theorem zsA_laid : (Rows.laid_strings_asciiSpace : DataW Unit) = Lib.tabData .u8 zsA := by kernel_rfl
theorem undPM : Tryd.prog.underlying 98 = some (.map 9 96) := by kernel_rfl
theorem undStr' : Tryd.prog.underlying 9 = some .string := by kernel_rfl
theorem cel156 : Tryd.prog.cellsOf 96 = 2 := by kernel_rfl
/-- What the table says of a name. -/
def pmD : DataW Unit := Rows.laid_foliant_path_paints
theorem pm_at : ∀ l ∈ ten, pmD.atKey (.string l) .nil = .agg [.lit (.int .i64 (howN l).1), .lit (.bool (howN l).2)] := by
  intro l hl
  simp only [ten, List.mem_cons, List.not_mem_nil, or_false] at hl
  rcases hl with rfl | rfl | rfl | rfl | rfl | rfl | rfl | rfl | rfl | rfl <;> rfl
theorem atKey_none {H : Type} {es : List (Lit × DataW H)} {k : Lit} {z : DataW H} (h : ∀ p ∈ es, p.1.sameKey k = false) : (DataW.map es).atKey k z = z := by
  have : es.find? (fun p => p.1.sameKey k) = none := List.find?_eq_none.2 fun p hp => by rw [h p hp]; exact Bool.false_ne_true
  simp only [DataW.atKey, this]
theorem same_no {a l : By} (h : ¬ l = a) : Lit.sameKey (.string a) (.string l) = false := by
  simp only [Lit.sameKey, beq_eq_false_iff_ne, ne_eq]
  exact fun e => h e.symm
theorem pm_no {l : By} (hl : l ∉ ten) (z : DataW Unit) : pmD.atKey (.string l) z = z := by
  simp only [ten, List.mem_cons, List.not_mem_nil, or_false, not_or] at hl
  obtain ⟨h1, h2, h3, h4, h5, h6, h7, h8, h9, h10⟩ := hl
  refine atKey_none fun p hp => ?_
  simp only [List.mem_cons, List.not_mem_nil, or_false] at hp
  rcases hp with rfl | rfl | rfl | rfl | rfl | rfl | rfl | rfl | rfl | rfl <;> exact same_no (by assumption)
theorem und156 : Tryd.prog.underlying 96 = some (.struct #[⟨"how", 3, 0, false, "", "foliant/path", 0⟩, ⟨"closes", 4, 1, false, "", "foliant/path", 8⟩]) := by kernel_rfl
theorem cB : Tryd.prog.cellsOf 4 = 1 := by kernel_rfl
theorem cI : Tryd.prog.cellsOf 3 = 1 := by kernel_rfl
theorem undI : Tryd.prog.underlying 3 = some (.int .i64) := by kernel_rfl
theorem undB : Tryd.prog.underlying 4 = some .bool := by kernel_rfl
section
variable {H : Type} {enc : TypeId × Value → H} {W : World} {base : Nat} {sp : Nat → Bool} {held : Bool}
theorem elem156 {n : Nat} {v : Value} {z : DataW H × List MemPlace} {q : Int} {b : Bool} (h : WideElems.elemAt enc Tryd.prog W base sp held n 96 v = some z) (hz : z.1 = .agg [.lit (.int .i64 q), .lit (.bool b)]) :
    v = .agg #[.int .i64 q, .bool b] := by
  unfold WideElems.elemAt at h
  by_cases hf : v.formed Tryd.prog 96 = true
  · rw [if_pos hf] at h
    obtain ⟨y0, y1, m, rfl, hl, h0, h1⟩ := trod_struct2 und156 h
    rw [cel156] at hl
    simp only [cI, cB] at h0 h1
    simp only [DataW.agg.injEq, List.cons.injEq, and_true] at hz
    cases v with
    | agg cs =>
      obtain ⟨l⟩ := cs
      simp only [Value.cells] at hl h0 h1
      match l, hl with
      | [c0, c1], _ =>
        obtain ⟨k, e1, e2, _⟩ := DataW.trod_int undI h0
        obtain ⟨k', e1', e2'⟩ := DataW.trod_bool undB h1
        simp at e1 e1'
        subst e1 e1'
        rw [e2] at hz
        rw [e2'] at hz
        simp at hz
        rw [hz.1, hz.2]
    | _ => simp [Value.formed, und156] at hf
  · rw [if_neg hf] at h
    cases h
end
theorem of_laidP {W : World} (h : laidMetH Tryd.prog [("unicode.White_Space", Rows.laid_unicode_White_Space), ("strings.asciiSpace", Rows.laid_strings_asciiSpace), ("foliant/path.paints", Rows.laid_foliant_path_paints)] W) : AS W ∧ PM W := by
  rw [MakeChecks.laidMetH_plain _ _ _ (by kernel_rfl)] at h
  obtain ⟨ps, ⟨g0, t0, cs0, f0, p0, q0, hg0, ht0, hv0, hd0, ⟨g1, t1, cs1, f1, p1, q1, hg1, ht1, hv1, hd1, ⟨g2, t2, cs2, f2, p2, q2, hg2, ht2, hv2, hd2, _, _⟩, _⟩, _⟩, _, _⟩ := h
  obtain rfl := Option.some.inj (gAS.symm.trans hg1)
  obtain rfl := Option.some.inj (tAS.symm.trans ht1)
  obtain rfl := Option.some.inj (gPM.symm.trans hg2)
  obtain rfl := Option.some.inj (tPM.symm.trans ht2)
  rw [zsA_laid] at hd1
  have hcs := Lib.cells_of_tab und256 undU8 cU8 c256 hd1
  have hcell : ∀ c : Nat, c < 256 → W.cell? ⟨1, c, none⟩ = some (.int .u8 (if spB (UInt8.ofNat c) = true then 1 else 0)) := fun c hc => by
    have := World.var?_cell hg1 hv1 c
    rw [this, ← Array.getElem?_toList, hcs]
    unfold zsA
    rw [List.getElem?_map, List.getElem?_map, List.getElem?_range hc]
    rfl
  refine ⟨hcell, ?_⟩
  rcases WideElems.open_map undPM hd2 with ⟨_, hx⟩ | ⟨bm, es, clock, m, rfl, hcs, hb, _, F, hx⟩
  · cases hx
  simp only [Prod.mk.injEq] at hx
  have hm : W.cell? ⟨0, 0, none⟩ = some (.map (some bm)) := by
    have := World.var?_cell hg2 hv2 0
    rw [Array.eq_one_of_toList hcs] at this
    simpa using this
  refine ⟨bm, _, hm, hb, fun w' nm hs hw' => ?_⟩
  have zero : (zeroValue 96).run Tryd.prog w' = .ok (.agg #[.int .i64 0, .bool false]) w' := by kernel_rfl
  rcases WideElems.fit_lookup_ok (w := w') (string_law undStr') undPM zero hw' F (keyOf_string_mk undStr' hs) with ⟨hrun, hat⟩ | ⟨v, y, hrun, hRv, hat, _⟩
  · have h1 := hat .nil
    rw [← hx.1] at h1
    by_cases hl : bl nm ∈ ten
    · have := (pm_at _ hl).symm.trans h1
      cases this
    · rw [how_no hl, decide_eq_false hl]
      exact hrun
  · have h1 := hat .nil
    have h2 := hat (.lit (.bool true))
    rw [← hx.1] at h1 h2
    by_cases hl : bl nm ∈ ten
    · rw [decide_eq_true hl]
      rw [elem156 hRv (h1.symm.trans (pm_at _ hl))] at hrun
      exact hrun
    · have hy := (h1.symm.trans (pm_no hl _)).symm.trans (h2.symm.trans (pm_no hl _))
      cases hy
end Pat
end Go.Proofs.YtdchpkbpnfoknaaDoor

/- Box: the whole of it. Conditions: at most 100000 segments. -/
namespace Go.Proofs.YtdchpkbpnfoknaaDoor
namespace Pat
open Sh Mat Fix Opr
open Go.RowKit
set_option linter.unusedVariables false
set_option linter.unusedSimpArgs false
set_option maxRecDepth 100000
set_option maxHeartbeats 4000000
theorem fits_sub {N : Nat} {E E' : Env} {a : Act} (h : Fits N E a) (hs : ∀ t v, E'.get? t = some v → E.get? t = some v) : Fits N E' a := ⟨h.size, fun t v hv => h.get t v (hs t v hv)⟩
theorem Ext.put {F : Nat → Prop} {a w : World} (h : Ext F a w) {l : Nat} (o : Obj) (hl : F l ∨ a.heap.size ≤ l) : Ext F a (w.putObj l o) :=
  ⟨h.os, h.tape, h.output, by have := h.size; simp [World.putObj]; exact this, fun i hi hn => by
    have hne : i ≠ l := fun e => by
      subst e
      rcases hl with hl | hl
      · exact hn hl
      · omega
    rw [World.putObj_heap_other hne]
    exact h.block i hi hn⟩
theorem blk_put {w : World} {b l : Nat} {cs : Array Value} {t : TypeId} (h : Blk w b cs t) (o : Obj) (hn : b ≠ l) : Blk (w.putObj l o) b cs t := by
  unfold Blk at h ⊢
  rw [World.putObj_heap_other hn]
  exact h
/-- What holds between two rounds. -/
structure JB (w : World) (D b2 b4 b5 : Nat) (rec : Loop) (pre : List (Int × Int)) (W : World) : Prop where
  rc : W.heap[D + 1]? = some (.loop rec)
  df : W.heap[D]? = some (.deferred (some []))
  k2 : Blk W b2 #[.int .i64 0, .int .i64 0, .int .i64 0, .int .i64 0] 46
  k4 : Blk W b4 (bxC (boxP pre).1) 46
  k5 : Blk W b5 #[.bool (boxP pre).2] 4
  ext : Ext (fun _ => False) w W
section
variable {w W W' : World} {D b2 b4 b5 : Nat} {rec : Loop} {pre : List (Int × Int)}
theorem JB.keep (h : JB w D b2 b4 b5 rec pre W) (he : Ext (fun _ => False) W W') : JB w D b2 b4 b5 rec pre W' :=
  ⟨(he.block _ (Array.getElem?_eq_some_iff.1 h.rc).1 (fun h => h)).trans h.rc, (he.block _ (Array.getElem?_eq_some_iff.1 h.df).1 (fun h => h)).trans h.df, he.blk h.k2 (fun h => h), he.blk h.k4 (fun h => h), he.blk h.k5 (fun h => h), h.ext.tr he⟩
attribute [local irreducible] Ld Sh.St Nw Nn LdS LdT LdST StT
theorem box_yl {fn : FuncId} {tmps : Array Value} {x : Int × Int} {K : Bool → World → Prop} (hj : JB w D b2 b4 b5 (rfRec fn tmps #[9] cBoxE cBoxF D) pre W) (hsz : w.heap.size ≤ b2 ∧ b2 < b4 ∧ b4 < b5 ∧ b5 < D)
    (hf : Fits 44 [(5, .pointer (some ⟨b5, 0, none⟩)), (4, .pointer (some ⟨b4, 0, none⟩))] { tmps := tmps, defers := [] })
    (hK : ∀ W', JB w D b2 b4 b5 (rfRec fn tmps #[9] cBoxE cBoxF D) (pre ++ [x]) W' → Ext (fun j => j = D + 1 ∨ j = b4 ∨ j = b5) W W' → K true W') : Yl Tryd.prog (D + 1) #[.agg #[.int .i64 x.1, .int .i64 x.2]] W K := by
  obtain ⟨x, y⟩ := x
  obtain ⟨s1, s2, s3, s4⟩ := hsz
  refine yl_body (N := 44) (F := ⟨FF, MAY, fun _ _ => False⟩) okF (fun _ _ h => h) hj.rc rfl (E := [(9, .agg #[.int .i64 x, .int .i64 y]), (5, .pointer (some ⟨b5, 0, none⟩)), (4, .pointer (some ⟨b4, 0, none⟩))]) ?_ (pa := pBoxE) (pb := pBoxF) (by kernel_rfl) (by kernel_rfl) ?_
  · have e9 : rfTmps #[9] #[.agg #[.int .i64 x, .int .i64 y]] tmps = tmps.setIfInBounds 9 (.agg #[.int .i64 x, .int .i64 y]) := by simp [rfTmps]
    rw [show rfTmps #[9] #[.agg #[.int .i64 (x, y).1, .int .i64 (x, y).2]] tmps = _ from e9]
    exact hf.put (d := some 9) (v := .agg #[.int .i64 x, .int .i64 y]) (fun t ht => by cases ht; decide)
  rw [EBoxE]
  unfold SBoxE
  refine (Hn.start W).nw fun w4 H => ?_
  refine H.st 0 rfl (by simp) fun w5 H => ?_
  refine H.st 0 rfl (by simp) fun w6 H => ?_
  have e6 := H.h.ext
  have hj6 := hj.keep e6
  have h6 : Blk w6 W.heap.size #[.int .i64 x, .int .i64 y] _ := H.get 0 rfl
  have g6 := H.ge 0 rfl
  have hD := (Array.getElem?_eq_some_iff.1 hj.rc).1
  refine ⟨hj6.rc, ?_⟩
  rw [EBoxF]
  refine box_round (blk_put hj6.k4 _ (by omega)) (blk_put hj6.k5 _ (by omega)) (blk_put h6 _ (by omega)) (by omega) (by omega) (by omega) fun W2 k4 k5 e2 => ?_
  have hD6 := (Array.getElem?_eq_some_iff.1 hj6.rc).1
  have lt : D + 1 < (w6.putObj (D + 1) (.loop { rfRec fn tmps #[9] cBoxE cBoxF D with state := .busy })).heap.size := by simp [World.putObj]; exact hD6
  have h0 : (w6.putObj (D + 1) (.loop { rfRec fn tmps #[9] cBoxE cBoxF D with state := .busy })).heap[D + 1]? = _ := World.putObj_heap_same hD6
  have hl2 := (e2.block (D + 1) lt (by rintro (h | h) <;> omega)).trans h0
  have e62 : Ext (fun j => j = D + 1 ∨ j = b4 ∨ j = b5) w6 W2 := Ext.trans (F := fun j => j = D + 1) (Ext.put (Ext.refl _ _) _ (.inl rfl)) e2 (fun _ h => .inl h) (fun _ _ h => .inr h)
  refine ⟨hl2, hK _ ?_ ?_⟩
  · have hd := (e2.block D (by omega) (by rintro (h | h) <;> omega)).trans ((World.putObj_heap_other (by omega)).trans hj6.df)
    have k2 := e2.blk (blk_put hj6.k2 (.loop { rfRec fn tmps #[9] cBoxE cBoxF D with state := .busy }) (l := D + 1) (by omega)) (by rintro (h | h) <;> omega)
    refine ⟨World.putObj_heap_same (Array.getElem?_eq_some_iff.1 hl2).1, (World.putObj_heap_other (by omega)).trans hd, blk_put k2 _ (by omega), ?_, ?_, ?_⟩
    · rw [boxP_snoc]; exact blk_put k4 _ (by omega)
    · rw [boxP_snoc]; exact blk_put k5 _ (by omega)
    · exact Ext.put (Ext.new hj6.ext e62 (by have := hj.ext.size; rintro j (h | h | h) <;> omega)) _ (.inr (by have := hj.ext.size; omega))
  · exact Ext.put ((e6.mono fun _ _ h => h.elim).tr e62) _ (.inl (.inl rfl))
end
end Pat
end Go.Proofs.YtdchpkbpnfoknaaDoor
/- Box: it gives the bounding box of the points. Conditions: at most 100000 segments. -/
namespace Go.Proofs.YtdchpkbpnfoknaaDoor
namespace Pat
open Sh Mat Fix Opr
open Go.RowKit
set_option linter.unusedVariables false
set_option linter.unusedSimpArgs false
set_option maxRecDepth 100000
set_option maxHeartbeats 4000000
attribute [local irreducible] Ld Sh.St Nw Nn LdS LdT LdST StT
abbrev z4 : List Value := [.int .i64 0, .int .i64 0, .int .i64 0, .int .i64 0]
theorem f29_body : Tryd.f14.body = some (.seq cBoxA (.seq cBoxB (.seq cBoxC (.seq (.seq cBoxD (.block 0 (.rangeFunc (.tmp 8) #[9] cBoxE cBoxF))) cBoxG)))) := by kernel_rfl
theorem beq_no {a t : Nat} (h : t ≠ a) : Nat.beq a t = false := by
  cases hb : Nat.beq a t with
  | false => rfl
  | true => exact absurd (Nat.eq_of_beq_eq_true hb).symm h
theorem two_fits {E : Env} {a : Act} {p5 p4 : Value} (hf : Fits 44 E a) (h5 : E.get? 5 = some p5) (h4 : E.get? 4 = some p4) : Fits 44 [(5, p5), (4, p4)] { tmps := a.tmps, defers := [] } := ⟨hf.size, fun t v hv => by
  by_cases e5 : t = 5
  · subst e5
    have : some p5 = some v := hv
    cases this
    exact hf.get 5 _ h5
  by_cases e4 : t = 4
  · subst e4
    have : some p4 = some v := hv
    cases this
    exact hf.get 4 _ h4
  simp only [Env.get?, beq_no e5, beq_no e4] at hv
  cases hv⟩
theorem three_fits {E : Env} {a : Act} {p5 p4 p2 : Value} {ds : List Deferred} (hf : Fits 44 E a) (h5 : E.get? 5 = some p5) (h4 : E.get? 4 = some p4) (h2 : E.get? 2 = some p2) : Fits 44 [(5, p5), (4, p4), (2, p2)] { a with defers := ds } := ⟨hf.size, fun t v hv => by
  by_cases e5 : t = 5
  · subst e5
    have : some p5 = some v := hv
    cases this
    exact hf.get 5 _ h5
  by_cases e4 : t = 4
  · subst e4
    have : some p4 = some v := hv
    cases this
    exact hf.get 4 _ h4
  by_cases e2 : t = 2
  · subst e2
    have : some p2 = some v := hv
    cases this
    exact hf.get 2 _ h2
  simp only [Env.get?, beq_no e5, beq_no e4, beq_no e2] at hv
  cases hv⟩
theorem box_end {W : World} {b2 b4 b5 : Nat} {b : Bx} {f : Bool} {t2 t4 t5 : TypeId} {R : Addr → Bool → World → Prop} (k2 : Blk W b2 #[.int .i64 0, .int .i64 0, .int .i64 0, .int .i64 0] t2) (k4 : Blk W b4 (bxC b) t4) (k5 : Blk W b5 #[.bool f] t5)
    (n24 : b2 ≠ b4) (n25 : b2 ≠ b5) (n45 : b4 ≠ b5) (hR : ∀ W', Blk W' b2 (bxC b) t2 → Ext (· = b2) W W' → R ⟨b2, 0, none⟩ f W') : SBoxG ⟨b2, 0, none⟩ ⟨b4, 0, none⟩ ⟨b5, 0, none⟩ W R := by
  refine ⟨fun W => Blk W b4 (bxC b) t4 ∧ Blk W b5 #[.bool f] t5, ⟨k4.drew, k5.drew⟩, ?_⟩
  refine LdS.of (fun _ h => h.1) rfl (LdS.of (fun _ h => h.1) rfl (LdS.of (fun _ h => h.1) rfl (LdS.of (fun _ h => h.1) rfl (LdS.of (fun _ h => h.2) rfl ?_))))
  have H : Hx W (· = b2) W.drew [(b2, #[.int .i64 0, .int .i64 0, .int .i64 0, .int .i64 0], t2), (b4, bxC b, t4), (b5, #[.bool f], t5)] := ⟨fun p hp => by
      simp only [List.mem_cons, List.not_mem_nil, or_false] at hp
      rcases hp with rfl | rfl | rfl
      · exact k2.drew
      · exact k4.drew
      · exact k5.drew, by simp [n24, n25, n45], (Ext.refl _ _).drew⟩
  iterate 4 (refine H.st 0 rfl (by simp) (.inl rfl) fun _ H => ?_)
  exact ⟨⟨H.get 1 rfl, H.get 2 rfl⟩, hR _ (H.get 0 rfl) H.ext⟩
theorem box_ok : BoxOk := by
  intro w s L hS hl
  refine (callsIn_wide (n := 0)).1 ?_
  refine callsIn_of_wp_marks Tryd.func14 f29_body trivial ?_ rfl
  have hf0 : Fits 44 [(0, Slc.v s)] { tmps := #[Slc.v s] ++ Array.replicate (Tryd.f14.ntmps - #[Slc.v s].size) undef, defers := [] } := fits0 (args := [Slc.v s]) (n := 44) (by simp)
  obtain ⟨a0, ha0, hd0⟩ : ∃ a0 : Act, a0 = { tmps := #[Slc.v s] ++ Array.replicate (Tryd.f14.ntmps - #[Slc.v s].size) undef, defers := [] } ∧ a0.defers = [] := ⟨_, rfl, rfl⟩
  rw [← ha0] at hf0 ⊢
  clear ha0
  refine seqY (F := ⟨FF, MAY, fun _ _ => False⟩) InF.wide okF (fun _ _ h => h) (pl := pBoxA) (K := fun E w1 => E = [(3, .bool false), (2, .pointer (some ⟨w.heap.size, 0, none⟩)), (0, Slc.v s)] ∧ Hn w w1 [(w.heap.size, z4, 46)]) (by
    rw [EBoxA]
    exact (Hn.start w).nw fun w1 H => ⟨rfl, H⟩) hf0 (by kernel_rfl) ?_
  rintro E a1 w1 ⟨rfl, H1⟩ hf1 hd1
  rw [hd0] at hd1
  refine seqY (F := ⟨FF, MAY, fun _ _ => False⟩) InF.wide okF (fun _ _ h => h) (pl := pBoxB) (K := fun E w2 => E = [(4, .pointer (some ⟨w1.heap.size, 0, none⟩)), (3, .bool false), (2, .pointer (some ⟨w.heap.size, 0, none⟩)), (0, Slc.v s)] ∧ Hn w w2 [(w.heap.size, z4, 46), (w1.heap.size, z4, 46)]) (by
    rw [EBoxB]
    exact H1.nw fun w1 H => ⟨rfl, H⟩) hf1 (by kernel_rfl) ?_
  rintro E a2 w2 ⟨rfl, H2⟩ hf2 hd2
  rw [hd1] at hd2
  refine seqY (F := ⟨FF, MAY, fun _ _ => False⟩) InF.wide okF (fun _ _ h => h) (pl := pBoxC) (K := fun E w3 => E = [(5, .pointer (some ⟨w2.heap.size, 0, none⟩)), (4, .pointer (some ⟨w1.heap.size, 0, none⟩)), (3, .bool false), (2, .pointer (some ⟨w.heap.size, 0, none⟩)), (0, Slc.v s)] ∧ Hn w w3 [(w.heap.size, z4, 46), (w1.heap.size, z4, 46), (w2.heap.size, [.bool false], 4)]) (by
    rw [EBoxC]
    exact H2.nw fun w3 H => H.st 2 rfl (by simp) fun w4 H => ⟨rfl, H⟩) hf2 (by kernel_rfl) ?_
  rintro E a3 w3 ⟨rfl, H3⟩ hf3 hd3
  rw [hd2] at hd3
  refine wpIn_seq ?_
  refine seqY (F := ⟨FF, MAY, fun _ _ => False⟩) InF.wide okF (fun _ _ h => h) (pl := pBoxD) (K := fun E w4 => E = [(8, .func (.func 52) #[] #[.pointer (some ⟨w3.heap.size, 0, none⟩)]), (7, Slc.v s), (5, .pointer (some ⟨w2.heap.size, 0, none⟩)), (4, .pointer (some ⟨w1.heap.size, 0, none⟩)), (3, .bool false), (2, .pointer (some ⟨w.heap.size, 0, none⟩)), (0, Slc.v s)] ∧ Hn w w4 [(w.heap.size, z4, 46), (w1.heap.size, z4, 46), (w2.heap.size, [.bool false], 4), (w3.heap.size, [Slc.v s], 33)]) (by
    rw [EBoxD]
    refine T37 _ _ _ ?_
    exact H3.nw fun w4 H => ⟨rfl, H⟩) hf3 (by kernel_rfl) ?_
  rintro E a4 w4 ⟨rfl, H4⟩ hf4 hd4
  rw [hd3] at hd4
  have l2 := (H1.get 0 rfl).lt
  have l4 := (H2.get 1 rfl).lt
  have l5 := (H3.get 2 rfl).lt
  have l6 := (H4.get 3 rfl).lt
  have k2 : Blk w4 w.heap.size #[.int .i64 0, .int .i64 0, .int .i64 0, .int .i64 0] _ := H4.get 0 rfl
  have k4 : Blk w4 w1.heap.size (bxC (boxP []).1) _ := H4.get 1 rfl
  have k5 : Blk w4 w2.heap.size #[.bool (boxP []).2] _ := H4.get 2 rfl
  have k6 : Blk w4 w3.heap.size #[Slc.v s] _ := H4.get 3 rfl
  have e4 := H4.h.ext
  have hev : a4.eval (.tmp 8) = .func (.func 52) #[] #[.pointer (some ⟨w3.heap.size, 0, none⟩)] := hf4.rho (x := .tmp 8) rfl
  refine wpIn_block ?_
  refine rf_in okF hev (by kernel_rfl) fun fn => ?_
  obtain ⟨wr, hwr⟩ : ∃ wr, wr = rfW w4 fn a4.tmps #[9] cBoxE cBoxF := ⟨_, rfl⟩
  have er : Ext (fun _ => False) w4 wr := by rw [hwr]; exact ((Ext.refl _ w4).alloc _).alloc _
  have hr1 : wr.heap[w4.heap.size + 1]? = some (.loop (rfRec fn a4.tmps #[9] cBoxE cBoxF w4.heap.size)) := by
    rw [hwr]
    have := World.alloc_heap_new (w4.alloc (.deferred (some []))) (.loop (rfRec fn a4.tmps #[9] cBoxE cBoxF w4.heap.size))
    rwa [World.size_alloc] at this
  have hr0 : wr.heap[w4.heap.size]? = some (.deferred (some [])) := by
    rw [hwr]; exact (Below.heap_alloc _ _ _ (by simp)).trans (World.alloc_heap_new w4 _)
  have hsr : w4.heap.size + 1 < wr.heap.size := (Array.getElem?_eq_some_iff.1 hr1).1
  have hj0 : JB w w4.heap.size w.heap.size w1.heap.size w2.heap.size (rfRec fn a4.tmps #[9] cBoxE cBoxF w4.heap.size) [] wr := ⟨hr1, hr0, er.blk k2 (fun h => h), er.blk k4 (fun h => h), er.blk k5 (fun h => h), e4.tr er⟩
  rw [← hwr]
  refine (T52_Y (w4.heap.size + 1) ⟨w3.heap.size, 0, none⟩ wr _ (it_pts (J := JB w w4.heap.size w.heap.size w1.heap.size w2.heap.size (rfRec fn a4.tmps #[9] cBoxE cBoxF w4.heap.size)) (B := fun j => j = w4.heap.size + 1 ∨ j = w1.heap.size ∨ j = w2.heap.size) hS (e4.tr er) hl ((er.blk k6 (fun h => h)).cell 0) (by rintro j (h | h | h) <;> omega) (by rintro j (h | h | h) <;> omega)
    (fun _ _ _ h he => h.keep he) (fun pre x W K hj hK => box_yl hj ⟨by omega, by omega, by omega, by omega⟩ (two_fits hf4 rfl rfl) hK) hj0)).mono ?_
  rintro e W2 ⟨rfl, hj2⟩
  refine ⟨⟨_, rfl⟩, hj2.rc, ?_⟩
  have hw2 : w.heap.size ≤ w4.heap.size := e4.size
  refine wpIn_mono (wpIn_wide.2 (codeT_wp (N := 44) (F := ⟨FF, MAY, fun _ _ => False⟩) okF okM cBoxG pBoxG [(5, .pointer (some ⟨w2.heap.size, 0, none⟩)), (4, .pointer (some ⟨w1.heap.size, 0, none⟩)), (2, .pointer (some ⟨w.heap.size, 0, none⟩))] _
    (rtK fun a b W' => a = ⟨w.heap.size, 0, none⟩ ∧ b = (boxP (ptsL L)).2 ∧ Blk W' w.heap.size (bxC (boxP (ptsL L)).1) 46 ∧ W'.heap[w4.heap.size]? = some (.deferred (some [])) ∧ Ext (fun _ => False) w W') _ ?_ (three_fits hf4 rfl rfl rfl) (by kernel_rfl))) fun e a' w' hq => ?_
  · rw [EBoxG]
    refine box_end (blk_put hj2.k2 _ (by omega)) (blk_put hj2.k4 _ (by omega)) (blk_put hj2.k5 _ (by omega)) (by omega) (by omega) (by omega) fun W' g2 ge => ⟨rfl, rfl, g2, ?_, ?_⟩
    · exact (ge.block _ (by have := (Array.getElem?_eq_some_iff.1 hj2.df).1; simpa using this) (by omega)).trans ((World.putObj_heap_other (by omega)).trans hj2.df)
    · exact Ext.new (Ext.put hj2.ext _ (.inr (by omega))) ge (by rintro j rfl; exact Nat.le_refl _)
  · rcases hq with ⟨E', hr, hfe, hse⟩ | ⟨_, _, hp, _⟩
    · cases e <;> try exact hr.elim
      unfold rtK at hr
      simp only at hr
      split at hr
      · rename_i a b g2 g3
        obtain ⟨rfl, rfl, k2', hdf, he'⟩ := hr
        have hfin : Fits 44 [(3, .bool (boxP (ptsL L)).2), (2, .pointer (some ⟨w.heap.size, 0, none⟩))] a' := ⟨hfe.size, fun t v hv => by
          by_cases e3 : t = 3
          · subst e3
            have : some (Value.bool (boxP (ptsL L)).2) = some v := hv
            cases this
            exact hfe.get 3 _ g3
          by_cases e2 : t = 2
          · subst e2
            have : some (Value.pointer (some ⟨w.heap.size, 0, none⟩)) = some v := hv
            cases this
            exact hfe.get 2 _ g2
          simp only [Env.get?, beq_no e3, beq_no e2] at hv
          cases hv⟩
        have k2f := blk_put k2' (.deferred none) (l := w4.heap.size) (by omega)
        obtain ⟨v, v1, sv, v2, v3⟩ := fin_run (P := Tryd.prog) (fn := Tryd.f14) (w' := w'.putObj w4.heap.size (.deferred none)) (tys := [(.agg [(.int .i64), (.int .i64), (.int .i64), (.int .i64)]), (.one .bool)]) hfin (R := fun s W => (s.1, s.2) = boxP (ptsL L) ∧ Ext (fun _ => False) w W) (by
          refine (EBoxH ⟨w.heap.size, 0, none⟩ (boxP (ptsL L)).2 _ (fun r is W => (r, is) = boxP (ptsL L) ∧ Ext (fun _ => False) w W)).mpr ?_
          refine Ld.of k2f rfl (Ld.of k2f rfl (Ld.of k2f rfl (Ld.of k2f rfl ⟨rfl, ?_⟩)))
          exact Ext.put he' _ (.inr (by omega)))
        show LeavesInM _ _ _ _ _ _ a'.defers _ _
        rw [hse.2, hd4]
        exact ⟨by simp, .inl ⟨_, _, rfl, run_takeDeferred hdf, v, v1, sv.1, sv.2, v2, v3⟩⟩
      · exact hr.elim
    · exact hp.elim
end Pat
end Go.Proofs.YtdchpkbpnfoknaaDoor
