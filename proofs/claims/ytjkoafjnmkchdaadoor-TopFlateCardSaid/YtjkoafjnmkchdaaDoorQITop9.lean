/- Deflate: All. Conditions: sizes. -/
import Derived.Test.YtjkoafjnmkchdaaDoorQITop8
import Derived.Test.YtjkoafjnmkchdaaDoorQITop3
import Derived.Test.YtjkoafjnmkchdaaDoorQITop4
import Derived.Test.YtjkoafjnmkchdaaDoorQITop6
import Derived.Test.YtjkoafjnmkchdaaDoorQITop7
import Derived.Test.YtjkoafjnmkchdaaDoorQITop5
import Derived.Test.YtjkoafjnmkchdaaDoorRows
import Derived.WalkKit
import Derived.ProofKit
import Derived.OpenShut
import Derived.Deep.DeepHandedRow
import Derived.Lib.LaidTab
import Derived.LaidMore
import Derived.Maps.OwnSet
import Derived.ChangeSame
namespace Go.Proofs.YtjkoafjnmkchdaaDoor
namespace Inf
open Sh Bit
set_option linter.unusedVariables false
set_option linter.unusedSimpArgs false
set_option maxRecDepth 4000
set_option maxHeartbeats 1000000
attribute [local irreducible] Ld St Nw Nn Lt LdS
theorem c_cl {s : ByteArray} (hs : s.size ≤ 281474976710656) (w : World) : C25 s w fun r w1 => r = s ∧ Ext (fun _ => False) w w1 := by
  refine T25 _ _ _ ?_
  unfold S25
  exact (c_cloneS s hs w).mono fun r w1 h => h
/-- What All answers. -/
def AllR (S : ByteArray) (lv : Int) (w : World) (r : ByteArray) (e : Int) (w1 : World) : Prop :=
  e = 0 ∧ (∃ T : List UInt8, r = ⟨T.toArray⟩ ∧ Gives T S.data.toList ∧ T.length ≤ S.size + 5 ∧ (lv = 0 → T.length = S.size + 5)) ∧ Ext (fun _ => False) w w1
theorem size_mk (T : List UInt8) : (⟨T.toArray⟩ : ByteArray).size = T.length := by show T.toArray.size = _; simp
theorem c_AllW {S : ByteArray} (hs : S.size ≤ 65535) {lv : Int} (h0 : 0 ≤ lv) (h2 : lv ≤ 2) (w : World) : C14 S lv w (fun r e w1 => AllR S lv w r e w1) (fun _ _ => False) := by
  have hsz : S.data.toList.length = S.size := (size_list S).symm
  refine T14 _ _ _ _ _ ?_
  unfold S14
  refine Br.dec (fun q => absurd q (by omega)) fun _ => Br.dec (fun q => absurd q (by omega)) fun _ => Br.dec (fun q => absurd q (by omega)) fun _ => ?_
  refine (c_storedW (S := S) (by omega) w).mono ?_
  rintro r w4 ⟨rfl, e4⟩
  rw [storedT_small (by omega)]
  have g3 := stored_gives S.data.toList (by omega)
  have l3 : (blkS 1 S.data.toList).length = S.size + 5 := by rw [blkS_len]; omega
  generalize blkS 1 S.data.toList = T3 at g3 l3
  refine Br.eq (fun q => ⟨rfl, ⟨T3, rfl, g3, by omega, fun _ => l3⟩, e4⟩) fun hlv => ?_
  refine (c_Parts (S := S) (by omega) w4).mono ?_
  rintro r5 w6 ⟨P5, e6⟩
  obtain ⟨hfit, hfold⟩ := partsS_fit S.data.toList
  have hpl : (partsS S.data.toList).length ≤ 1048576 := by
    have : (partsS S.data.toList).length ≤ S.data.toList.length := partsF_len _ _ _
    omega
  refine (c_fixedB P5 hpl hfit).mono ?_ fun _ _ h => h
  rintro r w10 ⟨rfl, e10⟩
  have g9 := fixed_gives hfit
  rw [hfold] at g9
  have P10 := P5.keep e10
  have E10 := (e4.tr e6).tr e10
  generalize fixO (partsS S.data.toList) = T9 at g9
  -- the end: a copy of one of them
  have fin : ∀ (T : List UInt8) (w12 : World), Gives T S.data.toList → T.length ≤ S.size + 5 → Ext (fun _ => False) w w12 → C25 (⟨T.toArray⟩ : ByteArray) w12 fun r w13 => AllR S lv w r 0 w13 := fun T w12 g hT e => by
    refine (c_cl (by rw [size_mk]; omega) w12).mono ?_
    rintro r w13 ⟨rfl, e13⟩
    exact ⟨rfl, ⟨T, rfl, g, hT, fun h => absurd h hlv⟩, e.tr e13⟩
  rw [size_mk, size_mk]
  refine Br.dec (fun q1 => Br.eq (fun q2 => ?_) fun q2 => ?_) fun q1 => Br.eq (fun q2 => ?_) fun q2 => ?_
  · refine (c_own P10 hpl hfit).mono ?_ fun _ _ h => h
    rintro r w12 ⟨o, hok, hh, rfl, e12⟩
    have g11 := own_gives hok hfit hh
    rw [hfold] at g11
    generalize o.T (partsS S.data.toList) = T11 at g11
    rw [size_mk]
    refine Br.dec (fun q3 => ?_) fun q3 => ?_
    · exact fin T11 w12 g11 (by omega) (E10.tr e12)
    · exact fin T9 w12 g9 (by omega) (E10.tr e12)
  · exact fin T9 w10 g9 (by omega) E10
  · refine (c_own P10 hpl hfit).mono ?_ fun _ _ h => h
    rintro r w12 ⟨o, hok, hh, rfl, e12⟩
    have g11 := own_gives hok hfit hh
    rw [hfold] at g11
    generalize o.T (partsS S.data.toList) = T11 at g11
    rw [size_mk]
    refine Br.dec (fun q3 => ?_) fun q3 => ?_
    · exact fin T11 w12 g11 (by omega) (E10.tr e12)
    · exact fin T3 w12 g3 (by omega) (E10.tr e12)
  · exact fin T3 w10 g3 (by omega) E10
end Inf
end Go.Proofs.YtjkoafjnmkchdaaDoor

/- The formulas of 16 functions of the program, written by program (gen.py); the kernel checks each. No condition. -/
namespace Go.Proofs.YtjkoafjnmkchdaaDoor
open Sh
set_option linter.unusedVariables false
set_option maxRecDepth 100000

def C20 (x1 : Int × Int) (c2 : Int) (w : World) (R : (Int × Int) → World → Prop) : Prop :=
  Calls Tryd.prog 20 #[.agg #[.int .u32 (x1.1), .int .u32 (x1.2)], .int .u8 c2] w fun e w' => ∃ r0 : Int × Int, e = .returned (.agg #[.int .u32 (r0.1), .int .u32 (r0.2)]) ∧ R r0 w'
theorem C20.mono {x1 : Int × Int} {c2 : Int} {w : World} {R R' : (Int × Int) → World → Prop} (h : C20 x1 c2 w R) (hr : ∀ r0 w', R r0 w' → R' r0 w') : C20 x1 c2 w R' :=
  Calls.mono h fun _ _ ⟨r0, he, hR⟩ => ⟨r0, he, hr _ _ hR⟩
def C11 (was1 : Int) (s2 : ByteArray) (w : World) (R : Int → World → Prop) : Prop :=
  Calls Tryd.prog 11 #[.int .u32 was1, .string s2] w fun e w' => ∃ r0 : Int, e = .returned (.int .u32 r0) ∧ R r0 w'
theorem C11.mono {was1 : Int} {s2 : ByteArray} {w : World} {R R' : Int → World → Prop} (h : C11 was1 s2 w R) (hr : ∀ r0 w', R r0 w' → R' r0 w') : C11 was1 s2 w R' :=
  Calls.mono h fun _ _ ⟨r0, he, hR⟩ => ⟨r0, he, hr _ _ hR⟩
def C9 (s1 : ByteArray) (w : World) (R : Int → World → Prop) : Prop :=
  Calls Tryd.prog 9 #[.string s1] w fun e w' => ∃ r0 : Int, e = .returned (.int .u32 r0) ∧ R r0 w'
theorem C9.mono {s1 : ByteArray} {w : World} {R R' : Int → World → Prop} (h : C9 s1 w R) (hr : ∀ r0 w', R r0 w' → R' r0 w') : C9 s1 w R' :=
  Calls.mono h fun _ _ ⟨r0, he, hR⟩ => ⟨r0, he, hr _ _ hR⟩
def C12 (sum1 : Int) (s2 : ByteArray) (w : World) (R : Int → World → Prop) : Prop :=
  Calls Tryd.prog 12 #[.int .u32 sum1, .string s2] w fun e w' => ∃ r0 : Int, e = .returned (.int .u32 r0) ∧ R r0 w'
theorem C12.mono {sum1 : Int} {s2 : ByteArray} {w : World} {R R' : Int → World → Prop} (h : C12 sum1 s2 w R) (hr : ∀ r0 w', R r0 w' → R' r0 w') : C12 sum1 s2 w R' :=
  Calls.mono h fun _ _ ⟨r0, he, hR⟩ => ⟨r0, he, hr _ _ hR⟩
def C10 (s1 : ByteArray) (w : World) (R : Int → World → Prop) : Prop :=
  Calls Tryd.prog 10 #[.string s1] w fun e w' => ∃ r0 : Int, e = .returned (.int .u32 r0) ∧ R r0 w'
theorem C10.mono {s1 : ByteArray} {w : World} {R R' : Int → World → Prop} (h : C10 s1 w R) (hr : ∀ r0 w', R r0 w' → R' r0 w') : C10 s1 w R' :=
  Calls.mono h fun _ _ ⟨r0, he, hR⟩ => ⟨r0, he, hr _ _ hR⟩
def C21 (n1 : Int) (w : World) (R : ByteArray → World → Prop) : Prop :=
  Calls Tryd.prog 21 #[.int .u32 n1] w fun e w' => ∃ r0 : ByteArray, e = .returned (.string r0) ∧ R r0 w'
theorem C21.mono {n1 : Int} {w : World} {R R' : ByteArray → World → Prop} (h : C21 n1 w R) (hr : ∀ r0 w', R r0 w' → R' r0 w') : C21 n1 w R' :=
  Calls.mono h fun _ _ ⟨r0, he, hR⟩ => ⟨r0, he, hr _ _ hR⟩
def C13 (s1 : ByteArray) (level2 : Int) (w : World) (R : ByteArray → Int → World → Prop) (PR : Value → World → Prop) : Prop :=
  Calls Tryd.prog 13 #[.string s1, .int .i64 level2] w fun e w' => (∃ r0 : ByteArray, ∃ r1 : Int, e = .returned (.tuple #[.string r0, .int .i64 r1]) ∧ R r0 r1 w') ∨ ∃ v, e = .panicked (onePanic v) ∧ PR v w'
theorem C13.mono {s1 : ByteArray} {level2 : Int} {w : World} {R R' : ByteArray → Int → World → Prop} {PR PR' : Value → World → Prop} (h : C13 s1 level2 w R PR) (hr : ∀ r0 r1 w', R r0 r1 w' → R' r0 r1 w') (hp : ∀ v w', PR v w' → PR' v w') : C13 s1 level2 w R' PR' :=
  Calls.mono h fun _ _ he => he.elim (fun ⟨r0, r1, he, hR⟩ => .inl ⟨r0, r1, he, hr _ _ _ hR⟩) fun ⟨v, he, hP⟩ => .inr ⟨v, he, hp _ _ hP⟩
def C15 (sum1 : Int) (w : World) (R : ByteArray → World → Prop) : Prop :=
  Calls Tryd.prog 15 #[.int .u32 sum1] w fun e w' => ∃ r0 : ByteArray, e = .returned (.string r0) ∧ R r0 w'
theorem C15.mono {sum1 : Int} {w : World} {R R' : ByteArray → World → Prop} (h : C15 sum1 w R) (hr : ∀ r0 w', R r0 w' → R' r0 w') : C15 sum1 w R' :=
  Calls.mono h fun _ _ ⟨r0, he, hR⟩ => ⟨r0, he, hr _ _ hR⟩
def C26 (s1 : ByteArray) (w : World) (R : Int → World → Prop) : Prop :=
  Calls Tryd.prog 26 #[.string s1] w fun e w' => ∃ r0 : Int, e = .returned (.int .i64 r0) ∧ R r0 w'
theorem C26.mono {s1 : ByteArray} {w : World} {R R' : Int → World → Prop} (h : C26 s1 w R) (hr : ∀ r0 w', R r0 w' → R' r0 w') : C26 s1 w R' :=
  Calls.mono h fun _ _ ⟨r0, he, hR⟩ => ⟨r0, he, hr _ _ hR⟩
def C16 (s1 : ByteArray) (most2 : Int) (w : World) (R : ByteArray → Int → World → Prop) : Prop :=
  Calls Tryd.prog 16 #[.string s1, .int .i64 most2] w fun e w' => ∃ r0 : ByteArray, ∃ r1 : Int, e = .returned (.tuple #[.string r0, .int .i64 r1]) ∧ R r0 r1 w'
theorem C16.mono {s1 : ByteArray} {most2 : Int} {w : World} {R R' : ByteArray → Int → World → Prop} (h : C16 s1 most2 w R) (hr : ∀ r0 r1 w', R r0 r1 w' → R' r0 r1 w') : C16 s1 most2 w R' :=
  Calls.mono h fun _ _ ⟨r0, r1, he, hR⟩ => ⟨r0, r1, he, hr _ _ _ hR⟩
def C8 (w : World) (R : Bool → World → Prop) (PR : Value → World → Prop) : Prop :=
  Calls Tryd.prog 8 #[] w fun e w' => (∃ r0 : Bool, e = .returned (.bool r0) ∧ R r0 w') ∨ ∃ v, e = .panicked (onePanic v) ∧ PR v w'
theorem C8.mono {w : World} {R R' : Bool → World → Prop} {PR PR' : Value → World → Prop} (h : C8 w R PR) (hr : ∀ r0 w', R r0 w' → R' r0 w') (hp : ∀ v w', PR v w' → PR' v w') : C8 w R' PR' :=
  Calls.mono h fun _ _ he => he.elim (fun ⟨r0, he, hR⟩ => .inl ⟨r0, he, hr _ _ hR⟩) fun ⟨v, he, hP⟩ => .inr ⟨v, he, hp _ _ hP⟩
def C3 (sum1 : Int) (s2 : ByteArray) (t3 : ByteArray) (w : World) (R : Bool → World → Prop) (PR : Value → World → Prop) : Prop :=
  Calls Tryd.prog 3 #[.int .u32 sum1, .string s2, .string t3] w fun e w' => (∃ r0 : Bool, e = .returned (.bool r0) ∧ R r0 w') ∨ ∃ v, e = .panicked (onePanic v) ∧ PR v w'
theorem C3.mono {sum1 : Int} {s2 : ByteArray} {t3 : ByteArray} {w : World} {R R' : Bool → World → Prop} {PR PR' : Value → World → Prop} (h : C3 sum1 s2 t3 w R PR) (hr : ∀ r0 w', R r0 w' → R' r0 w') (hp : ∀ v w', PR v w' → PR' v w') : C3 sum1 s2 t3 w R' PR' :=
  Calls.mono h fun _ _ he => he.elim (fun ⟨r0, he, hR⟩ => .inl ⟨r0, he, hr _ _ hR⟩) fun ⟨v, he, hP⟩ => .inr ⟨v, he, hp _ _ hP⟩
def C4 (s1 : ByteArray) (level2 : Int) (behind3 : ByteArray) (w : World) (R : Bool → World → Prop) (PR : Value → World → Prop) : Prop :=
  Calls Tryd.prog 4 #[.string s1, .int .i64 level2, .string behind3] w fun e w' => (∃ r0 : Bool, e = .returned (.bool r0) ∧ R r0 w') ∨ ∃ v, e = .panicked (onePanic v) ∧ PR v w'
theorem C4.mono {s1 : ByteArray} {level2 : Int} {behind3 : ByteArray} {w : World} {R R' : Bool → World → Prop} {PR PR' : Value → World → Prop} (h : C4 s1 level2 behind3 w R PR) (hr : ∀ r0 w', R r0 w' → R' r0 w') (hp : ∀ v w', PR v w' → PR' v w') : C4 s1 level2 behind3 w R' PR' :=
  Calls.mono h fun _ _ he => he.elim (fun ⟨r0, he, hR⟩ => .inl ⟨r0, he, hr _ _ hR⟩) fun ⟨v, he, hP⟩ => .inr ⟨v, he, hp _ _ hP⟩
def C5 (s1 : ByteArray) (level2 : Int) (vat3 : Int) (c4 : Int) (w : World) (R : Bool → World → Prop) (PR : Value → World → Prop) : Prop :=
  Calls Tryd.prog 5 #[.string s1, .int .i64 level2, .int .i64 vat3, .int .u8 c4] w fun e w' => (∃ r0 : Bool, e = .returned (.bool r0) ∧ R r0 w') ∨ ∃ v, e = .panicked (onePanic v) ∧ PR v w'
theorem C5.mono {s1 : ByteArray} {level2 : Int} {vat3 : Int} {c4 : Int} {w : World} {R R' : Bool → World → Prop} {PR PR' : Value → World → Prop} (h : C5 s1 level2 vat3 c4 w R PR) (hr : ∀ r0 w', R r0 w' → R' r0 w') (hp : ∀ v w', PR v w' → PR' v w') : C5 s1 level2 vat3 c4 w R' PR' :=
  Calls.mono h fun _ _ he => he.elim (fun ⟨r0, he, hR⟩ => .inl ⟨r0, he, hr _ _ hR⟩) fun ⟨v, he, hP⟩ => .inr ⟨v, he, hp _ _ hP⟩
def C6 (s1 : ByteArray) (more2 : ByteArray) (cut3 : Int) (w : World) (R : Bool → World → Prop) (PR : Value → World → Prop) : Prop :=
  Calls Tryd.prog 6 #[.string s1, .string more2, .int .i64 cut3] w fun e w' => (∃ r0 : Bool, e = .returned (.bool r0) ∧ R r0 w') ∨ ∃ v, e = .panicked (onePanic v) ∧ PR v w'
theorem C6.mono {s1 : ByteArray} {more2 : ByteArray} {cut3 : Int} {w : World} {R R' : Bool → World → Prop} {PR PR' : Value → World → Prop} (h : C6 s1 more2 cut3 w R PR) (hr : ∀ r0 w', R r0 w' → R' r0 w') (hp : ∀ v w', PR v w' → PR' v w') : C6 s1 more2 cut3 w R' PR' :=
  Calls.mono h fun _ _ he => he.elim (fun ⟨r0, he, hR⟩ => .inl ⟨r0, he, hr _ _ hR⟩) fun ⟨v, he, hP⟩ => .inr ⟨v, he, hp _ _ hP⟩
def C7 (s1 : ByteArray) (w : World) (R : Bool → World → Prop) (PR : Value → World → Prop) : Prop :=
  Calls Tryd.prog 7 #[.string s1] w fun e w' => (∃ r0 : Bool, e = .returned (.bool r0) ∧ R r0 w') ∨ ∃ v, e = .panicked (onePanic v) ∧ PR v w'
theorem C7.mono {s1 : ByteArray} {w : World} {R R' : Bool → World → Prop} {PR PR' : Value → World → Prop} (h : C7 s1 w R PR) (hr : ∀ r0 w', R r0 w' → R' r0 w') (hp : ∀ v w', PR v w' → PR' v w') : C7 s1 w R' PR' :=
  Calls.mono h fun _ _ he => he.elim (fun ⟨r0, he, hR⟩ => .inl ⟨r0, he, hr _ _ hR⟩) fun ⟨v, he, hP⟩ => .inr ⟨v, he, hp _ _ hP⟩

/-- (foliant/zlib.sum).by -/
def S20 (x1 : Int × Int) (c2 : Int) (w : World) (R : (Int × Int) → World → Prop) : Prop :=
  Nw w (.cells #[.int .u32 (x1.1), .int .u32 (x1.2)] 45) fun vw3 =>
  Nw vw3 (.cells #[.int .u32 0, .int .u32 0] 45) fun vw4 =>
  Ld vw4 (⟨w.heap.size, 0, none⟩ : Addr) (Value.int .u32) fun (x5 : Int) =>
  St vw4 (⟨w.heap.size, 0, none⟩ : Addr) (.int .u32 (Int.tmod (IntKind.u32.wrap (x5 + (IntKind.u32.wrap c2))) 65521)) fun vw6 =>
  Ld vw6 ((⟨w.heap.size, 0, none⟩ : Addr).add 1) (Value.int .u32) fun (x7 : Int) =>
  Ld vw6 (⟨w.heap.size, 0, none⟩ : Addr) (Value.int .u32) fun (x8 : Int) =>
  St vw6 ((⟨w.heap.size, 0, none⟩ : Addr).add 1) (.int .u32 (Int.tmod (IntKind.u32.wrap (x7 + x8)) 65521)) fun vw9 =>
  Ld vw9 (⟨w.heap.size, 0, none⟩ : Addr) (Value.int .u32) fun (x10 : Int) =>
  Ld vw9 ((⟨w.heap.size, 0, none⟩ : Addr).add 1) (Value.int .u32) fun (x11 : Int) =>
  St vw9 (⟨vw3.heap.size, 0, none⟩ : Addr) (.int .u32 x10) fun vw12 =>
  St vw12 ((⟨vw3.heap.size, 0, none⟩ : Addr).add 1) (.int .u32 x11) fun vw13 =>
  Ld vw13 (⟨vw3.heap.size, 0, none⟩ : Addr) (Value.int .u32) fun (x14 : Int) =>
  Ld vw13 ((⟨vw3.heap.size, 0, none⟩ : Addr).add 1) (Value.int .u32) fun (x15 : Int) =>
  R (x14, x15) vw13
def pl20 : Plan := (.seq (.reg .seq) (.seq (.reg .seq) (.seq (.reg .seq) (.seq (.reg .seq) .leaf))))
set_option maxRecDepth 100000 in
theorem T20 (x1 : Int × Int) (c2 : Int) (w : World) (R : (Int × Int) → World → Prop) (h : S20 x1 c2 w R) : C20 (x1.1, x1.2) c2 w R := by
  have e : fnT Tryd.prog ⟨FF, MAY, (fun _ _ => False)⟩ pl20 Tryd.f20 [.agg #[.int .u32 (x1.1), .int .u32 (x1.2)], .int .u8 c2] w [(.agg [(.int .u32), (.int .u32)])] (fun s w => R s w) = S20 x1 c2 w R := by kernel_rfl
  exact (fn_calls okF okM Tryd.func20 (by kernel_rfl) (by kernel_rfl) (e.mpr h)).mono fun _ _ ⟨s, he, hR⟩ => ⟨s, he, hR⟩

def S11L1 (w : World) (s2 : ByteArray) (R : Int → World → Prop) (I17 : Int → World → Prop) (s15 : Int) (vw16 : World) : Prop :=
  Br (decide (s15 < (((s2).size : Nat) : Int))) (Ld vw16.drew (⟨w.heap.size, 0, none⟩ : Addr) (Value.int .u32) fun (x18 : Int) =>
    Ld vw16.drew ((⟨w.heap.size, 0, none⟩ : Addr).add 1) (Value.int .u32) fun (x19 : Int) =>
    0 ≤ s15 ∧ s15 < ((s2).size : Nat) ∧ C20 (x18, x19) (bAt s2 s15) vw16.drew fun r20 vw21 =>
      St vw21 (⟨w.heap.size, 0, none⟩ : Addr) (.int .u32 (r20.1)) fun vw22 =>
      St vw22 ((⟨w.heap.size, 0, none⟩ : Addr).add 1) (.int .u32 (r20.2)) fun vw23 =>
      I17 (IntKind.i64.wrap (s15 + 1)) vw23) (Ld vw16 ((⟨w.heap.size, 0, none⟩ : Addr).add 1) (Value.int .u32) fun (x24 : Int) =>
    Ld vw16 (⟨w.heap.size, 0, none⟩ : Addr) (Value.int .u32) fun (x25 : Int) =>
    R (ior .u32 (IntKind.u32.wrap (x24 * 2 ^ 16)) x25) vw16)
/-- foliant/zlib.More -/
def S11 (was1 : Int) (s2 : ByteArray) (w : World) (R : Int → World → Prop) : Prop :=
  Nw w (.cells #[.int .u32 0, .int .u32 0] 45) fun vw3 =>
  St vw3 (⟨w.heap.size, 0, none⟩ : Addr) (.int .u32 (Int.tmod (iand .u32 was1 65535) 65521)) fun vw4 =>
  St vw4 ((⟨w.heap.size, 0, none⟩ : Addr).add 1) (.int .u32 (Int.tmod (Int.fdiv was1 (2 ^ 16)) 65521)) fun vw5 =>
  Lp (σ := Int) (S11L1 w s2 R) 0 vw5
def pl11 : Plan := (.seq (.reg .seq) (.seq (.reg .seq) (.seq (.seq (.reg .seq) (.block (.loop [(16, (.one (.int .i64)))] [1, 5, 15] (.seq (.reg .seq) (.seq (.cond .leaf .leaf) (.seq (.block (.seq (.reg .seq) (.reg (.tail 4)))) (.reg .seq))))))) (.seq (.reg .seq) .leaf))))
set_option maxRecDepth 100000 in
theorem T11 (was1 : Int) (s2 : ByteArray) (w : World) (R : Int → World → Prop) (h : S11 was1 s2 w R) : C11 was1 s2 w R := by
  have e : fnT Tryd.prog ⟨FF, MAY, (fun _ _ => False)⟩ pl11 Tryd.f11 [.int .u32 was1, .string s2] w [(.one (.int .u32))] (fun s w => R s w) = S11 was1 s2 w R := by kernel_rfl
  exact (fn_calls okF okM Tryd.func11 (by kernel_rfl) (by kernel_rfl) (e.mpr h)).mono fun _ _ ⟨s, he, hR⟩ => ⟨s, he, hR⟩

/-- foliant/zlib.Sum -/
def S9 (s1 : ByteArray) (w : World) (R : Int → World → Prop) : Prop :=
  C11 1 s1 w fun r2 vw3 =>
    R r2 vw3
def pl9 : Plan := (.seq (.reg .seq) (.seq (.reg .seq) .leaf))
set_option maxRecDepth 100000 in
theorem T9 (s1 : ByteArray) (w : World) (R : Int → World → Prop) (h : S9 s1 w R) : C9 s1 w R := by
  have e : fnT Tryd.prog ⟨FF, MAY, (fun _ _ => False)⟩ pl9 Tryd.f9 [.string s1] w [(.one (.int .u32))] (fun s w => R s w) = S9 s1 w R := by kernel_rfl
  exact (fn_calls okF okM Tryd.func9 (by kernel_rfl) (by kernel_rfl) (e.mpr h)).mono fun _ _ ⟨s, he, hR⟩ => ⟨s, he, hR⟩

def S12L1 (s2 : ByteArray) (R : Int → World → Prop) (I9 : (Int × Int × Int) → World → Prop) (s7 : Int × Int × Int) (vw8 : World) : Prop :=
  Br (decide (s7.2.2 < (((s2).size : Nat) : Int))) (0 ≤ s7.2.2 ∧ s7.2.2 < ((s2).size : Nat) ∧ Lt (IntKind.u32.wrap (s7.2.1 + (Int.tmod (IntKind.u32.wrap (s7.1 + (IntKind.u32.wrap (bAt s2 s7.2.2)))) 65521))) fun (x10 : Int) =>
    I9 (Int.tmod (IntKind.u32.wrap (s7.1 + (IntKind.u32.wrap (bAt s2 s7.2.2)))) 65521, Int.tmod x10 65521, IntKind.i64.wrap (s7.2.2 + 1)) vw8) (R (IntKind.u32.wrap ((IntKind.u32.wrap (65536 * s7.2.1)) + s7.1)) vw8)
/-- foliant/foliantref13.More -/
def S12 (sum1 : Int) (s2 : ByteArray) (w : World) (R : Int → World → Prop) : Prop :=
  Lp (σ := Int × Int × Int) (S12L1 s2 R) (Int.tmod (Int.tmod sum1 65536) 65521, Int.tmod (IntKind.u32.wrap (Int.tdiv sum1 65536)) 65521, 0) w
def pl12 : Plan := (.seq (.reg .seq) (.seq (.reg .seq) (.seq (.seq (.reg .seq) (.block (.loop [(5, (.one (.int .u32))), (6, (.one (.int .u32))), (7, (.one (.int .i64)))] [1] (.seq (.seq (.reg .seq) (.cond .leaf .leaf)) (.seq (.block (.seq (.reg .seq) (.reg .seq))) (.reg .seq)))))) (.seq (.reg .seq) .leaf))))
set_option maxRecDepth 100000 in
theorem T12 (sum1 : Int) (s2 : ByteArray) (w : World) (R : Int → World → Prop) (h : S12 sum1 s2 w R) : C12 sum1 s2 w R := by
  have e : fnT Tryd.prog ⟨FF, MAY, (fun _ _ => False)⟩ pl12 Tryd.f12 [.int .u32 sum1, .string s2] w [(.one (.int .u32))] (fun s w => R s w) = S12 sum1 s2 w R := by kernel_rfl
  exact (fn_calls okF okM Tryd.func12 (by kernel_rfl) (by kernel_rfl) (e.mpr h)).mono fun _ _ ⟨s, he, hR⟩ => ⟨s, he, hR⟩

/-- foliant/foliantref13.Sum -/
def S10 (s1 : ByteArray) (w : World) (R : Int → World → Prop) : Prop :=
  C12 1 s1 w fun r2 vw3 =>
    R r2 vw3
def pl10 : Plan := (.seq (.reg .seq) (.seq (.reg .seq) .leaf))
set_option maxRecDepth 100000 in
theorem T10 (s1 : ByteArray) (w : World) (R : Int → World → Prop) (h : S10 s1 w R) : C10 s1 w R := by
  have e : fnT Tryd.prog ⟨FF, MAY, (fun _ _ => False)⟩ pl10 Tryd.f10 [.string s1] w [(.one (.int .u32))] (fun s w => R s w) = S10 s1 w R := by kernel_rfl
  exact (fn_calls okF okM Tryd.func10 (by kernel_rfl) (by kernel_rfl) (e.mpr h)).mono fun _ _ ⟨s, he, hR⟩ => ⟨s, he, hR⟩

/-- foliant/zlib.four -/
def S21 (n1 : Int) (w : World) (R : ByteArray → World → Prop) : Prop :=
  Nw w (.cells #[.int .u8 (IntKind.u8.wrap (Int.fdiv n1 (2 ^ 24))), .int .u8 (IntKind.u8.wrap (Int.fdiv n1 (2 ^ 16))), .int .u8 (IntKind.u8.wrap (Int.fdiv n1 (2 ^ 8))), .int .u8 (IntKind.u8.wrap n1)] 5) fun vw2 =>
  Rn Tryd.prog (convert 32 9 (Slc.v ((⟨some ⟨w.heap.size, 0, none⟩, 4, 4⟩ : Slc)))) vw2 Value.string fun (x3 : ByteArray) vw4 =>
  R x3 vw4
def pl21 : Plan := (.seq (.reg .seq) (.seq (.reg .seq) .leaf))
set_option maxRecDepth 100000 in
theorem T21 (n1 : Int) (w : World) (R : ByteArray → World → Prop) (h : S21 n1 w R) : C21 n1 w R := by
  have e : fnT Tryd.prog ⟨FF, MAY, (fun _ _ => False)⟩ pl21 Tryd.f21 [.int .u32 n1] w [(.one .str)] (fun s w => R s w) = S21 n1 w R := by kernel_rfl
  exact (fn_calls okF okM Tryd.func21 (by kernel_rfl) (by kernel_rfl) (e.mpr h)).mono fun _ _ ⟨s, he, hR⟩ => ⟨s, he, hR⟩

/-- foliant/zlib.Wrap -/
def S13 (s1 : ByteArray) (level2 : Int) (w : World) (R : ByteArray → Int → World → Prop) (PR : Value → World → Prop) : Prop :=
  C14 s1 level2 w (fun r3 r4 vw5 =>
    Br (r4 != 0) (R (⟨#[]⟩ : ByteArray) r4 vw5) (((((⟨#[120, 156]⟩ : ByteArray)).size + (r3).size : Nat) : Int) ≤ IntKind.i64.max ∧ C9 s1 vw5 fun r6 vw7 =>
        C21 r6 vw7 fun r8 vw9 =>
          ((((⟨#[120, 156]⟩ : ByteArray) ++ r3).size + (r8).size : Nat) : Int) ≤ IntKind.i64.max ∧ R (((⟨#[120, 156]⟩ : ByteArray) ++ r3) ++ r8) 0 vw9)) PR
def pl13 : Plan := (.seq (.reg .seq) (.seq (.reg .seq) (.seq (.seq (.reg .seq) (.cond (.seq (.reg .seq) .leaf) .leaf)) (.seq (.reg .seq) .leaf))))
set_option maxRecDepth 100000 in
theorem T13 (s1 : ByteArray) (level2 : Int) (w : World) (R : ByteArray → Int → World → Prop) (PR : Value → World → Prop) (h : S13 s1 level2 w R PR) : C13 s1 level2 w R PR := by
  have e : fnT Tryd.prog ⟨FF, MAY, PR⟩ pl13 Tryd.f13 [.string s1, .int .i64 level2] w [(.one .str), (.one (.int .i64))] (fun s w => R s.1 s.2 w) = S13 s1 level2 w R PR := by kernel_rfl
  exact (fn_callsP okF okM Tryd.func13 (by kernel_rfl) (by kernel_rfl) (e.mpr h)).mono fun _ _ he => he.elim (fun ⟨s, he, hR⟩ => .inl ⟨s.1, s.2, he, hR⟩) .inr

/-- foliant/foliantref13.Tail -/
def S15 (sum1 : Int) (w : World) (R : ByteArray → World → Prop) : Prop :=
  Nw w (.cells #[.int .u8 (IntKind.u8.wrap (Int.fdiv sum1 (2 ^ 24))), .int .u8 (IntKind.u8.wrap (Int.fdiv sum1 (2 ^ 16))), .int .u8 (IntKind.u8.wrap (Int.fdiv sum1 (2 ^ 8))), .int .u8 (IntKind.u8.wrap sum1)] 5) fun vw2 =>
  Rn Tryd.prog (convert 32 9 (Slc.v ((⟨some ⟨w.heap.size, 0, none⟩, 4, 4⟩ : Slc)))) vw2 Value.string fun (x3 : ByteArray) vw4 =>
  R x3 vw4
def pl15 : Plan := (.seq (.reg .seq) (.seq (.reg .seq) .leaf))
set_option maxRecDepth 100000 in
theorem T15 (sum1 : Int) (w : World) (R : ByteArray → World → Prop) (h : S15 sum1 w R) : C15 sum1 w R := by
  have e : fnT Tryd.prog ⟨FF, MAY, (fun _ _ => False)⟩ pl15 Tryd.f15 [.int .u32 sum1] w [(.one .str)] (fun s w => R s w) = S15 sum1 w R := by kernel_rfl
  exact (fn_calls okF okM Tryd.func15 (by kernel_rfl) (by kernel_rfl) (e.mpr h)).mono fun _ _ ⟨s, he, hR⟩ => ⟨s, he, hR⟩

/-- foliant/zlib.begins -/
def S26 (s1 : ByteArray) (w : World) (R : Int → World → Prop) : Prop :=
  Br (decide ((((s1).size : Nat) : Int) < 2)) (R 4 w) (0 ≤ (0 : Int) ∧ (0 : Int) < ((s1).size : Nat) ∧ 0 ≤ (1 : Int) ∧ (1 : Int) < ((s1).size : Nat) ∧ Br ((iand .i64 (IntKind.i64.wrap (bAt s1 0)) 15) != 8) (R 3 w.drew) (Br (decide ((Int.fdiv (IntKind.i64.wrap (bAt s1 0)) (2 ^ 4)) > 7)) (R 3 w.drew) (Lt (ior .i64 (IntKind.i64.wrap ((IntKind.i64.wrap (bAt s1 0)) * 2 ^ 8)) (IntKind.i64.wrap (bAt s1 1))) fun (x2 : Int) =>
        Br ((Int.tmod x2 31) != 0) (R 3 w.drew) (Br ((iand .i64 (IntKind.i64.wrap (bAt s1 1)) 32) != 0) (R 3 w.drew) (R 0 w.drew)))))
def pl26 : Plan := (.seq (.reg .seq) (.seq (.seq (.reg .seq) (.cond (.seq (.reg .seq) .leaf) .leaf)) (.seq (.reg .still) (.seq (.seq (.reg .seq) (.cond (.seq (.reg .seq) .leaf) .leaf)) (.seq (.reg .seq) .leaf)))))
set_option maxRecDepth 100000 in
theorem T26 (s1 : ByteArray) (w : World) (R : Int → World → Prop) (h : S26 s1 w R) : C26 s1 w R := by
  have e : fnT Tryd.prog ⟨FF, MAY, (fun _ _ => False)⟩ pl26 Tryd.f26 [.string s1] w [(.one (.int .i64))] (fun s w => R s w) = S26 s1 w R := by kernel_rfl
  exact (fn_calls okF okM Tryd.func26 (by kernel_rfl) (by kernel_rfl) (e.mpr h)).mono fun _ _ ⟨s, he, hR⟩ => ⟨s, he, hR⟩

/-- foliant/zlib.Unwrap -/
def S16 (s1 : ByteArray) (most2 : Int) (w : World) (R : ByteArray → Int → World → Prop) : Prop :=
  C26 s1 w fun r5 vw6 =>
    Br (r5 != 0) (R (⟨#[]⟩ : ByteArray) r5 vw6) (0 ≤ (2 : Int) ∧ (2 : Int) ≤ (((s1).size : Nat) : Int) ∧ C17 (s1.extract (((2 : Int)).toNat) ((s1).size)) most2 vw6 fun r7 r8 r9 vw10 =>
        Br (r9 != 0) (R (⟨#[]⟩ : ByteArray) r9 vw10) (Lt (decide ((IntKind.i64.wrap ((((s1.extract (((2 : Int)).toNat) ((s1).size)).size : Nat) : Int) - r8)) < 4)) fun (x11 : Bool) =>
          Br x11 (R (⟨#[]⟩ : ByteArray) 4 vw10) (0 ≤ (IntKind.i64.wrap (r8 + 4)) ∧ (IntKind.i64.wrap (r8 + 4)) ≤ (((s1.extract (((2 : Int)).toNat) ((s1).size)).size : Nat) : Int) ∧ 0 ≤ r8 ∧ r8 ≤ (((IntKind.i64.wrap (r8 + 4)).toNat : Nat) : Int) ∧ C9 r7 vw10.drew fun r12 vw13 =>
              C21 r12 vw13 fun r14 vw15 =>
                Br (!(((s1.extract (((2 : Int)).toNat) ((s1).size)).extract ((r8).toNat) ((IntKind.i64.wrap (r8 + 4)).toNat)).toList == r14.toList)) (R (⟨#[]⟩ : ByteArray) 12 vw15) (R r7 0 vw15))))
def pl16 : Plan := (.seq (.reg .seq) (.seq (.seq (.reg .seq) (.seq (.reg .seq) (.cond (.seq (.reg .seq) .leaf) .leaf))) (.seq (.reg .seq) (.seq (.reg .seq) (.seq (.block (.seq (.reg .seq) (.cond (.seq (.reg .seq) .leaf) (.seq (.reg .seq) (.cond (.seq (.reg .seq) .leaf) (.seq (.reg (.held [6] (.take 0 (.take 1 (.take 2 (.take 3 (.take 4 (.take 5 (.eff 6 (some [7]) (.eff 7 (some []) (.take 8 (.take 9 .done)))))))))))) (.cond (.seq (.reg .seq) .leaf) .leaf))))))) (.seq (.reg .seq) .leaf))))))
set_option maxRecDepth 100000 in
theorem T16 (s1 : ByteArray) (most2 : Int) (w : World) (R : ByteArray → Int → World → Prop) (h : S16 s1 most2 w R) : C16 s1 most2 w R := by
  have e : fnT Tryd.prog ⟨FF, MAY, (fun _ _ => False)⟩ pl16 Tryd.f16 [.string s1, .int .i64 most2] w [(.one .str), (.one (.int .i64))] (fun s w => R s.1 s.2 w) = S16 s1 most2 w R := by kernel_rfl
  exact (fn_calls okF okM Tryd.func16 (by kernel_rfl) (by kernel_rfl) (e.mpr h)).mono fun _ _ ⟨s, he, hR⟩ => ⟨s.1, s.2, he, hR⟩

/-- foliant/foliantlaw13.lives -/
def S8 (w : World) (R : Bool → World → Prop) (PR : Value → World → Prop) : Prop :=
  C13 (⟨#[87, 105, 107, 105, 112, 101, 100, 105, 97]⟩ : ByteArray) 0 w (fun r1 r2 vw3 =>
    (((r1).size + ((⟨#[120]⟩ : ByteArray)).size : Nat) : Int) ≤ IntKind.i64.max ∧ C16 (r1 ++ (⟨#[120]⟩ : ByteArray)) 9 vw3 fun r4 r5 vw6 =>
      C16 (⟨#[120]⟩ : ByteArray) 9 vw6 fun r7 r8 vw9 =>
        C16 (⟨#[120, 157]⟩ : ByteArray) 9 vw9 fun r10 r11 vw12 =>
          C13 (⟨#[97]⟩ : ByteArray) 3 vw12 (fun r13 r14 vw15 =>
            C9 (⟨#[]⟩ : ByteArray) vw15 fun r16 vw17 =>
              Br (r16 == 1) (C9 (⟨#[87, 105, 107, 105, 112, 101, 100, 105, 97]⟩ : ByteArray) vw17 fun r18 vw19 =>
                  Br (r18 == 300286872) (C11 1 (⟨#[87, 105, 107, 105]⟩ : ByteArray) vw19 fun r20 vw21 =>
                      C9 (⟨#[87, 105, 107, 105]⟩ : ByteArray) vw21 fun r22 vw23 =>
                        Br (r20 == r22) (Br (r2 == 0) (Br ((((r1).size : Nat) : Int) == 20) (0 ≤ (2 : Int) ∧ (2 : Int) ≤ (((r1).size : Nat) : Int) ∧ Br ((r1.extract 0 (((2 : Int)).toNat)).toList == (⟨#[120, 156]⟩ : ByteArray).toList) (0 ≤ (16 : Int) ∧ (16 : Int) ≤ (((r1).size : Nat) : Int) ∧ Lt (((r1.extract (((16 : Int)).toNat) ((r1).size)).toList == (⟨#[17, 230, 3, 152]⟩ : ByteArray).toList)) fun (x24 : Bool) =>
                                Br x24 (Br (r4.toList == (⟨#[87, 105, 107, 105, 112, 101, 100, 105, 97]⟩ : ByteArray).toList) (Br (r5 == 0) (Br (r8 == 4) (Br (r11 == 3) (R (r14 == 1) vw23) (R false vw23)) (R false vw23)) (R false vw23)) (R false vw23)) (R false vw23)) (R false vw23)) (R false vw23)) (R false vw23)) (R false vw23)) (R false vw19)) (R false vw17)) PR) PR
def pl8 : Plan := (.seq (.reg .seq) (.seq (.reg .seq) (.seq (.reg .seq) (.seq (.reg .seq) (.seq (.reg .seq) (.seq (.reg .seq) (.seq (.reg .seq) .leaf)))))))
set_option maxRecDepth 100000 in
theorem T8 (w : World) (R : Bool → World → Prop) (PR : Value → World → Prop) (h : S8 w R PR) : C8 w R PR := by
  have e : fnT Tryd.prog ⟨FF, MAY, PR⟩ pl8 Tryd.f8 [] w [(.one .bool)] (fun s w => R s w) = S8 w R PR := by kernel_rfl
  exact (fn_callsP okF okM Tryd.func8 (by kernel_rfl) (by kernel_rfl) (e.mpr h)).mono fun _ _ he => he.elim (fun ⟨s, he, hR⟩ => .inl ⟨s, he, hR⟩) .inr

/-- foliant/foliantlaw13.ZlibSums -/
def S3 (sum1 : Int) (s2 : ByteArray) (t3 : ByteArray) (w : World) (R : Bool → World → Prop) (PR : Value → World → Prop) : Prop :=
  Br (decide ((((s2).size : Nat) : Int) > 3000)) (C8 w (fun r8 vw9 =>
      R r8 vw9) PR) (Br (decide ((((t3).size : Nat) : Int) > 3000)) (C8 w (fun r10 vw11 =>
        R r10 vw11) PR) (C9 s2 w fun r12 vw13 =>
        C10 s2 vw13 fun r14 vw15 =>
          Br (r12 == r14) (C11 sum1 s2 vw15 fun r16 vw17 =>
              C12 sum1 s2 vw17 fun r18 vw19 =>
                Br (r16 == r18) (C9 s2 vw19 fun r20 vw21 =>
                    C11 r20 t3 vw21 fun r22 vw23 =>
                      (((s2).size + (t3).size : Nat) : Int) ≤ IntKind.i64.max ∧ C9 (s2 ++ t3) vw23 fun r24 vw25 =>
                        Br (r22 == r24) (C8 vw25 (fun r26 vw27 =>
                            R r26 vw27) PR) (R false vw25)) (R false vw19)) (R false vw15)))
def pl3 : Plan := (.seq (.reg .seq) (.seq (.seq (.reg .seq) (.cond (.seq (.reg .seq) .leaf) .leaf)) (.seq (.reg .seq) .leaf)))
set_option maxRecDepth 100000 in
theorem T3 (sum1 : Int) (s2 : ByteArray) (t3 : ByteArray) (w : World) (R : Bool → World → Prop) (PR : Value → World → Prop) (h : S3 sum1 s2 t3 w R PR) : C3 sum1 s2 t3 w R PR := by
  have e : fnT Tryd.prog ⟨FF, MAY, PR⟩ pl3 Tryd.f3 [.int .u32 sum1, .string s2, .string t3] w [(.one .bool)] (fun s w => R s w) = S3 sum1 s2 t3 w R PR := by kernel_rfl
  exact (fn_callsP okF okM Tryd.func3 (by kernel_rfl) (by kernel_rfl) (e.mpr h)).mono fun _ _ he => he.elim (fun ⟨s, he, hR⟩ => .inl ⟨s, he, hR⟩) .inr

/-- foliant/foliantlaw13.ZlibBack -/
def S4 (s1 : ByteArray) (level2 : Int) (behind3 : ByteArray) (w : World) (R : Bool → World → Prop) (PR : Value → World → Prop) : Prop :=
  Br (decide ((((s1).size : Nat) : Int) > 2000)) (C8 w (fun r8 vw9 =>
      R r8 vw9) PR) (Br (decide ((((behind3).size : Nat) : Int) > 200)) (C8 w (fun r10 vw11 =>
        R r10 vw11) PR) (C13 s1 level2 w (fun r12 r13 vw14 =>
        C14 s1 level2 vw14 (fun r15 r16 vw17 =>
          Br (r16 != 0) (Br (r13 == r16) (Br (r12.toList == (⟨#[]⟩ : ByteArray).toList) (Br (decide (level2 < 0)) (C8 vw17 (fun r26 vw27 =>
                    R r26 vw27) PR) (Br (decide (level2 > 2)) (C8 vw17 (fun r28 vw29 =>
                      R r28 vw29) PR) (R false vw17))) (R false vw17)) (R false vw17)) (Br (r13 != 0) (Br (r13 == r16) (Br (r12.toList == (⟨#[]⟩ : ByteArray).toList) (Br (decide (level2 < 0)) (C8 vw17 (fun r30 vw31 =>
                      R r30 vw31) PR) (Br (decide (level2 > 2)) (C8 vw17 (fun r32 vw33 =>
                        R r32 vw33) PR) (R false vw17))) (R false vw17)) (R false vw17)) (((((⟨#[120, 156]⟩ : ByteArray)).size + (r15).size : Nat) : Int) ≤ IntKind.i64.max ∧ C10 s1 vw17 fun r38 vw39 =>
                C15 r38 vw39 fun r40 vw41 =>
                  ((((⟨#[120, 156]⟩ : ByteArray) ++ r15).size + (r40).size : Nat) : Int) ≤ IntKind.i64.max ∧ Br (!(r12.toList == (((⟨#[120, 156]⟩ : ByteArray) ++ r15) ++ r40).toList)) (R false vw41) (Br ((((r12).size : Nat) : Int) == 0) (R false vw41) ((((r12).size + (behind3).size : Nat) : Int) ≤ IntKind.i64.max ∧ C16 (r12 ++ behind3) (((s1).size : Nat) : Int) vw41 fun r42 r43 vw44 =>
                        0 ≤ (IntKind.i64.wrap ((((r12).size : Nat) : Int) - 1)) ∧ (IntKind.i64.wrap ((((r12).size : Nat) : Int) - 1)) ≤ (((r12).size : Nat) : Int) ∧ C16 (r12.extract 0 ((IntKind.i64.wrap ((((r12).size : Nat) : Int) - 1)).toNat)) (((s1).size : Nat) : Int) vw44 fun r45 r46 vw47 =>
                          Br (r42.toList == s1.toList) (Br (r43 == 0) (Br (r45.toList == (⟨#[]⟩ : ByteArray).toList) (Br (r46 == 4) (C8 vw47 (fun r48 vw49 =>
                                    R r48 vw49) PR) (R false vw47)) (R false vw47)) (R false vw47)) (R false vw47)))))) PR) PR))
def pl4 : Plan := (.seq (.reg .seq) (.seq (.seq (.reg .seq) (.cond (.seq (.reg .seq) .leaf) .leaf)) (.seq (.reg .seq) (.seq (.reg .seq) (.seq (.seq (.reg .seq) (.cond (.seq (.reg .seq) .leaf) .leaf)) (.seq (.seq (.reg .seq) (.cond (.seq (.reg .seq) .leaf) .leaf)) (.seq (.seq (.reg .seq) (.cond (.seq (.reg .seq) .leaf) .leaf)) (.seq (.reg .seq) (.seq (.reg .seq) (.seq (.reg .seq) .leaf))))))))))
set_option maxRecDepth 100000 in
theorem T4 (s1 : ByteArray) (level2 : Int) (behind3 : ByteArray) (w : World) (R : Bool → World → Prop) (PR : Value → World → Prop) (h : S4 s1 level2 behind3 w R PR) : C4 s1 level2 behind3 w R PR := by
  have e : fnT Tryd.prog ⟨FF, MAY, PR⟩ pl4 Tryd.f4 [.string s1, .int .i64 level2, .string behind3] w [(.one .bool)] (fun s w => R s w) = S4 s1 level2 behind3 w R PR := by kernel_rfl
  exact (fn_callsP okF okM Tryd.func4 (by kernel_rfl) (by kernel_rfl) (e.mpr h)).mono fun _ _ he => he.elim (fun ⟨s, he, hR⟩ => .inl ⟨s, he, hR⟩) .inr

def S5J1 (s1 : ByteArray) (c4 : Int) (r9 : ByteArray) (R : Bool → World → Prop) (PR : Value → World → Prop) (s33 : Unit) (vw34 : World) : Prop :=
  0 ≤ (1 : Int) ∧ (1 : Int) ≤ (((r9).size : Nat) : Int) ∧ 0 ≤ (2 : Int) ∧ (2 : Int) ≤ (((r9).size : Nat) : Int) ∧ Nw vw34.drew (.cells #[.int .u8 c4] 5) fun vw35 =>
  Rn Tryd.prog (convert 32 9 (Slc.v ((⟨some ⟨vw34.drew.heap.size, 0, none⟩, 1, 1⟩ : Slc)))) vw35 Value.string fun (x36 : ByteArray) vw37 =>
  (((r9.extract 0 (((1 : Int)).toNat)).size + (x36).size : Nat) : Int) ≤ IntKind.i64.max ∧ ((((r9.extract 0 (((1 : Int)).toNat)) ++ x36).size + (r9.extract (((2 : Int)).toNat) ((r9).size)).size : Nat) : Int) ≤ IntKind.i64.max ∧ C16 (((r9.extract 0 (((1 : Int)).toNat)) ++ x36) ++ (r9.extract (((2 : Int)).toNat) ((r9).size))) (((s1).size : Nat) : Int) vw37 fun r38 r39 vw40 =>
    Br (r38.toList == s1.toList) (Br (r39 == 0) (Br (c4 != 156) (C8 vw40 (fun r41 vw42 =>
            R r41 vw42) PR) (Br (r39 == 0) (C8 vw40 (fun r43 vw44 =>
              R r43 vw44) PR) (R false vw40))) (Br (r38.toList == (⟨#[]⟩ : ByteArray).toList) (Br (r39 == 3) (Br (c4 != 156) (C8 vw40 (fun r45 vw46 =>
                R r45 vw46) PR) (Br (r39 == 0) (C8 vw40 (fun r47 vw48 =>
                  R r47 vw48) PR) (R false vw40))) (R false vw40)) (R false vw40))) (Br (r38.toList == (⟨#[]⟩ : ByteArray).toList) (Br (r39 == 3) (Br (c4 != 156) (C8 vw40 (fun r49 vw50 =>
              R r49 vw50) PR) (Br (r39 == 0) (C8 vw40 (fun r51 vw52 =>
                R r51 vw52) PR) (R false vw40))) (R false vw40)) (R false vw40))
/-- foliant/foliantlaw13.ZlibSpoilt -/
def S5 (s1 : ByteArray) (level2 : Int) (vat3 : Int) (c4 : Int) (w : World) (R : Bool → World → Prop) (PR : Value → World → Prop) : Prop :=
  Br (decide ((((s1).size : Nat) : Int) > 1000)) (C8 w (fun r7 vw8 =>
      R r7 vw8) PR) (C13 s1 level2 w (fun r9 r10 vw11 =>
      Br (r10 != 0) (C8 vw11 (fun r18 vw19 =>
          R r18 vw19) PR) (Br (decide (vat3 < 0)) (C8 vw11 (fun r20 vw21 =>
            R r20 vw21) PR) (Br (decide (vat3 > 3)) (C8 vw11 (fun r22 vw23 =>
              R r22 vw23) PR) (Br (decide ((((r9).size : Nat) : Int) < 6)) (R false vw11) (0 ≤ (IntKind.i64.wrap ((IntKind.i64.wrap ((((r9).size : Nat) : Int) - 4)) + vat3)) ∧ (IntKind.i64.wrap ((IntKind.i64.wrap ((((r9).size : Nat) : Int) - 4)) + vat3)) ≤ (((r9).size : Nat) : Int) ∧ 0 ≤ (IntKind.i64.wrap ((IntKind.i64.wrap ((IntKind.i64.wrap ((((r9).size : Nat) : Int) - 4)) + vat3)) + 1)) ∧ (IntKind.i64.wrap ((IntKind.i64.wrap ((IntKind.i64.wrap ((((r9).size : Nat) : Int) - 4)) + vat3)) + 1)) ≤ (((r9).size : Nat) : Int) ∧ Nw vw11.drew (.cells #[.int .u8 c4] 5) fun vw24 =>
              Rn Tryd.prog (convert 32 9 (Slc.v ((⟨some ⟨vw11.drew.heap.size, 0, none⟩, 1, 1⟩ : Slc)))) vw24 Value.string fun (x25 : ByteArray) vw26 =>
              (((r9.extract 0 ((IntKind.i64.wrap ((IntKind.i64.wrap ((((r9).size : Nat) : Int) - 4)) + vat3)).toNat)).size + (x25).size : Nat) : Int) ≤ IntKind.i64.max ∧ ((((r9.extract 0 ((IntKind.i64.wrap ((IntKind.i64.wrap ((((r9).size : Nat) : Int) - 4)) + vat3)).toNat)) ++ x25).size + (r9.extract ((IntKind.i64.wrap ((IntKind.i64.wrap ((IntKind.i64.wrap ((((r9).size : Nat) : Int) - 4)) + vat3)) + 1)).toNat) ((r9).size)).size : Nat) : Int) ≤ IntKind.i64.max ∧ C16 (((r9.extract 0 ((IntKind.i64.wrap ((IntKind.i64.wrap ((((r9).size : Nat) : Int) - 4)) + vat3)).toNat)) ++ x25) ++ (r9.extract ((IntKind.i64.wrap ((IntKind.i64.wrap ((IntKind.i64.wrap ((((r9).size : Nat) : Int) - 4)) + vat3)) + 1)).toNat) ((r9).size))) (((s1).size : Nat) : Int) vw26 fun r27 r28 vw29 =>
                Join (S5J1 s1 c4 r9 R PR) fun (vJ53 : Unit → World → Prop) =>
                  0 ≤ (IntKind.i64.wrap ((IntKind.i64.wrap ((((r9).size : Nat) : Int) - 4)) + vat3)) ∧ (IntKind.i64.wrap ((IntKind.i64.wrap ((((r9).size : Nat) : Int) - 4)) + vat3)) < ((r9).size : Nat) ∧ Lt ((bAt r9 (IntKind.i64.wrap ((IntKind.i64.wrap ((((r9).size : Nat) : Int) - 4)) + vat3))) == c4) fun (x54 : Bool) =>
                  Br x54 (Br (!(r27.toList == s1.toList)) (R false vw29) (Br (r28 != 0) (R false vw29) (0 ≤ (IntKind.i64.wrap ((IntKind.i64.wrap ((((r9).size : Nat) : Int) - 4)) + vat3)) ∧ (IntKind.i64.wrap ((IntKind.i64.wrap ((((r9).size : Nat) : Int) - 4)) + vat3)) < ((r9).size : Nat) ∧ Lt ((bAt r9 (IntKind.i64.wrap ((IntKind.i64.wrap ((((r9).size : Nat) : Int) - 4)) + vat3))) != c4) fun (x55 : Bool) =>
                        Br x55 (Br (!(r27.toList == (⟨#[]⟩ : ByteArray).toList)) (R false vw29) (Br (r28 != 12) (R false vw29) (vJ53 () vw29))) (vJ53 () vw29)))) (0 ≤ (IntKind.i64.wrap ((IntKind.i64.wrap ((((r9).size : Nat) : Int) - 4)) + vat3)) ∧ (IntKind.i64.wrap ((IntKind.i64.wrap ((((r9).size : Nat) : Int) - 4)) + vat3)) < ((r9).size : Nat) ∧ Lt ((bAt r9 (IntKind.i64.wrap ((IntKind.i64.wrap ((((r9).size : Nat) : Int) - 4)) + vat3))) != c4) fun (x56 : Bool) =>
                    Br x56 (Br (!(r27.toList == (⟨#[]⟩ : ByteArray).toList)) (R false vw29) (Br (r28 != 12) (R false vw29) (vJ53 () vw29))) (vJ53 () vw29))))))) PR)
def pl5 : Plan := (.seq (.reg .seq) (.seq (.seq (.reg .seq) (.cond (.seq (.reg .seq) .leaf) .leaf)) (.seq (.reg .seq) (.seq (.seq (.reg .seq) (.cond (.seq (.reg .seq) .leaf) .leaf)) (.seq (.seq (.reg .seq) (.cond (.seq (.reg .seq) .leaf) .leaf)) (.seq (.reg .seq) (.seq (.reg (.held [4] (.take 0 (.take 1 (.take 2 (.take 3 (.take 7 (.take 8 (.take 9 (.take 10 (.take 12 (.take 13 (.eff 4 (some [5]) (.eff 5 (some [14]) (.take 6 (.take 11 (.eff 14 (some []) (.take 15 (.take 16 (.take 17 (.take 18 (.take 19 .done)))))))))))))))))))))) (.join [] [0, 3, 9] (.seq (.reg .seq) (.cond (.seq (.reg .seq) .leaf) .leaf)) (.seq (.reg (.held [3] (.take 0 (.take 1 (.take 2 (.take 6 (.take 7 (.take 9 (.take 10 (.eff 3 (some [4]) (.eff 4 (some [11]) (.take 5 (.take 8 (.eff 11 (some []) (.take 12 (.take 13 (.take 14 (.take 15 (.take 16 .done))))))))))))))))))) (.seq (.reg .seq) .leaf))))))))))
set_option maxRecDepth 100000 in
theorem T5 (s1 : ByteArray) (level2 : Int) (vat3 : Int) (c4 : Int) (w : World) (R : Bool → World → Prop) (PR : Value → World → Prop) (h : S5 s1 level2 vat3 c4 w R PR) : C5 s1 level2 vat3 c4 w R PR := by
  have e : fnT Tryd.prog ⟨FF, MAY, PR⟩ pl5 Tryd.f5 [.string s1, .int .i64 level2, .int .i64 vat3, .int .u8 c4] w [(.one .bool)] (fun s w => R s w) = S5 s1 level2 vat3 c4 w R PR := by kernel_rfl
  exact (fn_callsP okF okM Tryd.func5 (by kernel_rfl) (by kernel_rfl) (e.mpr h)).mono fun _ _ he => he.elim (fun ⟨s, he, hR⟩ => .inl ⟨s, he, hR⟩) .inr

def S6J1 (s1 : ByteArray) (s8 : Int) (I10 : Int → World → Prop) (r11 : ByteArray) (R : Bool → World → Prop) (s22 : Unit) (vw23 : World) : Prop :=
  Br (decide ((((s1).size : Nat) : Int) > 0)) (C17 r11 (IntKind.i64.wrap ((((s1).size : Nat) : Int) - 1)) vw23 fun r24 r25 r26 vw27 =>
      Br (r26 != 5) (R false vw27) (I10 (IntKind.i64.wrap (s8 + 1)) vw27)) (I10 (IntKind.i64.wrap (s8 + 1)) vw23)
def S6L1 (s1 : ByteArray) (more2 : ByteArray) (cut3 : Int) (R : Bool → World → Prop) (PR : Value → World → Prop) (I10 : Int → World → Prop) (s8 : Int) (vw9 : World) : Prop :=
  Br (decide (s8 ≤ 2)) (C14 s1 s8 vw9 (fun r11 r12 vw13 =>
      (((r11).size + (more2).size : Nat) : Int) ≤ IntKind.i64.max ∧ C17 (r11 ++ more2) (((s1).size : Nat) : Int) vw13 fun r14 r15 r16 vw17 =>
        Br (r12 != 0) (R false vw17) (Br (r16 != 0) (R false vw17) (Br (!(r14.toList == s1.toList)) (R false vw17) (Br (r15 != (((r11).size : Nat) : Int)) (R false vw17) (Join (S6J1 s1 s8 I10 r11 R) fun (vJ28 : Unit → World → Prop) =>
                  Br (decide (cut3 ≥ 0)) (Br (decide (cut3 < (((r11).size : Nat) : Int))) (0 ≤ cut3 ∧ cut3 ≤ (((r11).size : Nat) : Int) ∧ C17 (r11.extract 0 ((cut3).toNat)) (((s1).size : Nat) : Int) vw17 fun r29 r30 r31 vw32 =>
                        Br (r31 != 4) (R false vw32) (vJ28 () vw32)) (vJ28 () vw17)) (vJ28 () vw17)))))) PR) (R true vw9)
/-- foliant/folianttop.TopFlate -/
def S6 (s1 : ByteArray) (more2 : ByteArray) (cut3 : Int) (w : World) (R : Bool → World → Prop) (PR : Value → World → Prop) : Prop :=
  C17 (⟨#[3, 0]⟩ : ByteArray) 9 w fun r4 r5 r6 vw7 =>
    Br (!(r4.toList == (⟨#[]⟩ : ByteArray).toList)) (R false vw7) (Br (r5 != 2) (R false vw7) (Br (r6 != 0) (R false vw7) (Br (decide ((((s1).size : Nat) : Int) > 3000)) (R true vw7) (Br (decide ((((more2).size : Nat) : Int) > 300)) (R true vw7) (Lp (σ := Int) (S6L1 s1 more2 cut3 R PR) 0 vw7)))))
def pl6 : Plan := (.seq (.reg .seq) (.seq (.reg .seq) (.seq (.seq (.reg .seq) (.cond (.seq (.reg .seq) .leaf) .leaf)) (.seq (.seq (.reg .seq) (.cond (.seq (.reg .seq) .leaf) .leaf)) (.seq (.seq (.reg .seq) (.block (.loop [(10, (.one (.int .i64)))] [0, 1, 2] (.seq (.seq (.reg .seq) (.cond .leaf .leaf)) (.seq (.block (.seq (.reg .seq) (.seq (.reg .seq) (.seq (.seq (.reg .seq) (.cond (.seq (.reg .seq) .leaf) .leaf)) (.join [] [0, 1, 2, 10, 11] (.seq (.reg .seq) (.cond (.seq (.reg .seq) (.seq (.reg .seq) (.cond (.seq (.reg .seq) .leaf) .leaf))) .leaf)) (.seq (.reg .seq) (.cond (.seq (.reg .seq) (.seq (.reg .seq) (.cond (.seq (.reg .seq) .leaf) .leaf))) .leaf))))))) (.reg .seq)))))) (.seq (.reg .seq) .leaf))))))
set_option maxRecDepth 100000 in
theorem T6 (s1 : ByteArray) (more2 : ByteArray) (cut3 : Int) (w : World) (R : Bool → World → Prop) (PR : Value → World → Prop) (h : S6 s1 more2 cut3 w R PR) : C6 s1 more2 cut3 w R PR := by
  have e : fnT Tryd.prog ⟨FF, MAY, PR⟩ pl6 Tryd.f6 [.string s1, .string more2, .int .i64 cut3] w [(.one .bool)] (fun s w => R s w) = S6 s1 more2 cut3 w R PR := by kernel_rfl
  exact (fn_callsP okF okM Tryd.func6 (by kernel_rfl) (by kernel_rfl) (e.mpr h)).mono fun _ _ he => he.elim (fun ⟨s, he, hR⟩ => .inl ⟨s, he, hR⟩) .inr

def S7L1 (s1 : ByteArray) (r14 : Slc) (r16 : ByteArray) (r17 : Int) (R : Bool → World → Prop) (PR : Value → World → Prop) (I33 : (Int × Int) → World → Prop) (s31 : Int × Int) (vw32 : World) : Prop :=
  Br (decide (s31.2 < ((r14.len : Nat) : Int))) (0 ≤ s31.2 ∧ s31.2 < (r14.len : Nat) ∧ Nn r14.p fun a34 =>
    Ld vw32 (a34.add ((s31.2).toNat * 3)) (Value.int .u8) fun (x35 : Int) =>
    Ld vw32 ((a34.add ((s31.2).toNat * 3)).add 1) (Value.int .i64) fun (x36 : Int) =>
    Ld vw32 ((a34.add ((s31.2).toNat * 3)).add 2) (Value.int .i64) fun (x37 : Int) =>
    Nw vw32 (.cells #[.int .u8 0, .int .i64 0, .int .i64 0] 40) fun vw38 =>
    St vw38 (⟨vw32.heap.size, 0, none⟩ : Addr) (.int .u8 x35) fun vw39 =>
    St vw39 ((⟨vw32.heap.size, 0, none⟩ : Addr).add 1) (.int .i64 x36) fun vw40 =>
    St vw40 ((⟨vw32.heap.size, 0, none⟩ : Addr).add 2) (.int .i64 x37) fun vw41 =>
    Ld vw41 ((⟨vw32.heap.size, 0, none⟩ : Addr).add 1) (Value.int .i64) fun (x42 : Int) =>
    I33 (IntKind.i64.wrap (s31.1 + (if 1 > x42 then 1 else x42)), IntKind.i64.wrap (s31.2 + 1)) vw41) (Br (r17 != 0) (R false vw32) (Br (!(r16.toList == s1.toList)) (R false vw32) (Br (s31.1 != (((s1).size : Nat) : Int)) (R false vw32) ((((s1).size + (s1).size : Nat) : Int) ≤ IntKind.i64.max ∧ C14 (s1 ++ s1) 2 vw32 (fun r43 r44 vw45 =>
            C17 r43 (IntKind.i64.wrap (2 * (((s1).size : Nat) : Int))) vw45 fun r46 r47 r48 vw49 =>
              Br (r44 == 0) (Br (r48 == 0) ((((s1).size + (s1).size : Nat) : Int) ≤ IntKind.i64.max ∧ R (r46.toList == (s1 ++ s1).toList) vw49) (R false vw49)) (R false vw49)) PR))))
/-- foliant/folianttop.TopCopies -/
def S7 (s1 : ByteArray) (w : World) (R : Bool → World → Prop) (PR : Value → World → Prop) : Prop :=
  C18 (⟨#[97, 98, 99, 97, 98, 99]⟩ : ByteArray) w fun r8 vw9 =>
    Br (((r8.len : Nat) : Int) != 4) (R false vw9) (0 ≤ (3 : Int) ∧ (3 : Int) < (r8.len : Nat) ∧ Nn r8.p fun a10 =>
      Ld vw9 ((a10.add (((3 : Int)).toNat * 3)).add 1) (Value.int .i64) fun (x11 : Int) =>
      Br (x11 != 3) (R false vw9) (0 ≤ (3 : Int) ∧ (3 : Int) < (r8.len : Nat) ∧ Nn r8.p fun a12 =>
        Ld vw9 ((a12.add (((3 : Int)).toNat * 3)).add 2) (Value.int .i64) fun (x13 : Int) =>
        Br (x13 != 3) (R false vw9) (Br (decide ((((s1).size : Nat) : Int) > 1500)) (R true vw9) (C18 s1 vw9 fun r14 vw15 =>
              C19 r14 vw15 fun r16 r17 vw18 =>
                Lp (σ := Int × Int) (S7L1 s1 r14 r16 r17 R PR) (0, 0) vw18))))
def pl7 : Plan := (.seq (.reg .seq) (.seq (.seq (.reg .seq) (.seq (.reg .seq) (.cond (.seq (.reg .seq) .leaf) .leaf))) (.seq (.seq (.reg .seq) (.cond (.seq (.reg .seq) .leaf) .leaf)) (.seq (.reg .seq) (.seq (.reg .seq) (.seq (.reg .seq) (.seq (.seq (.reg .seq) (.block (.loop [(7, (.one (.int .i64))), (45, (.one (.int .i64)))] [0, 5, 6, 43, 44] (.seq (.reg .seq) (.seq (.cond .leaf .leaf) (.seq (.block (.seq (.reg .seq) (.reg .seq))) (.reg .seq))))))) (.seq (.seq (.reg .seq) (.cond (.seq (.reg .seq) .leaf) .leaf)) (.seq (.reg .seq) (.seq (.reg .seq) (.seq (.reg .seq) .leaf)))))))))))
set_option maxRecDepth 100000 in
theorem T7 (s1 : ByteArray) (w : World) (R : Bool → World → Prop) (PR : Value → World → Prop) (h : S7 s1 w R PR) : C7 s1 w R PR := by
  have e : fnT Tryd.prog ⟨FF, MAY, PR⟩ pl7 Tryd.f7 [.string s1] w [(.one .bool)] (fun s w => R s w) = S7 s1 w R PR := by kernel_rfl
  exact (fn_callsP okF okM Tryd.func7 (by kernel_rfl) (by kernel_rfl) (e.mpr h)).mono fun _ _ he => he.elim (fun ⟨s, he, hR⟩ => .inl ⟨s, he, hR⟩) .inr

end Go.Proofs.YtjkoafjnmkchdaaDoor

/- TopFlate: what is deflated is inflated again. Conditions: sizes; the laid variables. -/
namespace Go.Proofs.YtjkoafjnmkchdaaDoor
namespace Inf
open Sh Bit
set_option linter.unusedVariables false
set_option linter.unusedSimpArgs false
set_option maxRecDepth 4000
set_option maxHeartbeats 1000000
attribute [local irreducible] Ld St Nw Nn Lt LdS
theorem Laid.to {N : Nat} {w w' : World} (h : Laid N w) (he : Ext (fun _ => False) w w') : Laid N w' := h.keep he fun _ h => h.elim
theorem all30 : allR ⟨#[3, 0]⟩ 9 = (⟨#[]⟩, 2, 0) := by decide +kernel
theorem flate_law (S more : ByteArray) (cut : Int) {N : Nat} {w : World} (hL : Laid N w) : C6 S more cut w (fun r w1 => r = true ∧ Ext (fun _ => False) w w1) (fun _ _ => False) := by
  have hsz : S.data.toList.length = S.size := (size_list S).symm
  refine T6 _ _ _ _ _ _ ?_
  unfold S6
  refine (c_All (s := ⟨#[3, 0]⟩) (by show 2 ≤ 1000000; omega) hL 9).mono ?_
  rintro r4 r5 r6 w7 ⟨h, e7⟩
  rw [all30] at h
  simp only [Prod.mk.injEq] at h
  obtain ⟨rfl, rfl, rfl⟩ := h
  refine Br.f (by rw [beq_self_eq_true]; rfl) (Br.ne (fun h => absurd rfl h) fun _ => Br.ne (fun h => absurd rfl h) fun _ => Br.dec (fun _ => ⟨rfl, e7⟩) fun q1 => Br.dec (fun _ => ⟨rfl, e7⟩) fun q2 => ?_)
  refine ⟨fun m st w3 => ∃ i : Nat, st = (i : Int) ∧ m = 4 - i ∧ i ≤ 3 ∧ Ext (fun _ => False) w w3, 4, ⟨0, rfl, rfl, by decide, e7⟩, ?_⟩
  rintro m st w9 ⟨i, rfl, rfl, hi, e9⟩
  unfold S6L1
  refine Br.dec (fun q3 => ?_) fun q3 => ⟨rfl, e9⟩
  refine (c_AllW (S := S) (by omega) (lv := (i : Int)) (by omega) (by omega) w9).mono ?_ fun _ _ h => h
  rintro r e w13 ⟨rfl, ⟨T, rfl, g, h1, h2⟩, e13⟩
  have hR := Gives.allR g (by omega) (most := ((S.size : Nat) : Int)) (by omega)
  have eS : (⟨S.data.toList.toArray⟩ : ByteArray) = S := ba_ext (by simp)
  rw [eS] at hR
  have hmax : IntKind.i64.max = 9223372036854775807 := rfl
  have L13 := hL.to (e9.tr e13)
  obtain ⟨u, hu, _, _, _, hplain, _⟩ := ends_plain hR.symm
  have hu : u = T.length := by omega
  subst hu
  have hex : (⟨T.toArray⟩ : ByteArray).extract 0 T.length = ⟨T.toArray⟩ := ba_ext (by rw [extract_list]; simp)
  have hm := hplain more 0 (by decide)
  rw [hex, Int.add_zero] at hm
  refine ⟨?_, ?_⟩
  · rw [size_mk, hmax]; omega
  have hbig : ((⟨T.toArray⟩ : ByteArray) ++ more).size ≤ 1000000 := by rw [ByteArray.size_append, size_mk]; omega
  generalize (⟨T.toArray⟩ : ByteArray) ++ more = U at hm hbig ⊢
  refine (c_All (s := U) hbig L13 _).mono ?_
  rintro a b c w17 ⟨h, e17⟩
  rw [hm] at h
  simp only [Prod.mk.injEq] at h
  obtain ⟨ha, rfl, rfl⟩ := h
  replace ha := ha.symm
  subst ha
  refine Br.ne (fun h => (h rfl).elim) fun _ => ?_
  refine Br.ne (fun h => (h rfl).elim) fun _ => ?_
  have hbq : (!(S.toList == S.toList)) = false := by simp
  refine Br.f hbq ?_
  have hsm : ((T.length : Nat) : Int) = (((⟨T.toArray⟩ : ByteArray).size : Nat) : Int) := by rw [size_mk]
  refine Br.ne (fun h => (h hsm).elim) fun _ => ?_
  have E17 := (e9.tr e13).tr e17
  have next : ∀ w5, Ext (fun _ => False) w w5 → ∃ n', n' < 4 - i ∧ ∃ i_1 : Nat, IntKind.i64.wrap ((i : Int) + 1) = (i_1 : Int) ∧ n' = 4 - i_1 ∧ i_1 ≤ 3 ∧ Ext (fun _ => False) w w5 := fun w5 e5 =>
    ⟨4 - (i + 1), by omega, i + 1, by rw [i64_id (by omega)]; rfl, rfl, by omega, e5⟩
  refine ⟨fun _ w5 => Ext (fun _ => False) w w5, ?_, ?_⟩
  · rintro _ w5 e5
    unfold S6J1
    refine Br.dec (fun q4 => ?_) fun _ => next w5 e5
    rw [i64_id (n := ((S.size : Nat) : Int) - 1) (by omega)]
    refine (c_All (s := ⟨T.toArray⟩) (by rw [size_mk]; omega) (hL.to e5) _).mono ?_
    rintro a b c w6 ⟨h, e6⟩
    rw [Gives.few g (by omega) (by omega) (by omega)] at h
    simp only [Prod.mk.injEq] at h
    obtain ⟨rfl, rfl, rfl⟩ := h
    exact Br.ne (fun h => absurd rfl h) fun _ => next w6 (e5.tr e6)
  · refine Br.dec (fun q5 => Br.dec (fun q6 => ?_) fun _ => E17) fun _ => E17
    rw [size_mk] at q6
    refine ⟨by omega, by rw [size_mk]; omega, ?_⟩
    have hc := cut_plain (s := ⟨T.toArray⟩) (most := ((S.size : Nat) : Int)) (d := S) (by rw [size_mk]; exact hR.symm) (u := cut.toNat) (by rw [size_mk]; omega)
    refine (c_All (s := (⟨T.toArray⟩ : ByteArray).extract 0 cut.toNat) (by rw [ByteArray.size_extract, size_mk]; omega) (hL.to E17) _).mono ?_
    rintro a b c w6 ⟨h, e6⟩
    rw [hc] at h
    simp only [Prod.mk.injEq] at h
    obtain ⟨rfl, rfl, rfl⟩ := h
    exact Br.ne (fun h => absurd rfl h) fun _ => E17.tr e6
end Inf
end Go.Proofs.YtjkoafjnmkchdaaDoor

/- Inflate: what the laid variables give the walks. Condition: the rows' own list. -/
namespace Go.Proofs.YtjkoafjnmkchdaaDoor
namespace Inf
open Sh Bit
open Go.ChangeShapes Go.WideShapes Go.ChangeAt Go.RowKit Go.WideElems Go.Maps
set_option linter.unusedVariables false
set_option linter.unusedSimpArgs false
set_option maxRecDepth 100000
theorem gOrd : Tryd.prog.globalNamed "foliant/inflate.order" = some 0 := by kernel_rfl
theorem gRep : Tryd.prog.globalNamed "foliant/inflate.repeats" = some 1 := by kernel_rfl
theorem tOrd : (Tryd.prog.globals[0]?).map (·.type) = some 86 := by kernel_rfl
theorem tRep : (Tryd.prog.globals[1]?).map (·.type) = some 143 := by kernel_rfl
theorem undInt : Tryd.prog.underlying 3 = some (.int .i64) := by kernel_rfl
theorem und19 : Tryd.prog.underlying 86 = some (.array 19 3) := by kernel_rfl
theorem undRep : Tryd.prog.underlying 143 = some (.map 3 141) := by kernel_rfl
theorem cInt : Tryd.prog.cellsOf 3 = 1 := by kernel_rfl
theorem c19 : Tryd.prog.cellsOf 86 = 19 := by kernel_rfl
theorem c2 : Tryd.prog.cellsOf 141 = 2 := by kernel_rfl
theorem undR : ∃ f0 f1 : Field, Tryd.prog.underlying 141 = some (.struct #[f0, f1]) ∧ f0.type = 3 ∧ f1.type = 3 ∧ f0.offset = 0 ∧ f1.offset = 1 := by
  refine ⟨⟨"least", 3, 0, false, "", "foliant/inflate", 0⟩, ⟨"more", 3, 1, false, "", "foliant/inflate", 8⟩, by kernel_rfl, rfl, rfl, rfl, rfl⟩
theorem zeroR (w : World) : (zeroValue 141).run Tryd.prog w = .ok (.agg #[.int .i64 0, .int .i64 0]) w := by kernel_rfl
theorem val2 {H : Type} {enc : TypeId × Value → H} {W : World} {base m : Nat} {sp : Nat → Bool} {held : Bool} {v : Value} {y : DataW H × List MemPlace} (h : elemAt enc Tryd.prog W base sp held m 141 v = some y) :
    ∃ a b : Int, v = .agg #[.int .i64 a, .int .i64 b] ∧ y.1 = .agg [.lit (.int .i64 a), .lit (.int .i64 b)] := by
  obtain ⟨f0, f1, hu, t0, t1, o0, o1⟩ := undR
  unfold elemAt at h
  split at h
  · rename_i hf
    obtain ⟨y0, y1, n, rfl, hl, h0, h1⟩ := trod_struct2 hu h
    rw [t0, o0, cInt] at h0
    rw [t1, o1, cInt] at h1
    obtain ⟨a, e0, rfl, _⟩ := DataW.trod_int undInt h0
    obtain ⟨b, e1, rfl, _⟩ := DataW.trod_int undInt h1
    refine ⟨a, b, ?_, rfl⟩
    rw [c2] at hl
    have hcs : v.cells.toList = [.int .i64 a, .int .i64 b] := by
      match hv : v.cells.toList, hl with
      | [c0, c1], _ =>
        rw [hv] at e0 e1
        simp at e0 e1
        rw [e0, e1]
    cases v with
    | agg cs =>
      have : cs.toList = [.int .i64 a, .int .i64 b] := hcs
      congr 1
      exact Array.ext' this
    | _ => simp [Value.formed, hu] at hf
  · cases h
theorem of_laid {W : World} (h : laidMetH Tryd.prog Rows.topFlateRow.laid W) : Laid W.heap.size W := by
  have h : laidMetH Tryd.prog [("foliant/inflate.order", Rows.laid_foliant_inflate_order), ("foliant/inflate.repeats", Rows.laid_foliant_inflate_repeats)] W := h
  rw [MakeChecks.laidMetH_plain _ _ _ (by kernel_rfl)] at h
  have ht := Lib.tabIs_of_head (k := .i64) (zs := [16, 17, 18, 0, 8, 7, 9, 6, 10, 5, 11, 4, 12, 3, 13, 2, 14, 1, 15]) (rest := [("foliant/inflate.repeats", Rows.laid_foliant_inflate_repeats)]) gOrd tOrd und19 undInt cInt c19 h
  obtain ⟨ps, ⟨g0, t0, cs0, f0, p0, q0, hg0, ht0, hv0, hd0, ⟨g1, t1, cs1, f1, p1, q1, hg1, ht1, hv1, hd1, _, _⟩, _⟩, _, _⟩ := h
  obtain rfl := Option.some.inj (gRep.symm.trans hg1)
  obtain rfl := Option.some.inj (tRep.symm.trans ht1)
  rcases Go.WideElems.open_map undRep hd1 with ⟨_, hx⟩ | ⟨bm, es, clock, m, rfl, hcs, hb, _, F, hx⟩
  · simp [Rows.laid_foliant_inflate_repeats] at hx
  simp only [Prod.mk.injEq] at hx
  have hcell : W.cell? ⟨1, 0, none⟩ = some (.map (some bm)) := by
    have := World.var?_cell hg1 hv1 0
    rw [Array.eq_one_of_toList hcs] at this
    simpa using this
  have hz := cell_lt' hcell
  have hz : 1 < W.heap.size := hz
  have hbm := lt_of_block hb
  refine ⟨by omega, Nat.le_refl _, fun i hi => ?_, bm, _, hbm, hb, hcell, fun w' hw' n hn0 hn19 => ?_⟩
  · have hc := ht.cell gOrd i hi
    rw [hc]
    congr 2
    have : ∀ i : Nat, i < 19 → ([16, 17, 18, 0, 8, 7, 9, 6, 10, 5, 11, 4, 12, 3, 13, 2, 14, 1, 15] : List Int).getD i 0 = ((order.getD i 0 : Nat) : Int) := by decide
    first | exact this i hi | (rw [← this i hi]; simp)
  · have key : ∀ d : DataW Unit, (Rows.laid_foliant_inflate_repeats : DataW Unit).atKey (.int .i64 n) .nil = d → (d = .nil → repV n = ((0, 0), false)) → (∀ a b : Int, d = .agg [.lit (.int .i64 a), .lit (.int .i64 b)] → repV n = ((a, b), true)) → RunV Tryd.prog (Instr.lookup 143 (.map (some bm)) (.int .i64 n) true) w' (.tuple #[.agg #[.int .i64 (repV n).1.1, .int .i64 (repV n).1.2], .bool (repV n).2]) w' := fun d hd hA hB => by
      rcases fit_look (w := w') true (int_keyed undInt) undRep (zeroR w') hw' F (keyOf_int_mk undInt (WalkArith.wf_i64 (n := n) ⟨by omega, by omega⟩)) with ⟨hrun, _, hat⟩ | ⟨e0, y, _, _, hrun, hR, hat, _⟩
      · have := hat .nil
        rw [← hx.1, hd] at this
        rw [hA this]
        exact hrun
      · have := hat .nil
        rw [← hx.1, hd] at this
        obtain ⟨a, b, hv, hy⟩ := val2 hR
        rw [hB a b (this.trans hy)]
        rw [hv] at hrun
        exact hrun
    obtain ⟨k, rfl⟩ := Int.eq_ofNat_of_zero_le hn0
    have hk : k < 19 := by omega
    have hc : k = 0 ∨ k = 1 ∨ k = 2 ∨ k = 3 ∨ k = 4 ∨ k = 5 ∨ k = 6 ∨ k = 7 ∨ k = 8 ∨ k = 9 ∨ k = 10 ∨ k = 11 ∨ k = 12 ∨ k = 13 ∨ k = 14 ∨ k = 15 ∨ k = 16 ∨ k = 17 ∨ k = 18 := by omega
    rcases hc with rfl | rfl | rfl | rfl | rfl | rfl | rfl | rfl | rfl | rfl | rfl | rfl | rfl | rfl | rfl | rfl | rfl | rfl | rfl
    all_goals
      first
      | exact key .nil (by kernel_rfl) (fun _ => rfl) fun a b h => by cases h
      | exact key (.agg [.lit (.int .i64 3), .lit (.int .i64 2)]) (by kernel_rfl) (fun h => by cases h) fun a b h => by cases h; rfl
      | exact key (.agg [.lit (.int .i64 3), .lit (.int .i64 3)]) (by kernel_rfl) (fun h => by cases h) fun a b h => by cases h; rfl
      | exact key (.agg [.lit (.int .i64 11), .lit (.int .i64 7)]) (by kernel_rfl) (fun h => by cases h) fun a b h => by cases h; rfl
end Inf
end Go.Proofs.YtjkoafjnmkchdaaDoor

/- Joined. -/
