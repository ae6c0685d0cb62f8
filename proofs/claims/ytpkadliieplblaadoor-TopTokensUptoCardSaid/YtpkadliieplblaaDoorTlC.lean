/- Tokens as text: Join walked, and what it gives here. Conditions: sizes. -/
import Derived.Test.YtpkadliieplblaaDoorTlB
namespace Go.Proofs.YtpkadliieplblaaDoor
namespace Tl
open Sh Fix Tk Bui Go.Lib
set_option linter.unusedVariables false
set_option linter.unusedSimpArgs false
set_option maxRecDepth 8000
set_option maxHeartbeats 4000000
theorem head_at {l : By} (h : l ≠ []) : l[0]? = some (l.headD 0) := by
  cases l with
  | nil => exact absurd rfl h
  | cons c r => rfl
theorem last_at {l : By} (h : l ≠ []) : l[l.length - 1]? = some (l.getLastD 0) := by
  rw [List.getLastD_eq_getLast?, ← List.getLast?_eq_getElem?, List.getLast?_eq_some_getLast h]
  rfl
theorem drop_g {α : Type} {l : List α} {i : Nat} {c : α} (h : l[i]? = some c) : l.drop i = c :: l.drop (i + 1) := by
  obtain ⟨hi, e⟩ := List.getElem?_eq_some_iff.1 h
  rw [List.drop_eq_getElem_cons hi, e]
theorem join_nil (last : UInt8) (r : List By) : joinF last ([] :: r) = joinF last r := by simp [joinF]
theorem join_cons (last : UInt8) {p : By} (h : p ≠ []) (r : List By) : joinF last (p :: r) = (if (regB last = true ∨ last = 47) ∧ regB (p.headD 0) = true then [32] else []) ++ p ++ joinF (p.getLastD 0) r := by simp [joinF, h]
theorem join_sp {last : UInt8} {p : By} (h : p ≠ []) (r : List By) (h1 : regB last = true ∨ last = 47) (h2 : regB (p.headD 0) = true) : joinF last (p :: r) = 32 :: (p ++ joinF (p.getLastD 0) r) := by
  rw [join_cons last h, if_pos ⟨h1, h2⟩]
  rfl
theorem join_no {last : UInt8} {p : By} (h : p ≠ []) (r : List By) (h1 : ¬ ((regB last = true ∨ last = 47) ∧ regB (p.headD 0) = true)) : joinF last (p :: r) = p ++ joinF (p.getLastD 0) r := by
  rw [join_cons last h, if_neg h1]
  rfl
/-- The six parts of the law. -/
theorem join_six {a b : By} (ha : a ≠ []) (hb : b ≠ []) (ra : ∀ c ∈ a, regB c = true) (rb : ∀ c ∈ b, regB c = true) (s n : By) :
    joinF 32 [a, b, strF s, nameF n, hexF s, [111, 98, 106]] = a ++ 32 :: (b ++ (strF s ++ (nameF n ++ (hexF s ++ [111, 98, 106])))) := by
  have la : regB (a.getLastD 0) = true := ra _ (List.mem_of_getElem? (last_at ha))
  have hd : regB (b.headD 0) = true := rb _ (List.mem_of_getElem? (head_at hb))
  rw [join_no ha _ (by rintro ⟨h | h, _⟩ <;> exact absurd h (by decide)), join_sp hb _ (.inl la) hd]
  have e1 : regB ((strF s).headD 0) = false := rfl
  have e2 : regB ((nameF n).headD 0) = false := rfl
  have e3 : regB ((hexF s).headD 0) = false := rfl
  rw [join_no (show strF s ≠ [] by unfold strF; simp) _ (by rw [e1]; rintro ⟨_, h⟩; cases h), join_no (show nameF n ≠ [] by unfold nameF; simp) _ (by rw [e2]; rintro ⟨_, h⟩; cases h), join_no (show hexF s ≠ [] by unfold hexF; simp) _ (by rw [e3]; rintro ⟨_, h⟩; cases h)]
  have e4 : (hexF s).getLastD 0 = 62 := by
    show (60 :: (hexL s ++ [62])).getLastD 0 = 62
    rw [List.getLastD_eq_getLast?, ← List.cons_append, List.getLast?_append]
    rfl
  rw [e4, join_no (by simp) _ (by rintro ⟨h | h, _⟩ <;> exact absurd h (by decide))]
  simp [joinF]
section
variable {w0 w : World} {b : Nat} {p : Option Addr} {sl : Slc} {l : By} {s : ByteArray}
attribute [local irreducible] Ld Sh.St Nw Nn Lt LdS
theorem c_join {L : List ByteArray} (hV : VRow w sl 1 (L.map Value.string)) (hL : L.length ≤ 100) (hz : ∀ x ∈ L, x.size ≤ 100000) : C13 sl w fun r w1 => bl r = joinF 32 (L.map bl) ∧ Ext (fun _ => False) w w1 := by
  refine T13 _ _ _ ?_
  unfold S13
  have hlen : sl.len = L.length := by have := hV.1; rw [List.length_map] at this; omega
  have hcell : ∀ {i : Nat} {x : ByteArray}, L[i]? = some x → ∃ a, sl.p = some a ∧ w.cell? (a.add i) = some (.string x) := fun {i x} h => hV.2 i _ (by rw [List.getElem?_map, h]; rfl)
  refine Nw.of ?_
  have e0 : Ext (fun _ => False) w (w.alloc (.cells #[.pointer none, Slc.v ⟨none, 0, 0⟩] 60)) := (Ext.refl _ _).alloc _
  have hb0 := Blk.new w #[.pointer none, Slc.v ⟨none, 0, 0⟩] 60
  generalize w.alloc (.cells #[.pointer none, Slc.v ⟨none, 0, 0⟩] 60) = w1 at e0 hb0 ⊢
  have B0 : Bu w w1 w.heap.size none ⟨none, 0, 0⟩ [] := ⟨Nat.le_refl _, .inl rfl, hb0, ⟨rfl, .inl ⟨rfl, rfl⟩⟩⟩
  refine ⟨fun n st v => ∃ (i : Nat) (last : UInt8) (acc : By) (p : Option Addr) (sb : Slc), st = ((last.toNat : Int), (i : Int)) ∧ i ≤ L.length ∧ n = L.length - i ∧ Bu w v w.heap.size p sb acc ∧ acc ++ joinF last ((L.drop i).map bl) = joinF 32 (L.map bl) ∧ acc.length ≤ i * 100001 ∧ Ext (fun j => w.heap.size ≤ j) w1 v, L.length,
    ⟨0, 32, [], none, _, rfl, by omega, rfl, B0, rfl, by simp, Ext.refl _ _⟩, ?_⟩
  rintro n st v ⟨i, last, acc, p, sb, rfl, hi, rfl, hB, hJ, hacc, hE⟩
  unfold S13L1
  have z1 := e0.size
  have z2 := hE.size
  rw [hlen]
  refine Br.dec (fun q => ?_) fun q => ?_
  · have hi' : i < L.length := by have : ((i : Nat) : Int) < (L.length : Nat) := q; omega
    have hx : L[i]? = some L[i] := List.getElem?_eq_getElem hi'
    generalize L[i] = x at hx
    have hxs := hz x (List.mem_of_getElem? hx)
    obtain ⟨a, ha, hc⟩ := hcell hx
    have hc : v.cell? (a.add i) = some (.string x) := hE.cellOf (e0.cellOf hc (fun h => h)) (by have := cell_lt hc; show ¬ w.heap.size ≤ _; omega)
    refine ⟨by omega, by show ((i : Nat) : Int) < (L.length : Nat); omega, ?_⟩
    rw [ha]
    refine Nn.of (Ld.mk (x := x) (by show v.cell? (a.add (((i : Nat) : Int).toNat * 1)) = _; rw [Int.toNat_natCast, Nat.mul_one]; exact hc) ?_)
    rw [drop_g hx, List.map_cons] at hJ
    have hbx := bl_size x
    have i64 : IntKind.i64.wrap (((i : Nat) : Int) + 1) = ((i + 1 : Nat) : Int) := by rw [i64_id (by omega)]; rfl
    rw [eqL]
    refine Br.dec (fun q0 => ?_) fun q0 => ?_
    · have q0 : bl x = [] := q0
      rw [q0, join_nil] at hJ
      exact ⟨L.length - (i + 1), by omega, i + 1, last, acc, p, sb, by rw [← i64], by omega, rfl, hB, hJ, Nat.le_trans hacc (Nat.mul_le_mul_right _ (Nat.le_succ i)), hE⟩
    have q0 : bl x ≠ [] := q0
    have hx1 : 1 ≤ x.size := by
      rw [← hbx]
      exact List.length_pos_iff.2 q0
    have h0 := head_at q0
    have hl := last_at q0
    rw [hbx] at hl
    have b0 : bAt x 0 = (((bl x).headD 0).toNat : Int) := bAt_bl (i := 0) h0
    have bl' : bAt x ((x.size - 1 : Nat) : Int) = (((bl x).getLastD 0).toNat : Int) := bAt_bl hl
    rw [join_cons last q0] at hJ
    -- the join
    have J : ∀ (u : World) (p' : Option Addr) (sb' : Slc) (acc' : By), Bu w u w.heap.size p' sb' acc' → acc' = acc ++ (if (regB last = true ∨ last = 47) ∧ regB ((bl x).headD 0) = true then [32] else []) → Ext (fun j => w.heap.size ≤ j) w1 u →
        S13J1 w ((last.toNat : Int), (i : Int)) (fun st v => ∃ n', n' < L.length - i ∧ ∃ (i : Nat) (last : UInt8) (acc : By) (p : Option Addr) (sb : Slc), st = ((last.toNat : Int), (i : Int)) ∧ i ≤ L.length ∧ n' = L.length - i ∧ Bu w v w.heap.size p sb acc ∧ acc ++ joinF last ((L.drop i).map bl) = joinF 32 (L.map bl) ∧ acc.length ≤ i * 100001 ∧ Ext (fun j => w.heap.size ≤ j) w1 v) x () u := by
      intro u p' sb' acc' hB' ha' hE'
      unfold S13J1
      have hl' : acc'.length ≤ acc.length + 1 := by
        rw [ha', List.length_append]
        split <;> simp
      refine (c_str hB' (by omega)).mono ?_
      rintro r20 r21 u2 ⟨sb2, hB2, hW2⟩
      rw [show IntKind.i64.wrap (((x.size : Nat) : Int) - 1) = ((x.size - 1 : Nat) : Int) by rw [i64_id (by omega)]; omega]
      refine ⟨by omega, by omega, L.length - (i + 1), by omega, i + 1, (bl x).getLastD 0, _, _, _, ?_, by omega, rfl, hB2, ?_, ?_, hE'.tr hW2.ext⟩
      · rw [bl', ← i64]
      · rw [← hJ, ha']
        simp
      · have : (acc' ++ x.data.toList).length = acc'.length + x.size := by rw [List.length_append]; rfl
        rw [this, Nat.add_mul]
        omega
    have none' : ∀ u, Bu w u w.heap.size p sb acc → Ext (fun j => w.heap.size ≤ j) w1 u → ¬ ((regB last = true ∨ last = 47) ∧ regB ((bl x).headD 0) = true) → _ := fun u h1 h2 h3 => J u p sb acc h1 (by rw [if_neg h3, List.append_nil]) h2
    have sp : ∀ u, Bu w u w.heap.size p sb acc → Ext (fun j => w.heap.size ≤ j) w1 u → ((regB last = true ∨ last = 47) ∧ regB ((bl x).headD 0) = true) → C21 (some (⟨w.heap.size, 0, none⟩ : Addr)) ((32 : UInt8).toNat : Int) u fun r28 vw29 => S13J1 w ((last.toNat : Int), (i : Int)) (fun st v => ∃ n', n' < L.length - i ∧ ∃ (i : Nat) (last : UInt8) (acc : By) (p : Option Addr) (sb : Slc), st = ((last.toNat : Int), (i : Int)) ∧ i ≤ L.length ∧ n' = L.length - i ∧ Bu w v w.heap.size p sb acc ∧ acc ++ joinF last ((L.drop i).map bl) = joinF 32 (L.map bl) ∧ acc.length ≤ i * 100001 ∧ Ext (fun j => w.heap.size ≤ j) w1 v) x () vw29 := fun u h1 h2 h3 => by
      refine (c_byte h1 (by omega)).mono ?_
      rintro r u2 ⟨sb2, hB2, hW2⟩
      exact J u2 _ _ _ hB2 (by rw [if_pos h3]) (h2.tr hW2.ext)
    refine Join.intro ((c_reg last v).mono ?_)
    rintro r u ⟨rfl, rfl⟩
    cases hr : regB last with
    | true =>
      refine Br.t rfl ⟨by decide, by omega, ?_⟩
      rw [b0]
      refine (c_reg _ _).mono ?_
      rintro r u ⟨rfl, rfl⟩
      cases hr2 : regB ((bl x).headD 0) with
      | true => exact Br.t rfl (sp _ hB hE ⟨.inl hr, hr2⟩)
      | false => exact Br.f rfl (none' _ hB hE (by rw [hr2]; rintro ⟨_, h⟩; cases h))
    | false =>
      refine Br.f rfl (Br.eq (fun h47 => ⟨by decide, by omega, ?_⟩) fun h47 => ?_)
      · rw [b0]
        refine (c_reg _ _).mono ?_
        rintro r u ⟨rfl, rfl⟩
        have h47 : last = 47 := UInt8.toNat_inj.1 (by have : ((47 : UInt8).toNat : Int) = 47 := rfl; have : ((last.toNat : Nat) : Int) = 47 := h47; omega)
        cases hr2 : regB ((bl x).headD 0) with
        | true => exact Br.t rfl (sp _ hB hE ⟨.inr h47, hr2⟩)
        | false => exact Br.f rfl (none' _ hB hE (by rw [hr2]; rintro ⟨_, h⟩; cases h))
      · exact none' _ hB hE (by
          rw [hr]
          rintro ⟨h | h, _⟩
          · cases h
          · exact h47 (by rw [h]; rfl))
  · have hi2 : i = L.length := by have : ¬ ((i : Nat) : Int) < (L.length : Nat) := q; omega
    subst hi2
    rw [List.drop_length, List.map_nil] at hJ
    refine (c_bstr hB (by omega)).mono ?_
    rintro r v3 ⟨rfl, hb⟩
    refine ⟨?_, Ext.new' e0 (hE.tr (ext_below hb)) fun _ h => h⟩
    rw [bl_ba, ← hJ]
    simp [joinF]
end
end Tl
end Go.Proofs.YtpkadliieplblaaDoor
