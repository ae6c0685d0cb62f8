/- Fonts: what can be read; whether a font may be. Conditions: sizes, the laid tables. -/
import Derived.Test.YtcblpehnkogfdaaGreatDoorFoA
import Derived.Test.YtcblpehnkogfdaaGreatDoorFnFont
import Derived.Test.YtcblpehnkogfdaaGreatDoorGn
import Derived.Test.YtcblpehnkogfdaaGreatDoorSlf
namespace Go.Proofs.YtcblpehnkogfdaaGreatDoor
namespace Fo
open Sh
set_option linter.unusedVariables false
set_option linter.unusedSimpArgs false
set_option maxRecDepth 4000
set_option maxHeartbeats 2000000
attribute [local irreducible] Ld St Nw Nn Lt LdS
abbrev FT := TyA34
def mcells (x : Int × ByteArray) : List Value := [.int .i64 x.1, .string x.2]
theorem mcells_len (x : Int × ByteArray) : (mcells x).length = 2 := rfl
def icell (n : Int) : List Value := [.int .i64 n]
theorem icell_len (n : Int) : (icell n).length = 1 := rfl
def scell (s : ByteArray) : List Value := [.string s]
theorem scell_len (s : ByteArray) : (scell s).length = 1 := rfl
def I64 (n : Int) : Prop := -9223372036854775808 ≤ n ∧ n ≤ 9223372036854775807
/-- A font as a value. -/
structure FoV (w : World) (x : FT) (f : Font) : Prop where
  name : x.1 = f.name
  wide : x.2.1 = f.wide
  first : x.2.2.1 = f.first
  missing : x.2.2.2.2.1 = f.missing
  widths : VRow w x.2.2.2.1 1 (f.widths.flatMap icell)
  names : VRow w x.2.2.2.2.2.1 1 (f.names.flatMap scell)
  maps : VRow w x.2.2.2.2.2.2 2 (f.maps.flatMap mcells)
  ifirst : I64 f.first
  szn : f.name.size ≤ 1048576
  lw : f.widths.length ≤ 1048576
  ln : f.names.length ≤ 1048576
  lm : f.maps.length ≤ 1048576
  szs : ∀ s ∈ f.names, s.size ≤ 1048576
  szm : ∀ x ∈ f.maps, x.2.size ≤ 1048576
theorem FoV.keep {w w' : World} {x : FT} {f : Font} (h : FoV w x f) (he : Ext (fun _ => False) w w') : FoV w' x f := { h with widths := h.widths.keep he, names := h.names.keep he, maps := h.maps.keep he }
theorem ix_none (l : By) : ∀ c : UInt8, decide (Lib.indexByte l c < 0) = !l.contains c := by
  intro c
  induction l with
  | nil => rfl
  | cons b l ih =>
    have hge := Lib.indexByte_ge l c
    unfold Lib.indexByte
    rw [List.contains_cons]
    by_cases hb : (b == c) = true
    · rw [if_pos hb]
      have : b = c := by simpa using hb
      subst this
      simp
    · rw [if_neg hb]
      have hb' : (c == b) = false := by
        cases h : c == b with
        | false => rfl
        | true =>
          have : c = b := by simpa using h
          subst this
          simp at hb
      rw [hb', Bool.false_or, ← ih]
      by_cases h1 : (Lib.indexByte l c == -1) = true
      · rw [if_pos h1]
        have : Lib.indexByte l c = -1 := by simpa using h1
        rw [this]
      · rw [if_neg h1]
        have : Lib.indexByte l c ≠ -1 := by simpa using h1
        rw [decide_eq_false (by omega), decide_eq_false (by omega)]
theorem c_ix (s : ByteArray) (w : World) : C124 s 0 w fun r w1 => r = Lib.indexByte (bl s) 0 ∧ w1 = w :=
  (Tryz.strings_IndexByte s 0 w).mono fun e w' h => ⟨_, h.1, rfl, h.2⟩
theorem c_named (s : ByteArray) (k : Nat) (w : World) : C95 s (k : Int) w fun r w1 => r = named s k ∧ w1 = w := by
  refine T95 _ _ _ _ ?_
  unfold S95 named
  refine Br.dec (fun h1 => ?_) fun h1 => ⟨by rw [decide_eq_false (by omega)]; rfl, rfl⟩
  rw [decide_eq_true (show k ≤ s.size by omega)]
  refine Br.dec (fun h2 => ?_) fun h2 => ⟨by rw [decide_eq_false (by omega)]; rfl, rfl⟩
  rw [decide_eq_true (show s.size ≤ 127 by omega)]
  refine (c_ix s w).mono ?_
  rintro r w1 ⟨rfl, rfl⟩
  exact ⟨by rw [ix_none]; rfl, rfl⟩
theorem c_bnd (n m : Int) (w : World) : C97 n m w fun r w1 => r = bnd n m ∧ w1 = w := by
  refine T97 _ _ _ _ ?_
  unfold S97 bnd
  refine Br.dec (fun h1 => ⟨by rw [decide_eq_true (show 0 ≤ n by omega)]; rfl, rfl⟩) fun h1 => ⟨by rw [decide_eq_false (by omega)]; rfl, rfl⟩
theorem c_many (b : Bool) (w : World) : C96 b w fun r w1 => r = (if b then 65536 else 256) ∧ w1 = w := by
  refine T96 _ _ _ ?_
  unfold S96
  cases b with
  | true => exact Br.t rfl ⟨rfl, rfl⟩
  | false => exact Br.f rfl ⟨rfl, rfl⟩
section
variable {w : World} {x : FT} {f : Font}
theorem FoV.wlen (h : FoV w x f) : x.2.2.2.1.len = f.widths.length := VRow.count icell_len (by decide) h.widths
theorem FoV.nlen (h : FoV w x f) : x.2.2.2.2.2.1.len = f.names.length := VRow.count scell_len (by decide) h.names
theorem FoV.mlen (h : FoV w x f) : x.2.2.2.2.2.2.len = f.maps.length := VRow.count mcells_len (by decide) h.maps
end
/-- The cells of a font in its block. -/
theorem fo_blk (w : World) (x : FT) : Hn w (w.alloc (.cells (Sig.cells LiA34 x).toArray 35)) [(w.heap.size, [.string x.1, .bool x.2.1, .int .i64 x.2.2.1, Slc.v x.2.2.2.1, .int .i64 x.2.2.2.2.1, Slc.v x.2.2.2.2.2.1, Slc.v x.2.2.2.2.2.2], 35)] := by
  have h := Hn.push (Hn.start w |>.keep ((Ext.refl (fun _ => False) w).alloc (.cells (Sig.cells LiA34 x).toArray 35))) (Blk.new w (Sig.cells LiA34 x).toArray 35) (Nat.le_refl _) (by simp)
  exact h
theorem all_take {α : Type} {p : α → Bool} {l : List α} {i : Nat} {c : α} (h : l[i]? = some c) (ht : (l.take i).all p = true) : (l.take (i + 1)).all p = p c := by
  obtain ⟨hl, rfl⟩ := List.getElem?_eq_some_iff.1 h
  rw [take_succ hl, List.all_append, ht]
  simp
theorem all_no {α : Type} {p : α → Bool} {l : List α} {i : Nat} {c : α} (h : l[i]? = some c) (hc : p c = false) : l.all p = false := by
  cases ha : l.all p with
  | false => rfl
  | true =>
    have := List.all_eq_true.1 ha c (List.mem_of_getElem? h)
    rw [hc] at this
    cases this
theorem c_may {w : World} {x : FT} {f : Font} (h : FoV w x f) : C59 x w fun r w1 => r = mayF f ∧ Ext (fun _ => False) w w1 := by
  refine T59 _ _ _ ?_
  unfold S59
  refine Nw.of ?_
  have H := fo_blk w x
  have hw := h.wlen
  have hn := h.nlen
  have hif := h.ifirst
  have hlw := h.lw
  unfold I64 at hif
  refine H.ld 0 rfl (x := x.2.2.2.1) rfl ?_
  have Hd := H.drew
  have hE := Hd.ext
  have hb := Hd.get 0 rfl
  generalize (w.alloc (.cells (Sig.cells LiA34 x).toArray 35)).drew = wd at *
  generalize w.alloc (.cells (Sig.cells LiA34 x).toArray 35) = wd0 at *
  refine ⟨Ext (fun _ => False) wd, Ext.refl _ _, ldS_ext (x := x.1) (by rw [hb.cell]; rfl) ?_⟩
  refine (c_named x.1 1 wd).mono ?_
  rintro r w1 ⟨rfl, rfl⟩
  rw [h.name]
  refine ⟨Ext (fun _ => False) w1, Ext.refl _ _, ?_⟩
  have cl : ∀ {j : Nat} {v : Value}, ([.string x.1, .bool x.2.1, .int .i64 x.2.2.1, Slc.v x.2.2.2.1, .int .i64 x.2.2.2.2.1, Slc.v x.2.2.2.2.2.1, Slc.v x.2.2.2.2.2.2] : List Value)[j]? = some v → w1.cell? ((⟨w.heap.size, 0, none⟩ : Addr).add j) = some v := fun hj => by rw [add_lit, Nat.zero_add, hb.cell]; simpa using hj
  unfold mayF
  cases h1 : named f.name 1 with
  | false => exact Br.t rfl ⟨rfl, hE⟩
  | true =>
  refine Br.f rfl (ldS_ext (x := x.2.2.1) (cl rfl) ?_)
  rw [h.first]
  refine Br.dec (fun h2 => ⟨by rw [decide_eq_false (show ¬ 0 ≤ f.first by omega)]; rfl, hE⟩) fun h2 => ?_
  rw [decide_eq_true (show 0 ≤ f.first by omega), hw]
  refine Br.dec (fun h3 => ⟨by rw [decide_eq_false (show ¬ f.widths.length ≤ 4096 by omega)]; rfl, hE⟩) fun h3 => ?_
  rw [decide_eq_true (show f.widths.length ≤ 4096 by omega)]
  refine ldS_ext (x := x.2.2.1) (cl rfl) (ldS_ext (x := x.2.1) (cl rfl) ?_)
  rw [h.first, h.wide]
  refine (c_many f.wide w1).mono ?_
  rintro r w2 ⟨rfl, rfl⟩
  refine ⟨Ext.refl _ _, ?_⟩
  have hm : (if f.wide then (65536 : Int) else 256) = many f := rfl
  have hm2 : 256 ≤ many f ∧ many f ≤ 65536 := by unfold many; split <;> omega
  rw [hm, i64_id (by omega)]
  refine Br.dec (fun h4 => ⟨by rw [decide_eq_false (show ¬ f.first ≤ many f - (f.widths.length : Int) by omega)]; rfl, hE⟩) fun h4 => ?_
  rw [decide_eq_true (show f.first ≤ many f - (f.widths.length : Int) by omega)]
  refine ldS_ext (x := x.2.2.2.2.1) (cl rfl) ?_
  rw [h.missing]
  refine (c_bnd f.missing 100000 w2).mono ?_
  rintro r w3 ⟨rfl, rfl⟩
  cases h5 : bnd f.missing 100000 with
  | false => exact Br.t rfl ⟨rfl, hE⟩
  | true =>
  refine Br.f rfl (Ld.mk (x := x.2.2.2.1) (cl rfl) ?_)
  have h0 := h
  refine ⟨fun m st w1 => ∃ i : Nat, st = (i : Int) ∧ i ≤ f.widths.length ∧ m = f.widths.length - i ∧ (f.widths.take i).all (fun n => bnd n 100000) = true ∧ w1 = w3, f.widths.length, ⟨0, rfl, Nat.zero_le _, rfl, rfl, rfl⟩, ?_⟩
  rintro m st w40 ⟨i, rfl, hi, rfl, ht, rfl⟩
  unfold S59L2
  rw [hw]
  refine Br.dec (fun q => ?_) fun q => ?_
  · have hil : i < f.widths.length := by omega
    have gi : f.widths[i]? = some f.widths[i] := List.getElem?_eq_getElem hil
    obtain ⟨a, ha, hc⟩ := VRow.elem icell_len (h.widths.keep hE) gi (by decide)
    have hat := all_take gi ht
    have hno := all_no (p := fun n => bnd n 100000) gi
    generalize f.widths[i] = n at *
    rw [ha]
    refine ⟨by omega, by omega, Nn.of (Ld.mk (x := n) (by rw [Int.toNat_natCast]; have := hc 0 _ rfl; simpa using this) ?_)⟩
    refine (c_bnd n 100000 w40).mono ?_
    rintro r w45 ⟨rfl, rfl⟩
    cases hb1 : bnd n 100000 with
    | false => exact Br.t rfl ⟨by rw [hno hb1]; rfl, hE⟩
    | true => exact Br.f rfl ⟨f.widths.length - (i + 1), by omega, i + 1, by rw [i64_id (by omega)]; rfl, by omega, rfl, by rw [hat, hb1], rfl⟩
  · have : i = f.widths.length := by omega
    subst this
    rw [List.take_length] at ht
    rw [ht]
    have hnl := h.ln
    have go : ((decide (f.names = []) || (!f.wide && decide (f.names.length = 256))) = true) → S59J1 w (fun r w1 => r = (true && true && true && true && true && true && (decide (f.names = []) || !f.wide && decide (f.names.length = 256)) && f.names.all fun s => named s 0) ∧ Ext (fun _ => False) w w1) () w40 := fun hn1 => by
      unfold S59J1
      refine Ld.mk (x := x.2.2.2.2.2.1) (cl rfl) ?_
      rw [hn1]
      refine ⟨fun m st w1 => ∃ i : Nat, st = (i : Int) ∧ i ≤ f.names.length ∧ m = f.names.length - i ∧ (f.names.take i).all (fun s => named s 0) = true ∧ w1 = w40, f.names.length, ⟨0, rfl, Nat.zero_le _, rfl, rfl, rfl⟩, ?_⟩
      rintro m st w53 ⟨i, rfl, hi, rfl, ht, rfl⟩
      unfold S59L1
      rw [hn]
      refine Br.dec (fun q => ?_) fun q => ?_
      · have hil : i < f.names.length := by omega
        have gi : f.names[i]? = some f.names[i] := List.getElem?_eq_getElem hil
        obtain ⟨a, ha, hc⟩ := VRow.elem scell_len (h.names.keep hE) gi (by decide)
        have hat := all_take gi ht
        have hno := all_no (p := fun s => named s 0) gi
        generalize f.names[i] = n at *
        rw [ha]
        refine ⟨by omega, by omega, Nn.of (Ld.mk (x := n) (by rw [Int.toNat_natCast]; have := hc 0 _ rfl; simpa using this) ?_)⟩
        refine (c_named n 0 w53).mono ?_
        rintro r w45 ⟨rfl, rfl⟩
        cases hb1 : named n 0 with
        | false => exact Br.t rfl ⟨by rw [hno hb1]; rfl, hE⟩
        | true => exact Br.f rfl ⟨f.names.length - (i + 1), by omega, i + 1, by rw [i64_id (by omega)]; rfl, by omega, rfl, by rw [hat, hb1], rfl⟩
      · have : i = f.names.length := by omega
        subst this
        rw [List.take_length] at ht
        exact ⟨by rw [ht]; rfl, hE⟩
    refine ⟨fun _ w' => w' = w40 ∧ (decide (f.names = []) || (!f.wide && decide (f.names.length = 256))) = true, fun s w' hh => ?_, ?_⟩
    · obtain ⟨rfl, hh⟩ := hh
      exact go hh
    · refine Ld.mk (x := x.2.2.2.2.2.1) (cl rfl) ?_
      rw [hn]
      refine Br.ne (fun k1 => ?_) fun k1 => ⟨rfl, ?_⟩
      · have hne : f.names ≠ [] := fun e => k1 (by rw [e]; rfl)
        rw [decide_eq_false hne]
        refine Ld.mk (x := x.2.1) (cl rfl) ?_
        rw [h.wide]
        cases hwd : f.wide with
        | true => exact Br.t rfl ⟨rfl, hE⟩
        | false =>
          refine Br.f rfl (Ld.mk (x := x.2.2.2.2.2.1) (cl rfl) ?_)
          rw [hn]
          refine Br.ne (fun k2 => ⟨by rw [decide_eq_false (show ¬ f.names.length = 256 by omega)]; rfl, hE⟩) fun k2 => ⟨rfl, ?_⟩
          rw [decide_eq_true (show f.names.length = 256 by omega)]
          rfl
      · have : f.names = [] := List.length_eq_zero_iff.1 (by omega)
        rw [decide_eq_true this]
        rfl
end Fo
end Go.Proofs.YtcblpehnkogfdaaGreatDoor
