/- Fonts: the text of a name, of a code. Conditions: sizes, the laid tables. -/
import Derived.Test.YtcblpehnkogfdaaDoorFoE
namespace Go.Proofs.YtcblpehnkogfdaaDoor
namespace Fo
open Sh Go.Lib
set_option linter.unusedVariables false
set_option linter.unusedSimpArgs false
set_option maxRecDepth 4000
set_option maxHeartbeats 2000000
attribute [local irreducible] Ld St Nw Nn Lt LdS
theorem bl_size (s : ByteArray) : s.size = (bl s).length := (Array.length_toList (xs := s.data)).symm
theorem bl_ext (s : ByteArray) (a b : Nat) : bl (s.extract a b) = ((bl s).drop a).take (b - a) := extract_list s a b
theorem c_prefix (s p : ByteArray) (w : World) : C77 s p w fun r w1 => r = decide ((bl s).take p.size = bl p) ∧ w1 = w := by
  refine T77 _ _ _ _ ?_
  unfold S77
  have h1 := bl_size s
  have h2 := bl_size p
  refine Br.dec (fun q => ⟨by omega, by omega, ?_, rfl⟩) fun q => ⟨?_, rfl⟩
  · have e := bl_ext s 0 p.size
    rw [Int.toNat_natCast, eqL]
    rw [show (s.extract 0 p.size).data.toList = bl (s.extract 0 p.size) from rfl, e, List.drop_zero, Nat.sub_zero]
    rfl
  · refine (decide_eq_false fun e => ?_).symm
    have := congrArg List.length e
    rw [List.length_take] at this
    omega
theorem c_cutp (s p : ByteArray) (w : World) : C66 s p w fun r b w1 => (if (bl s).take p.size = bl p then bl r = (bl s).drop p.size ∧ b = true else r = s ∧ b = false) ∧ w1 = w := by
  refine T66 _ _ _ _ ?_
  unfold S66
  refine T73 _ _ _ _ ?_
  unfold S73
  refine (c_prefix s p w).mono ?_
  rintro r w1 ⟨rfl, rfl⟩
  by_cases h : (bl s).take p.size = bl p
  · rw [decide_eq_true h]
    simp only [if_pos h]
    have h1 := bl_size s
    have h2 := bl_size p
    have h3 := congrArg List.length h
    rw [List.length_take] at h3
    refine Br.f rfl ⟨by omega, by omega, ⟨?_, by simp⟩, by simp⟩
    rw [Int.toNat_natCast, bl_ext, List.take_of_length_le (by rw [List.length_drop]; omega)]
  · rw [decide_eq_false h]
    simp only [if_neg h]
    exact Br.t rfl (by simp)
theorem c_digit (b : UInt8) (w : World) : C67 ((b.toNat : Nat) : Int) w fun r w1 => (b.toNat < 97 → (match hexU b with
    | some d => r = (d : Int) ∧ d < 16
    | none => r = -1)) ∧ w1 = w := by
  refine T67 _ _ _ ?_
  unfold S67
  have hb := b.toNat_lt
  unfold hexU
  generalize b.toNat = n at *
  have u8 : ∀ z : Int, 0 ≤ z → z < 256 → IntKind.u8.wrap z = z := fun z h1 h2 => by rw [u8_wrap]; omega
  refine Br.dec (fun h1 => Br.dec (fun h2 => ⟨fun _ => ?_, rfl⟩) fun h2 => ?_) fun h1 => ?_
  · rw [if_pos (by omega), u8 _ (by omega) (by omega), i64_id (by omega)]
    exact ⟨by omega, by omega⟩
  all_goals refine Br.dec (fun h3 => Br.dec (fun h4 => ⟨fun _ => ?_, rfl⟩) fun h4 => ?_) fun h3 => ?_
  all_goals try (rw [if_neg (by omega), if_pos (by omega), u8 _ (by omega) (by omega), i64_id (n := (n : Int) - 65) (by omega), i64_id (by omega)]; exact ⟨by omega, by omega⟩)
  all_goals refine Br.dec (fun h5 => Br.dec (fun h6 => ⟨fun hlt => absurd hlt (by omega), rfl⟩) fun h6 => ?_) fun h5 => ?_
  all_goals exact ⟨fun _ => (by rw [if_neg (by omega), if_neg (by omega)]), rfl⟩
theorem runes_one (n : Int) : runesBytes [n] = Utf8.encode n := by
  unfold runesBytes
  simp
theorem c_uni {n : ByteArray} (hn : n.size ≤ 1048576) (w : World) : C51 n w fun r w1 => r = ⟨(uniF (bl n)).toArray⟩ ∧ Ext (fun _ => False) w w1 := by
  refine T51 _ _ _ ?_
  unfold S51
  have hbn := bl_size n
  have hp : bl (⟨#[117, 110, 105]⟩ : ByteArray) = [117, 110, 105] := rfl
  have hps : (⟨#[117, 110, 105]⟩ : ByteArray).size = 3 := rfl
  refine (c_cutp n ⟨#[117, 110, 105]⟩ w).mono ?_
  rintro r b w4 ⟨hr, rfl⟩
  rw [hp, hps] at hr
  unfold uniF
  by_cases h3 : (bl n).take 3 = [117, 110, 105]
  · rw [if_pos h3] at hr
    obtain ⟨hr, rfl⟩ := hr
    have hrs := bl_size r
    rw [hr, List.length_drop] at hrs
    have h3l := congrArg List.length h3
    rw [List.length_take] at h3l
    have h3l : min 3 (bl n).length = 3 := h3l
    refine Br.f rfl (Br.ne (fun h4 => ⟨by rw [if_neg (by rintro ⟨_, h⟩; omega)], Ext.refl _ _⟩) fun h4 => ?_)
    have h7 : (bl n).length = 7 := by omega
    rw [if_pos ⟨h3, h7⟩]
    have hl4 : (bl r).length = 4 := by rw [hr, List.length_drop]; omega
    rw [← hr]
    refine ⟨fun m st w1 => ∃ (i k : Nat), st = ((k : Int), (i : Int)) ∧ i ≤ 4 ∧ m = 4 - i ∧ k < 16 ^ i ∧ hexs (bl r) 0 = hexs ((bl r).drop i) k ∧ w1 = w4, 4, ⟨0, 0, rfl, by omega, rfl, by decide, rfl, rfl⟩, ?_⟩
    rintro m st w11 ⟨i, k, rfl, hi, rfl, hk, hh, rfl⟩
    unfold S51L1
    dsimp only
    have hk4 : k < 65536 := Nat.lt_of_lt_of_le hk (Nat.pow_le_pow_right (by decide) hi)
    refine Br.dec (fun q => ?_) fun q => ?_
    · have hil : i < (bl r).length := by omega
      have hbt := bAt_list r i
      have hbb : (bl r).getD i 0 = (bl r)[i] := by rw [List.getD_eq_getElem?_getD, List.getElem?_eq_getElem hil]; rfl
      have hb1 : bAt r (i : Int) = ((bl r)[i].toNat : Int) := by rw [hbt]; exact congrArg (fun b : UInt8 => ((b.toNat : Nat) : Int)) hbb
      rw [List.drop_eq_getElem_cons hil] at hh
      rw [hb1]
      generalize (bl r)[i] = b at *
      have hcons : hexs (b :: (bl r).drop (i + 1)) k = (match hexU b with
        | some d => hexs ((bl r).drop (i + 1)) (16 * k + d)
        | none => none) := rfl
      rw [hcons] at hh
      have b1 : (0 : Int) ≤ (i : Int) := by omega
      have b2 : (i : Int) < ((r.size : Nat) : Int) := by omega
      refine ⟨b1, b2, (c_digit b w11).mono ?_⟩
      rintro rd w14 ⟨hd, rfl⟩
      by_cases hlow : b.toNat < 97
      · have hd := hd hlow
        cases hx : hexU b with
        | none =>
          rw [hx] at hd hh
          subst hd
          refine Br.t (by decide) ⟨?_, Ext.refl _ _⟩
          rw [hh]
        | some d =>
          rw [hx] at hd hh
          obtain ⟨rfl, hd16⟩ := hd
          refine Br.f (by rw [decide_eq_false_iff_not]; omega) ⟨b1, b2, Br.f (by rw [decide_eq_false_iff_not]; omega) ?_⟩
          refine ⟨4 - (i + 1), by omega, i + 1, 16 * k + d, ?_, by omega, rfl, ?_, hh, rfl⟩
          · have e1 : IntKind.i64.wrap ((k : Int) * 2 ^ 4) = ((k * 2 ^ 4 : Nat) : Int) := by rw [i64_id (by omega)]; omega
            rw [e1, ior_add (by omega) (by omega) (by omega), i64_id (by omega)]
            refine Prod.ext ?_ rfl
            show ((k * 2 ^ 4 + d : Nat) : Int) = ((16 * k + d : Nat) : Int)
            omega
          · rw [Nat.pow_succ]
            omega
      · have hx : hexU b = none := by
          unfold hexU
          rw [if_neg (by omega), if_neg (by omega)]
        rw [hx] at hh
        refine Br.dec (fun _ => ⟨by rw [hh], Ext.refl _ _⟩) fun _ => ⟨b1, b2, Br.t (by rw [decide_eq_true_eq]; omega) ⟨by rw [hh], Ext.refl _ _⟩⟩
    · have : i = (bl r).length := by omega
      subst this
      rw [List.drop_length] at hh
      have hh : hexs (bl r) 0 = some k := hh
      rw [hh]
      dsimp only
      have fin : ¬ (k = 0 ∨ (55296 ≤ k ∧ k ≤ 57343)) → ∀ w1 : World, Ext (fun _ => False) w11 w1 → Nw w1 (.cells #[.int .i32 (IntKind.i32.wrap (k : Int))] 21) fun vw15 =>
          Rn Tryd.prog (convert 120 9 (Slc.v ((⟨some ⟨w1.heap.size, 0, none⟩, 1, 1⟩ : Slc)))) vw15 Value.string fun (x16 : ByteArray) vw17 => x16 = ⟨(if k = 0 ∨ (55296 ≤ k ∧ k ≤ 57343) then [] else encodeRune (k : Int)).toArray⟩ ∧ Ext (fun _ => False) w11 vw17 := fun hno w1 E1 => by
        have hwr : IntKind.i32.wrap (k : Int) = (k : Int) := IntWalk.i32_in _ ⟨by omega, by omega⟩
        rw [hwr, if_neg hno]
        refine Nw.of ?_
        have hb := Blk.new w1 #[.int .i32 (k : Int)] 21
        have hrun := run_convert_runes (P := Tryd.prog) (w1.alloc (.cells #[.int .i32 (k : Int)] 21)) 120 9 21 ⟨w1.heap.size, 0, none⟩ 1 1 [(k : Int)] (Nat.le_refl 1) (by kernel_rfl) (by kernel_rfl) (by kernel_rfl) fun j hj => by
          have : j = 0 := by simpa using hj
          subst this
          rw [add_lit, hb.cell]
          rfl
        have e : ([(k : Int)] : List Int).take 1 = [(k : Int)] := rfl
        rw [e, runes_one, enc_eq (by omega)] at hrun
        exact ⟨_, _, hrun, rfl, E1.alloc _⟩
      refine Br.eq (fun h0 => ⟨by rw [if_pos (.inl (by omega))], Ext.refl _ _⟩) fun h0 => ?_
      refine Br.dec (fun h1 => Br.dec (fun h2 => ⟨by rw [if_pos (.inr (by omega))], Ext.refl _ _⟩) fun h2 => ?_) fun h1 => ?_
      · exact fin (by omega) w11 (Ext.refl _ _)
      · exact fin (by omega) w11 (Ext.refl _ _)
  · rw [if_neg h3] at hr
    obtain ⟨rfl, rfl⟩ := hr
    rw [if_neg (fun h => h3 h.1)]
    exact Br.t rfl ⟨rfl, Ext.refl _ _⟩
theorem c_sign {w : World} (hT : TB w) {n : ByteArray} (hn : n.size ≤ 1048576) : C31 n w fun r w1 => r = ⟨(signF (bl n)).toArray⟩ ∧ Ext (fun _ => False) w w1 := by
  refine T31 _ _ _ ?_
  unfold S31 signF
  rw [eqL]
  refine Br.dec (fun h0 => ⟨by rw [if_pos (show bl n = [] from h0)], Ext.refl _ _⟩) fun h0 => ?_
  rw [if_neg (show ¬ bl n = [] from h0)]
  refine (c_usual hT).mono ?_
  rintro r2 w3 ⟨hV, e3⟩
  have hlen : r2.len = usualB.length := VRow.count bcell_len (by decide) hV
  have h256 := usualB_len
  generalize usualB = U at *
  refine ⟨fun m st w1 => ∃ i : Nat, st = (i : Int) ∧ i ≤ U.length ∧ m = U.length - i ∧ (∀ (j : Nat) (u : By), j < i → U[j]? = some u → u ≠ bl n) ∧ w1 = w3, U.length, ⟨0, rfl, Nat.zero_le _, rfl, fun j u h => absurd h (Nat.not_lt_zero _), rfl⟩, ?_⟩
  rintro m st w5 ⟨i, rfl, hi, rfl, hno, rfl⟩
  unfold S31L1
  rw [hlen]
  refine Br.dec (fun q => ?_) fun q => ?_
  · have hil : i < U.length := by omega
    have gu : U[i]? = some U[i] := List.getElem?_eq_getElem hil
    obtain ⟨a, ha, hc⟩ := VRow.elem bcell_len hV gu (by decide)
    have hfi : U[i] = bl n → U.findIdx? (fun m => decide (m = bl n)) = some i := fun he => by
      rw [List.findIdx?_eq_some_iff_getElem]
      refine ⟨hil, by rw [he]; simp, fun j hj => ?_⟩
      have := hno j U[j] hj (List.getElem?_eq_getElem (by omega))
      simp [this]
    generalize U[i] = u at *
    rw [ha]
    refine ⟨by omega, by omega, Nn.of (Ld.mk (x := (⟨u.toArray⟩ : ByteArray)) (by rw [Int.toNat_natCast]; have := hc 0 _ rfl; simpa using this) ?_)⟩
    have hu : (⟨u.toArray⟩ : ByteArray).data.toList = u := by simp
    rw [eqL, hu]
    refine Br.dec (fun h1 => ?_) fun h1 => ?_
    · rw [hfi h1]
      refine Nw.of ⟨_, _, byte_str (Blk.new _ _ _), ?_, e3.alloc _⟩
      rw [ub_small (by omega)]
    · refine ⟨U.length - (i + 1), by omega, i + 1, by rw [i64_id (by omega)]; rfl, by omega, rfl, fun j v hj hv => ?_, rfl⟩
      by_cases e : j = i
      · subst e
        rw [gu] at hv
        cases hv
        exact h1
      · exact hno j v (by omega) hv
  · have hnone : U.findIdx? (fun m => decide (m = bl n)) = none := by
      rw [List.findIdx?_eq_none_iff]
      intro u hu
      obtain ⟨j, hj⟩ := List.mem_iff_getElem?.1 hu
      have hlt := (List.getElem?_eq_some_iff.1 hj).1
      have := hno j u (by omega) hj
      simp [this]
    rw [hnone]
    refine (c_uni hn w5).mono ?_
    rintro r w13 ⟨rfl, e13⟩
    exact ⟨rfl, e3.tr e13⟩
theorem c_say {w : World} {x : FT} {f : Font} (hT : TB w) (h : FoV w x f) (code : Int) : C12 x code w fun r w1 => r = ⟨(sayF f code).toArray⟩ ∧ Ext (fun _ => False) w w1 := by
  refine T12 _ _ _ _ ?_
  unfold S12
  refine Nw.of ?_
  have H := fo_blk w x
  have hE := H.ext
  have hn := h.nlen
  generalize w.alloc (.cells (Sig.cells LiA33 x).toArray 34) = wd at *
  refine H.ld 0 rfl (x := x.2.2.2.2.2.2) rfl ?_
  refine (c_find (h.keep hE).maps h.lm code).mono ?_
  rintro r9 b10 w11 ⟨hf, e11⟩
  have H := H.keep e11
  have E11 := hE.tr e11
  unfold sayF
  cases hfi : f.maps.find? (fun x => decide (x.1 = code)) with
  | some p =>
    rw [hfi] at hf
    obtain ⟨rfl, rfl⟩ := hf
    exact Br.t rfl ⟨ba_ext (by simp [bl]), E11⟩
  | none =>
    rw [hfi] at hf
    obtain ⟨rfl, rfl⟩ := hf
    refine Br.f rfl (H.ld 0 rfl (x := x.2.2.2.2.2.1) rfl ?_)
    rw [hn]
    refine Br.eq (fun h0 => ?_) fun h0 => ?_
    · have hnil : f.names = [] := List.length_eq_zero_iff.1 (by omega)
      rw [if_pos hnil]
      refine (c_usual (hT.keep E11)).mono ?_
      rintro r15 w16 ⟨hV, e16⟩
      have H := H.keep e16
      have E16 := E11.tr e16
      have hlen : r15.len = usualB.length := VRow.count bcell_len (by decide) hV
      have hub := usualB_len
      refine H.ld 0 rfl (x := x.2.1) rfl ?_
      rw [h.wide, hlen]
      cases hw : f.wide with
      | true => exact Br.t rfl ⟨by rw [if_pos (.inl rfl)], E16⟩
      | false =>
        refine Br.f rfl (Br.dec (fun h1 => ⟨by rw [if_pos (.inr (.inl h1))], E16⟩) fun h1 => Br.dec (fun h2 => ⟨by rw [if_pos (.inr (.inr (by omega)))], E16⟩) fun h2 => ?_)
        have hil : code.toNat < usualB.length := by omega
        have hgd : usualB.getD code.toNat [] = usualB[code.toNat] := by rw [List.getD_eq_getElem?_getD, List.getElem?_eq_getElem hil]; rfl
        obtain ⟨a, ha, hc⟩ := VRow.elem bcell_len hV (List.getElem?_eq_getElem hil) (by decide)
        have hul : usualB.all (fun u => decide (u.length ≤ 1048576)) = true := by decide +kernel
        have hu1 := List.all_eq_true.1 hul _ (List.getElem_mem hil)
        rw [if_neg (by rintro (h | h | h); cases h; omega; omega), hgd]
        generalize usualB[code.toNat] = u at *
        have hu1 : u.length ≤ 1048576 := by simpa using hu1
        rw [ha]
        refine ⟨by omega, by omega, Nn.of (Ld.mk (x := (⟨u.toArray⟩ : ByteArray)) (by have := hc 0 _ rfl; simpa using this) ?_)⟩
        refine (c_sign (hT.keep E16) (n := ⟨u.toArray⟩) (by show u.toArray.size ≤ _; rw [List.size_toArray]; exact hu1)).mono ?_
        rintro r w22 ⟨rfl, e22⟩
        exact ⟨by simp [bl], E16.tr e22⟩
    · have hne : f.names ≠ [] := fun e => h0 (by rw [e]; rfl)
      rw [if_neg hne]
      refine H.ld 0 rfl (x := x.2.1) rfl ?_
      rw [h.wide]
      have hlm : (f.names.map bl).length = f.names.length := List.length_map ..
      cases hw : f.wide with
      | true => exact Br.t rfl ⟨by rw [if_pos (.inl rfl)], E11⟩
      | false =>
        refine Br.f rfl (Br.dec (fun h1 => ⟨by rw [if_pos (.inr (.inl h1))], E11⟩) fun h1 => Br.dec (fun h2 => ⟨by rw [if_pos (.inr (.inr (by omega)))], E11⟩) fun h2 => ?_)
        have hil : code.toNat < f.names.length := by omega
        have hgd : (f.names.map bl).getD code.toNat [] = bl f.names[code.toNat] := by rw [List.getD_eq_getElem?_getD, List.getElem?_map, List.getElem?_eq_getElem hil]; rfl
        obtain ⟨a, ha, hc⟩ := VRow.elem scell_len (h.keep E11).names (List.getElem?_eq_getElem hil) (by decide)
        have hu1 := h.szs _ (List.getElem_mem hil)
        rw [if_neg (by rintro (h | h | h); cases h; omega; omega), hgd]
        generalize f.names[code.toNat] = u at *
        rw [ha]
        refine ⟨by omega, by omega, Nn.of (Ld.mk (x := u) (by have := hc 0 _ rfl; simpa using this) ?_)⟩
        refine (c_sign (hT.keep E11) hu1).mono ?_
        rintro r w22 ⟨rfl, e22⟩
        exact ⟨rfl, E11.tr e22⟩
end Fo
end Go.Proofs.YtcblpehnkogfdaaDoor
