/- Fonts: the units of a string; Check. Conditions: sizes, the laid tables. -/
import Derived.Test.YtcblpehnkogfdaaGreatDoorFoB
import Derived.Test.YtcblpehnkogfdaaGreatDoorVal
import Derived.Test.YtcblpehnkogfdaaGreatDoorBy
namespace Go.Proofs.YtcblpehnkogfdaaGreatDoor
namespace Fo
open Sh Go.Lib
set_option linter.unusedVariables false
set_option linter.unusedSimpArgs false
set_option maxRecDepth 4000
set_option maxHeartbeats 2000000
attribute [local irreducible] Ld St Nw Nn Lt LdS
/-- Two bytes more. -/
theorem two_app {wb w : World} {s : Slc} {l : By} (hE : Ext (fun _ => False) wb w) (own : BRow w s l) (ho : ∀ j, s.own j → wb.heap.size ≤ j) (hl : l.length + 2 ≤ 1099511627776) {x y : Int} {K : Slc → World → Prop}
    (kk : ∀ s' w', BRow w' s' (l ++ [ub x, ub y]) → (∀ j, s'.own j → wb.heap.size ≤ j) → Ext (fun _ => False) wb w' → Ext s.own w w' → K s' w') :
    Nw w (.cells #[.int .u8 (IntKind.u8.wrap x), .int .u8 (IntKind.u8.wrap y)] 5) fun w1 =>
      Rn Tryz.prog (Builtin.append_ #[169, 169] 169 #[Slc.v s, Slc.v ((⟨some ⟨w.heap.size, 0, none⟩, 2, 2⟩ : Slc))]) w1 Slc.v fun (x10 : Slc) vw11 => K x10 vw11 := by
  rw [← ub_val x, ← ub_val y]
  refine Nw.of ?_
  have e1 := (Ext.refl (fun _ => False) w).alloc (.cells #[.int .u8 ((ub x).toNat : Int), .int .u8 ((ub y).toNat : Int)] 5)
  have h2 : BRow (w.alloc (.cells #[.int .u8 ((ub x).toNat : Int), .int .u8 ((ub y).toNat : Int)] 5)) ⟨some ⟨w.heap.size, 0, none⟩, 2, 2⟩ [ub x, ub y] := Row.new w #[.int .u8 ((ub x).toNat : Int), .int .u8 ((ub y).toNat : Int)] 5 1 2 rfl
  obtain ⟨s', w', hrun, hrow, hext, hown⟩ := app_row (ty := 169) (own.keep e1 fun _ _ e => e) h2 (by simpa using hl)
  have e2 : Ext s.own w w' := (e1.mono fun _ _ e => e.elim).tr hext
  refine ⟨s', w', hrun, kk s' w' hrow (fun j hj => ?_) (ext_new (hE.tr e1) hext ho) e2⟩
  rcases hown j hj with e | e
  · exact ho j e
  · have h1 := (hE.tr e1).size
    omega
theorem brow_cells {w : World} {s : Slc} {l : By} (h : BRow w s l) {j : Nat} (hj : s.own j) : ∃ cs, Blk w j cs 5 := own_blk h hj
theorem iter_own {w : World} {s : Slc} {l : By} (h : BRow w s l) {b pos : Nat} {t : ByteArray} (hb : w.heap[b]? = some (.stringIter t pos)) : ¬ s.own b := fun hj => by
  obtain ⟨cs, hc⟩ := brow_cells h hj
  unfold Blk at hc
  rw [hb] at hc
  cases hc
theorem u16_len (c : Nat) : (Ut.u16 c).length = if 65535 < c then 2 else 1 := by
  unfold Ut.u16
  split <;> rfl
theorem c_units {s : ByteArray} (hs : s.size ≤ 1048576) (w : World) : C99 s w fun r w1 => r.size = ulen s ∧ Ext (fun _ => False) w w1 := by
  refine T99 _ _ _ ?_
  unfold S99
  refine Nw.of ?_
  have e2 := (Ext.refl (fun _ => False) w).alloc (.stringIter s 0)
  have hsl : (bl s).length = s.size := Array.length_toList
  refine ⟨fun m st w1 => ∃ (pos : Nat) (l : By), w1.heap[w.heap.size]? = some (.stringIter s pos) ∧ pos ≤ s.size ∧ m = s.size - pos ∧ BRow w1 st l ∧ l.length ≤ 4 * pos ∧ l.length + 2 * (Ut.unitsL ((bl s).drop pos)).length = ulen s ∧ (∀ j, st.own j → w.heap.size ≤ j) ∧ Ext (fun _ => False) w w1, s.size,
    ⟨0, [], by unfold World.alloc; simp, Nat.zero_le _, rfl, BRow.nil _, Nat.zero_le _, by rw [List.drop_zero]; simp [ulen], fun j hj => (no_own j hj).elim, e2⟩, ?_⟩
  rintro m st w4 ⟨pos, l, hit, hp, rfl, hB, hlp, hlu, ho, e4⟩
  unfold S99L1
  refine ⟨s, pos, rfl, hit, ?_⟩
  refine Br.dec (fun q => ?_) fun q => ?_
  · have hne : (bl s).drop pos ≠ [] := fun e => by
      have := congrArg List.length e
      rw [List.length_drop, hsl, List.length_nil] at this
      omega
    have hd := decodeL_drop s pos
    have hw := decodeL_width ((bl s).drop pos)
    have hle := decodeL_le ((bl s).drop pos) hne
    have hsc := Ut.rune_scalar ((bl s).drop pos)
    have hst := Ut.runes_step hne
    rw [List.length_drop, hsl] at hle
    have hd : decodeL ((bl s).drop pos) = Utf8.decode s pos := hd
    have hun : Ut.unitsL ((bl s).drop pos) = Ut.u16 (Utf8.decode s pos).1 ++ Ut.unitsL ((bl s).drop (pos + (Utf8.decode s pos).2)) := by
      unfold Ut.unitsL
      rw [hst, List.flatMap_cons, List.drop_drop, hd]
    rw [hd] at hw hle hsc
    rw [hun, List.length_append, u16_len] at hlu
    generalize (Utf8.decode s pos).1 = c at *
    generalize (Utf8.decode s pos).2 = n at *
    have hb : w.heap.size < w4.heap.size := by
      rcases Nat.lt_or_ge w.heap.size w4.heap.size with h | h
      · exact h
      · rw [Array.getElem?_eq_none h] at hit
        cases hit
    have e5 := itW_ext w4 w.heap.size s (pos + n)
    have hit5 := itW_at (s := s) (p := pos + n) hb
    have hB5 : BRow (itW w4 w.heap.size s (pos + n)) st l := hB.keep e5 fun j hj e => by
      have e : j = w.heap.size := e
      subst e
      exact iter_own hB hit hj
    have E5 : Ext (fun _ => False) w (itW w4 w.heap.size s (pos + n)) := ext_new e4 e5 fun j e => by
      have e : j = w.heap.size := e
      omega
    dsimp only
    generalize itW w4 w.heap.size s (pos + n) = w5 at *
    refine Br.dec (fun h1 => ?_) fun h1 => ?_
    · rw [if_pos (by omega)] at hlu
      refine Lt.of (Lt.of ?_)
      refine two_app E5 hB5 ho (by omega) fun s1 w1 hB1 ho1 E1 x1 => Lt.of (Lt.of ?_)
      have hit1 : w1.heap[w.heap.size]? = some (.stringIter s (pos + n)) := by rw [x1.block _ (by have := e5.size; omega) (iter_own hB5 hit5)]; exact hit5
      refine two_app E1 hB1 ho1 (by rw [List.length_append, List.length_cons, List.length_cons, List.length_nil]; omega) fun s2 w2 hB2 ho2 E2 x2 => ?_
      have hit2 : w2.heap[w.heap.size]? = some (.stringIter s (pos + n)) := by
        rw [x2.block _ (by have := e5.size; have := x1.size; omega) (iter_own hB1 hit1)]
        exact hit1
      refine ⟨s.size - (pos + n), by omega, pos + n, _, hit2, by omega, rfl, hB2, ?_, ?_, ho2, E2⟩
      · simp only [List.length_append, List.length_cons, List.length_nil]
        omega
      · simp only [List.length_append, List.length_cons, List.length_nil]
        omega
    · rw [if_neg (by omega)] at hlu
      refine two_app E5 hB5 ho (by omega) fun s1 w1 hB1 ho1 E1 x1 => ?_
      have hit1 : w1.heap[w.heap.size]? = some (.stringIter s (pos + n)) := by rw [x1.block _ (by have := e5.size; omega) (iter_own hB5 hit5)]; exact hit5
      refine ⟨s.size - (pos + n), by omega, pos + n, _, hit1, by omega, rfl, hB1, ?_, ?_, ho1, E1⟩
      · simp only [List.length_append, List.length_cons, List.length_nil]
        omega
      · simp only [List.length_append, List.length_cons, List.length_nil]
        omega
  · have : pos = s.size := by omega
    subst this
    rw [show (bl s).drop s.size = [] by rw [← hsl, List.drop_length]] at hlu
    refine ⟨_, _, str_row hB, ?_, e4⟩
    have e : (⟨l.toArray⟩ : ByteArray).size = l.length := List.size_toArray
    rw [e, ← hlu]
    rfl
end Fo
end Go.Proofs.YtcblpehnkogfdaaGreatDoor
/- Fonts: Check, Width, Codes. Conditions: sizes, the laid tables. -/
namespace Go.Proofs.YtcblpehnkogfdaaGreatDoor
namespace Fo
open Sh Go.Lib
set_option linter.unusedVariables false
set_option linter.unusedSimpArgs false
set_option maxRecDepth 4000
set_option maxHeartbeats 2000000
attribute [local irreducible] Ld St Nw Nn Lt LdS
theorem rowsE_cons (most : Int) (prev : Option Int) (x : Int × ByteArray) (r : List (Int × ByteArray)) : rowsE most prev (x :: r) = if rowE most prev x ≠ 0 then rowE most prev x else rowsE most (some x.1) r := rfl
theorem c_mapsE {w : World} {s : Slc} {l : List (Int × ByteArray)} (hT : TB w) (hV : VRow w s 2 (l.flatMap mcells)) (hl : l.length ≤ 1048576) (hz : ∀ x ∈ l, x.2.size ≤ 1048576) (wide : Bool) : C60 s wide w fun r w1 => r = mapsE l wide ∧ Ext (fun _ => False) w w1 := by
  have hlen : s.len = l.length := VRow.count mcells_len (by decide) hV
  refine T60 _ _ _ _ ?_
  unfold S60
  have key : S60J1 s (fun r w1 => r = mapsE l wide ∧ Ext (fun _ => False) w w1) (if wide then 65535 else 255) w := by
    unfold S60J1 mapsE
    rw [hlen]
    generalize (if wide then (65535 : Int) else 255) = most
    refine Br.dec (fun q => ⟨by rw [if_pos (by omega)], Ext.refl _ _⟩) fun q => ?_
    rw [if_neg (by omega)]
    refine ⟨fun m st w1 => ∃ (i : Nat) (prev : Option Int), st = (i : Int) ∧ i ≤ l.length ∧ m = l.length - i ∧ (i = 0 → prev = none) ∧ (∀ y, 0 < i → l[i - 1]? = some y → prev = some y.1) ∧ rowsE most none l = rowsE most prev (l.drop i) ∧ Ext (fun _ => False) w w1, l.length, ⟨0, none, rfl, Nat.zero_le _, rfl, fun _ => rfl, fun y h => absurd h (Nat.lt_irrefl _), rfl, Ext.refl _ _⟩, ?_⟩
    rintro m st w6 ⟨i, prev, rfl, hi, rfl, hp0, hp1, hr, e6⟩
    unfold S60L1
    rw [hlen]
    refine Br.dec (fun q => ?_) fun q => ?_
    · have hil : i < l.length := by omega
      have gi : l[i]? = some l[i] := List.getElem?_eq_getElem hil
      obtain ⟨a, ha, hc⟩ := VRow.elem mcells_len (hV.keep e6) gi (by decide)
      have hxz := hz _ (List.getElem_mem hil)
      rw [List.drop_eq_getElem_cons hil, rowsE_cons] at hr
      have hnx : ∀ y, 0 < i + 1 → l[i + 1 - 1]? = some y → (some l[i].1 : Option Int) = some y.1 := fun y _ hy => by
        rw [Nat.add_sub_cancel, gi] at hy
        cases hy
        rfl
      generalize l[i] = x at *
      rw [ha]
      refine ⟨by omega, by omega, Nn.of ?_⟩
      rw [Int.toNat_natCast]
      refine Ld.mk (x := x.1) (by have := hc 0 _ rfl; simpa using this) (Ld.mk (x := x.2) (by rw [add_add']; exact hc 1 _ rfl) ?_)
      refine (Hn.start w6).nw fun w11 H => ?_
      have H : Hn w6 w11 [(w6.heap.size, mcells (0, ⟨#[]⟩), 145)] := H
      refine H.st 0 rfl (of_decide_eq_true rfl) fun w12 H => H.st 0 rfl (of_decide_eq_true rfl) fun w13 H => ?_
      have H : Hn w6 w13 [(w6.heap.size, mcells x, 145)] := H
      have E13 := e6.tr H.ext
      refine H.ld 0 rfl (x := x.1) rfl ?_
      have r2 : (x.1 < 0 ∨ most < x.1) → rowE most prev x = 2 := fun h => by unfold rowE; rw [if_pos h]
      refine Br.dec (fun h1 => ⟨by rw [hr, r2 (.inl h1)]; rfl, E13⟩) fun h1 => H.ld 0 rfl (x := x.1) rfl ?_
      refine Br.dec (fun h2 => ⟨by rw [hr, r2 (.inr (by omega))]; rfl, E13⟩) fun h2 => H.ld 0 rfl (x := x.2) rfl ?_
      have hn2 : ¬ (x.1 < 0 ∨ most < x.1) := by omega
      refine (c_valid (hT.keep E13) (by omega)).mono ?_
      rintro r w18 ⟨rfl, e18⟩
      have H := H.keep e18
      have E18 := E13.tr e18
      cases hv : validD x.2.data.toList with
      | false =>
        refine Br.t rfl ⟨?_, E18⟩
        have : rowE most prev x = 3 := by unfold rowE; rw [if_neg hn2, if_pos (show validD (bl x.2) = false from hv)]
        rw [hr, this]
        rfl
      | true =>
      refine Br.f rfl (H.ld 0 rfl (x := x.2) rfl ?_)
      have hn3 : ¬ (validD (bl x.2) = false) := by
        intro h
        rw [show bl x.2 = x.2.data.toList from rfl, hv] at h
        cases h
      refine (c_units hxz w18).mono ?_
      rintro r w21 ⟨hru, e21⟩
      have H := H.keep e21
      have E21 := E18.tr e21
      rw [hru]
      refine Br.dec (fun h4 => ⟨?_, E21⟩) fun h4 => ?_
      · have : rowE most prev x = 5 := by unfold rowE; rw [if_neg hn2, if_neg hn3, if_pos (by omega)]
        rw [hr, this]
        rfl
      have hn4 : ¬ (512 < ulen x.2) := by omega
      have hE : rowE most prev x = prevE prev x.1 := by unfold rowE; rw [if_neg hn2, if_neg hn3, if_neg hn4]
      have next : ∀ w', rowE most prev x = 0 → Ext (fun _ => False) w w' → ∃ n', n' < l.length - i ∧ ∃ (i_1 : Nat) (prev : Option Int), IntKind.i64.wrap ((i : Int) + 1) = (i_1 : Int) ∧ i_1 ≤ l.length ∧ n' = l.length - i_1 ∧ (i_1 = 0 → prev = none) ∧ (∀ y, 0 < i_1 → l[i_1 - 1]? = some y → prev = some y.1) ∧ rowsE most none l = rowsE most prev (l.drop i_1) ∧ Ext (fun _ => False) w w' := fun w' h0 h1 =>
        ⟨l.length - (i + 1), by omega, i + 1, some x.1, by rw [i64_id (by omega)]; rfl, by omega, rfl, fun h => by omega, hnx, by rw [hr, h0]; rfl, h1⟩
      have Hd := H.drew
      have Hdd := Hd.drew
      refine Br.dec (fun h5 => ?_) fun h5 => ?_
      · have hi0 : 0 < i := by omega
        have hk : i - 1 < l.length := by omega
        have ek : IntKind.i64.wrap ((i : Int) - 1) = ((i - 1 : Nat) : Int) := by rw [i64_id (by omega)]; omega
        have gk : l[i - 1]? = some l[i - 1] := List.getElem?_eq_getElem hk
        have hpv := hp1 _ hi0 gk
        obtain ⟨a2, ha2, hc2⟩ := VRow.elem mcells_len (hV.keep E21.drew) gk (by decide)
        rw [ha] at ha2
        cases ha2
        generalize l[i - 1] = y at *
        subst hpv
        rw [ek]
        have b1 : (0 : Int) ≤ ((i - 1 : Nat) : Int) := by omega
        have b2 : ((i - 1 : Nat) : Int) < ((l.length : Nat) : Int) := by omega
        have cy : w21.drew.cell? (a.add (((i - 1 : Nat) : Int).toNat * 2)) = some (.int .i64 y.1) := by rw [Int.toNat_natCast]; have := hc2 0 _ rfl; simpa using this
        refine Hd.ld 0 rfl (x := x.1) rfl ⟨b1, b2, Nn.of (Ld.mk (x := y.1) cy ?_)⟩
        refine Br.eq (fun h6 => ⟨?_, E21.drew⟩) fun h6 => ?_
        · rw [hr, hE]
          simp [prevE, h6]
        · refine Br.t (by rw [decide_eq_true_eq]; omega) (Hdd.ld 0 rfl (x := x.1) rfl ⟨b1, b2, Nn.of (Ld.mk (x := y.1) cy ?_)⟩)
          refine Br.dec (fun h7 => ⟨?_, E21.drew.drew⟩) fun h7 => next _ ?_ E21.drew.drew
          · rw [hr, hE]
            simp [prevE, h6, h7]
          · rw [hE]
            simp [prevE, h6, h7]
      · have hi0 : i = 0 := by omega
        have hpv := hp0 hi0
        subst hpv
        exact Br.f (by rw [decide_eq_false_iff_not]; omega) (next _ hE E21.drew.drew)
    · have : i = l.length := by omega
      subst this
      rw [List.drop_length] at hr
      exact ⟨hr.symm, e6⟩
  refine ⟨fun st w' => st = (if wide then 65535 else 255) ∧ w' = w, fun st w' hh => ?_, ?_⟩
  · obtain ⟨rfl, rfl⟩ := hh
    exact key
  · cases wide with
    | true => exact Br.t rfl ⟨rfl, rfl⟩
    | false => exact Br.f rfl ⟨rfl, rfl⟩
theorem c_chk {w : World} {x : FT} {f : Font} (hT : TB w) (h : FoV w x f) : C33 x w fun r w1 => r = chkF f ∧ Ext (fun _ => False) w w1 := by
  refine T33 _ _ _ ?_
  unfold S33
  refine Nw.of ?_
  have H := fo_blk w x
  have hE := H.ext
  generalize w.alloc (.cells (Sig.cells LiA34 x).toArray 35) = wd at *
  refine H.ldT (i := 0) (b := w.heap.size) (o := 0) (t := 35) (ts := LiA34) (x := x) (pre := []) (post := []) rfl rfl ?_
  refine (c_may (h.keep hE)).mono ?_
  rintro r w8 ⟨rfl, e8⟩
  have H := H.keep e8
  have E8 := hE.tr e8
  unfold chkF
  cases hm : mayF f with
  | false => exact Br.t rfl ⟨rfl, E8⟩
  | true =>
    refine Br.f rfl (H.ld 0 rfl (x := x.2.2.2.2.2.2) rfl (H.ld 0 rfl (x := x.2.1) rfl ?_))
    refine (c_mapsE (hT.keep E8) (h.keep E8).maps h.lm h.szm x.2.1).mono ?_
    rintro r w12 ⟨rfl, e12⟩
    refine ⟨?_, E8.tr e12⟩
    rw [if_neg (by decide), h.wide]
theorem c_width {w : World} {x : FT} {f : Font} (h : FoV w x f) (h0 : 0 ≤ f.first) {code : Int} (hc : I64 code) : C65 x code w fun r w1 => r = widthF f code ∧ Ext (fun _ => False) w w1 := by
  refine T65 _ _ _ _ ?_
  unfold S65
  refine Nw.of ?_
  have H := fo_blk w x
  have hE := H.ext
  have hw := h.wlen
  have hif := h.ifirst
  have hlw := h.lw
  unfold I64 at hif hc
  generalize w.alloc (.cells (Sig.cells LiA34 x).toArray 35) = wd at *
  unfold widthF
  refine H.ld 0 rfl (x := x.2.2.1) rfl ?_
  rw [h.first]
  refine Br.dec (fun q => H.ld 0 rfl (x := x.2.2.2.2.1) rfl ⟨by rw [h.missing, if_pos (.inl q)], hE⟩) fun q => ?_
  refine H.ld 0 rfl (x := x.2.2.1) rfl (H.ld 0 rfl (x := x.2.2.2.1) rfl ?_)
  rw [h.first, hw, i64_id (n := code - f.first) (by omega)]
  refine Br.dec (fun q2 => H.ld 0 rfl (x := x.2.2.2.2.1) rfl ⟨by rw [h.missing, if_pos (.inr q2)], hE⟩) fun q2 => ?_
  refine H.ld 0 rfl (x := x.2.2.1) rfl ?_
  rw [h.first, i64_id (n := code - f.first) (by omega)]
  refine Br.dec (fun q3 => absurd q3 (by omega)) fun q3 => ?_
  refine H.ld 0 rfl (x := x.2.2.2.1) rfl (H.ld 0 rfl (x := x.2.2.1) rfl ?_)
  rw [h.first, hw, i64_id (n := code - f.first) (by omega)]
  have hil : (code - f.first).toNat < f.widths.length := by omega
  obtain ⟨a, ha, hcl⟩ := VRow.elem icell_len (h.widths.keep hE) (List.getElem?_eq_getElem hil) (by decide)
  have hgd : f.widths.getD (code - f.first).toNat 0 = f.widths[(code - f.first).toNat] := by rw [List.getD_eq_getElem?_getD, List.getElem?_eq_getElem hil]; rfl
  rw [ha]
  refine ⟨by omega, by omega, Nn.of (Ld.mk (x := f.widths[(code - f.first).toNat]) (by have := hcl 0 _ rfl; simpa using this) ⟨?_, hE⟩)⟩
  rw [if_neg (by omega), hgd]
theorem ior_add {a b i : Nat} (ha : a * 2 ^ i < 9223372036854775808) (hb : b < 2 ^ i) (h2 : a * 2 ^ i + b < 9223372036854775808) : ior .i64 (((a * 2 ^ i : Nat)) : Int) (b : Int) = ((a * 2 ^ i + b : Nat) : Int) := by
  unfold ior
  have e : (BitVec.ofInt IntKind.i64.bits (((a * 2 ^ i : Nat)) : Int) ||| BitVec.ofInt IntKind.i64.bits (b : Int)).toNat = a * 2 ^ i + b := by
    rw [BitVec.toNat_or]
    have hbits : IntKind.i64.bits = 64 := rfl
    have t : ∀ n : Nat, n < 9223372036854775808 → (BitVec.ofInt IntKind.i64.bits (n : Int)).toNat = n := fun n hn => by
      rw [BitVec.toNat_ofInt, hbits]
      omega
    rw [t _ ha, t b (by omega)]
    have h3 := Nat.shiftLeft_add_eq_or_of_lt hb a
    rw [Nat.shiftLeft_eq] at h3
    exact h3.symm
  rw [e]
  exact i64_id (by omega)
theorem elI : El Tryz.prog 132 3 1 8 (.int .i64 0) := ⟨by kernel_rfl, by kernel_rfl, by kernel_rfl, by kernel_rfl, rfl⟩
theorem icell_one (n : Int) : ∀ v ∈ icell n, v.oneCell' = true := fun v hv => by
  simp only [icell, List.mem_cons, List.not_mem_nil, or_false] at hv
  subst hv
  rfl
/-- One number more. -/
theorem int_app {wb w : World} {s : Slc} {l : List Int} (hE : Ext (fun _ => False) wb w) (own : Row w s 3 1 (l.flatMap icell)) (ho : ∀ j, s.own j → wb.heap.size ≤ j) (hl : l.length ≤ 4194304) {n : Int} {K : Slc → World → Prop}
    (kk : ∀ s' w', Row w' s' 3 1 ((l ++ [n]).flatMap icell) → (∀ j, s'.own j → wb.heap.size ≤ j) → Ext (fun _ => False) wb w' → K s' w') :
    Nw w (.cells #[.int .i64 n] 3) fun w1 =>
      Rn Tryz.prog (Builtin.append_ #[132, 132] 132 #[Slc.v s, Slc.v ((⟨some ⟨w.heap.size, 0, none⟩, 1, 1⟩ : Slc))]) w1 Slc.v fun (x10 : Slc) vw11 => K x10 vw11 := by
  refine Nw.of ?_
  have hsl : s.len = l.length := VRow.count icell_len (by decide) (Row.view own)
  have e1 := (Ext.refl (fun _ => False) w).alloc (.cells (icell n).toArray 3)
  obtain ⟨s', w', hrun, hrow, hlen', hext, hown⟩ := elI.app1 (ty := 132) (ys := icell n) (own.keep e1 fun _ _ e => e) (Blk.new w (icell n).toArray 3) rfl (icell_one _) (by omega) (by omega)
  refine ⟨s', w', hrun, kk s' w' (by rw [List.flatMap_append]; simpa using hrow) (fun j hj => ?_) (ext_new (hE.tr e1) hext ho)⟩
  rcases hown j hj with e | e
  · exact ho j e
  · have h1 := (hE.tr e1).size
    omega
theorem pairs_take : ∀ (l : By) (i : Nat), 2 * i + 1 < l.length → pairs (l.take (2 * (i + 1))) = pairs (l.take (2 * i)) ++ [256 * ((l.getD (2 * i) 0).toNat : Int) + ((l.getD (2 * i + 1) 0).toNat : Int)]
  | [], i, h => by simp at h
  | [a], i, h => by simp at h
  | a :: b :: r, 0, h => by simp [pairs]
  | a :: b :: r, i + 1, h => by
    have ih := pairs_take r i (by simp only [List.length_cons] at h; omega)
    have e1 : 2 * (i + 1 + 1) = 2 * (i + 1) + 1 + 1 := by omega
    have e2 : 2 * (i + 1) = 2 * i + 1 + 1 := by omega
    rw [e1, List.take_succ_cons, List.take_succ_cons]
    conv => rhs; rw [e2, List.take_succ_cons, List.take_succ_cons]
    show _ :: pairs (r.take (2 * (i + 1))) = (_ :: pairs (r.take (2 * i))) ++ _
    rw [ih]
    rfl
theorem c_codes {w : World} {x : FT} {f : Font} (h : FoV w x f) {s : ByteArray} (hs : s.size ≤ 1048576) : C91 x s w fun r e w1 => e = (codesF f.wide s).2 ∧ VRow w1 r 1 ((codesF f.wide s).1.flatMap icell) ∧ Ext (fun _ => False) w w1 ∧ ∀ j, r.own j → w.heap.size ≤ j := by
  refine T91 _ _ _ _ ?_
  unfold S91
  refine Nw.of ?_
  have H := fo_blk w x
  have hE := H.ext
  have hsl : (bl s).length = s.size := Array.length_toList
  generalize w.alloc (.cells (Sig.cells LiA34 x).toArray 35) = wd at *
  refine H.ld 0 rfl (x := x.2.1) rfl ?_
  rw [h.wide]
  cases hw : f.wide with
  | false =>
    refine Br.t rfl ?_
    unfold codesF
    rw [if_pos rfl]
    refine ⟨fun m st w1 => ∃ i : Nat, st.2 = (i : Int) ∧ i ≤ s.size ∧ m = s.size - i ∧ Row w1 st.1 3 1 ((((bl s).take i).map fun b => (b.toNat : Int)).flatMap icell) ∧ (∀ j, st.1.own j → w.heap.size ≤ j) ∧ Ext (fun _ => False) w w1, s.size, ⟨0, rfl, Nat.zero_le _, rfl, Row.nil _ _ _, fun j hj => (no_own j hj).elim, hE⟩, ?_⟩
    rintro m ⟨so, i'⟩ w13 ⟨i, hi', hi, rfl, hR, ho, e13⟩
    simp only at hi' hR ho
    subst hi'
    unfold S91L1
    dsimp only
    refine Br.dec (fun q => ⟨by omega, by omega, ?_⟩) fun q => ?_
    · have hil : i < (bl s).length := by omega
      have hbt := bAt_list s i
      have hbb : (bl s).getD i 0 = (bl s)[i] := by rw [List.getD_eq_getElem?_getD, List.getElem?_eq_getElem hil]; rfl
      have hb1 : bAt s (i : Int) = ((bl s)[i].toNat : Int) := by rw [hbt]; exact congrArg (fun b : UInt8 => ((b.toNat : Nat) : Int)) hbb
      have hlt := (bl s)[i].toNat_lt
      rw [hb1, i64_id (by omega)]
      refine int_app e13 hR ho (by rw [List.length_map, List.length_take]; omega) fun s' w' h1 h2 h3 => ?_
      refine ⟨s.size - (i + 1), by omega, i + 1, by rw [i64_id (by omega)]; rfl, by omega, rfl, ?_, h2, h3⟩
      rw [take_succ hil, List.map_append]
      exact h1
    · have : i = (bl s).length := by omega
      subst this
      rw [List.take_length] at hR
      exact ⟨rfl, Row.view hR, e13, ho⟩
  | true =>
    refine Br.f rfl ?_
    unfold codesF
    rw [if_neg (by decide)]
    have ht : Int.tmod ((s.size : Nat) : Int) 2 = ((s.size % 2 : Nat) : Int) := by rw [tmod_id (by omega)]; rfl
    rw [ht]
    refine Br.ne (fun q => ?_) fun q => ?_
    · rw [if_pos (by omega)]
      exact ⟨rfl, Row.view (Row.nil _ 3 _), hE, fun j hj => (no_own j hj).elim⟩
    · rw [if_neg (by omega)]
      refine ⟨fun m st w1 => ∃ i : Nat, st.2 = ((2 * i : Nat) : Int) ∧ 2 * i ≤ s.size ∧ m = s.size - i ∧ Row w1 st.1 3 1 ((pairs ((bl s).take (2 * i))).flatMap icell) ∧ (pairs ((bl s).take (2 * i))).length = i ∧ (∀ j, st.1.own j → w.heap.size ≤ j) ∧ Ext (fun _ => False) w w1, s.size, ⟨0, rfl, Nat.zero_le _, rfl, Row.nil _ _ _, rfl, fun j hj => (no_own j hj).elim, hE⟩, ?_⟩
      rintro m ⟨so, i'⟩ w19 ⟨i, hi', hi, rfl, hR, hpl, ho, e19⟩
      simp only at hi' hR ho
      subst hi'
      unfold S91L2
      dsimp only
      refine Br.dec (fun q2 => ?_) fun q2 => ?_
      · have hil : 2 * i + 1 < (bl s).length := by omega
        have ek : IntKind.i64.wrap (((2 * i : Nat) : Int) + 1) = ((2 * i + 1 : Nat) : Int) := by rw [i64_id (by omega)]; rfl
        have hpt := pairs_take (bl s) i hil
        have hb0 : bAt s ((2 * i : Nat) : Int) = (((bl s).getD (2 * i) 0).toNat : Int) := bAt_list s (2 * i)
        have hb1 : bAt s ((2 * i + 1 : Nat) : Int) = (((bl s).getD (2 * i + 1) 0).toNat : Int) := bAt_list s (2 * i + 1)
        have l0 := ((bl s).getD (2 * i) 0).toNat_lt
        have l1 := ((bl s).getD (2 * i + 1) 0).toNat_lt
        rw [ek, hb0, hb1]
        generalize ((bl s).getD (2 * i) 0).toNat = a at *
        generalize ((bl s).getD (2 * i + 1) 0).toNat = b at *
        have eo : ior .i64 (IntKind.i64.wrap (IntKind.i64.wrap (a : Int) * 2 ^ 8)) (IntKind.i64.wrap (b : Int)) = 256 * (a : Int) + (b : Int) := by
          rw [i64_id (n := (a : Int)) (by omega), i64_id (n := (b : Int)) (by omega), i64_id (by omega)]
          have := ior_add (a := a) (b := b) (i := 8) (by omega) (by omega) (by omega)
          have e1 : ((a * 2 ^ 8 : Nat) : Int) = (a : Int) * 2 ^ 8 := by omega
          rw [e1] at this
          rw [this]
          omega
        rw [eo]
        refine ⟨by omega, by omega, by omega, by omega, ?_⟩
        refine int_app e19.drew (hR.keep (Ext.refl (fun _ => False) w19).drew fun _ _ e => e) ho (by omega) fun s' w' h1 h2 h3 => ?_
        refine ⟨s.size - (i + 1), by omega, i + 1, by rw [i64_id (by omega)]; omega, by omega, rfl, ?_, ?_, h2, h3⟩
        · rw [hpt]
          exact h1
        · rw [hpt, List.length_append, hpl]
          rfl
      · have : 2 * i = (bl s).length := by omega
        rw [this, List.take_length] at hR
        exact ⟨rfl, Row.view hR, e19, ho⟩
end Fo
end Go.Proofs.YtcblpehnkogfdaaGreatDoor
