/- Inflate: the reference's number, stored, copied, signs, Fixed. Conditions: sizes. -/
import Derived.Test.YtapgacggllbhiaaDoorInL
namespace Go.Proofs.YtapgacggllbhiaaDoor
namespace Inf
open Sh Bit
set_option linter.unusedVariables false
set_option linter.unusedSimpArgs false
set_option maxRecDepth 4000
set_option maxHeartbeats 2000000
/-- What a step of the reference answers. -/
def OutE (r : Except Int (List UInt8 × Nat)) (w w1 : World) (o x : Slc) (q e : Int) : Prop :=
  (∃ out1 q1, r = .ok (out1, q1) ∧ e = 0 ∧ q = ((q1 : Nat) : Int) ∧ BRow w1 x out1 ∧ Ext o.own w w1 ∧ ∀ j, x.own j → o.own j ∨ w.heap.size ≤ j) ∨
  ∃ y : Int, r = .error y ∧ e = y ∧ y ≠ 0 ∧ Ext o.own w w1
theorem no_own {w w1 : World} {o : Slc} (h : Ext (fun _ => False) w w1) : Ext o.own w w1 := h.mono fun _ _ e => e.elim
theorem OutE.pre {r : Except Int (List UInt8 × Nat)} {w w1 w2 : World} {o x : Slc} {q e : Int} (h : OutE r w1 w2 o x q e) (he : Ext (fun _ => False) w w1) : OutE r w w2 o x q e := by
  have := he.size
  rcases h with ⟨a, b, h1, h2, h3, h4, h5, h6⟩ | ⟨y, h1, h2, h3, h4⟩
  · exact .inl ⟨a, b, h1, h2, h3, h4, (no_own he).tr h5, fun j hj => by rcases h6 j hj with e | e; exact .inl e; exact .inr (by omega)⟩
  · exact .inr ⟨y, h1, h2, h3, (no_own he).tr h4⟩
attribute [local irreducible] Ld St Nw Nn Lt LdS
section
variable {w : World} {o : Slc} {s : ByteArray} {out : List UInt8} {p most : Nat}
theorem r_number {n : Nat} (hn : n ≤ 24) (hs : s.size ≤ 1000000) (hp : p ≤ 8 * s.size) (w : World) : C31 s (p : Int) (n : Int) w fun v q e w1 => ((∃ q1 : Nat, num s p n = .ok (v, q1) ∧ q = (q1 : Int) ∧ e = 0) ∨ (num s p n = .error 4 ∧ e = 4)) ∧ Ext (fun _ => False) w w1 := by
  refine T31 _ _ _ _ _ ?_
  unfold S31
  refine ⟨fun k st w1 => ∃ i : Nat, st = (tk s 1 p i, (i : Int)) ∧ i ≤ n ∧ k = n - i ∧ p + i ≤ 8 * s.size ∧ Ext (fun _ => False) w w1, n, ⟨0, rfl, by omega, rfl, by omega, Ext.refl _ _⟩, ?_⟩
  rintro k st w1 ⟨i, rfl, hi, rfl, hpi, he⟩
  unfold S31L1
  dsimp only
  refine Br.dec (fun q => ?_) fun q => ?_
  · rw [i64_id (n := (p : Int) + (i : Int)) (by omega), show (p : Int) + (i : Int) = ((p + i : Nat) : Int) by omega]
    refine (r_bit (p := p + i) hs (by omega) w1).mono ?_
    rintro r w2 ⟨hr, e2⟩
    have E := he.tr e2
    by_cases hend : 8 * s.size ≤ p + i
    · rw [if_pos hend] at hr
      subst hr
      refine Br.t rfl ⟨.inr ⟨?_, rfl⟩, E⟩
      unfold num
      rw [if_neg (by omega)]
    · rw [if_neg hend] at hr
      subst hr
      have hb := bt_bd s 1 (p + i)
      have ht := tk_bd s 1 p i
      have ht1 := tk_bd s 1 p (i + 1)
      have hp24 := two_pow_24 (show i ≤ 24 by omega)
      have hp25 := two_pow_24 (show i + 1 ≤ 24 by omega)
      have e1 : tk s 1 p (i + 1) = tk s 1 p i + bt s 1 (p + i) * 2 ^ i := by
        show (if (1 : Int) = 1 then _ else _) = _
        rw [if_pos rfl]
      refine Br.dec (fun q2 => by omega) fun q2 => ⟨by rw [u64_id (by omega)]; omega, Lt.of ?_⟩
      rw [u64_id (n := (i : Int)) (by omega), Int.toNat_natCast, show min i 64 = i by omega]
      generalize bt s 1 (p + i) * 2 ^ i = z at *
      rw [i64_id (n := z) (by omega), i64_id (n := (i : Int) + 1) (by omega), i64_id (by omega), ← e1]
      exact ⟨n - (i + 1), by omega, i + 1, rfl, by omega, rfl, by omega, E⟩
  · have : i = n := by omega
    subst this
    rw [i64_id (by omega)]
    refine ⟨.inl ⟨p + i, ?_, rfl, rfl⟩, he⟩
    unfold num
    rw [if_pos hpi]
theorem r_stored (h : BRow w o out) (hm : most ≤ 1048576) (hl : out.length ≤ most) (hs : s.size ≤ 1000000) (hp : p ≤ 8 * s.size) : C50 s (p : Int) o (most : Int) w fun x q e w1 => OutE (stored s p out most) w w1 o x q e := by
  refine T50 _ _ _ _ _ _ ?_
  unfold S50
  generalize hR : stored s p out most = R0
  unfold stored at hR
  have h65 : (2 : Int) ^ 16 = 65536 := by decide
  rw [i64_id (n := (p : Int) + 7) (by omega), tdiv_id (by omega), i64_id (n := ((p : Int) + 7) / 8) (by omega), i64_id (by omega), show ((p : Int) + 7) / 8 * 8 = (((p + 7) / 8 * 8 : Nat) : Int) by omega]
  refine (r_number (n := 16) (by omega) hs (by omega) w).mono ?_
  rintro v q e w1 ⟨hn, e1⟩
  rcases hn with ⟨q1, hn, rfl, rfl⟩ | ⟨hn, rfl⟩
  · refine Br.f rfl ?_
    rw [hn] at hR
    dsimp only at hR
    obtain ⟨a0, a1, rfl, a3⟩ := num_bd hn
    refine (r_number (n := 16) (by omega) hs (by omega) w1).mono ?_
    rintro m q e w2 ⟨hn2, e2⟩
    have E2 := e1.tr e2
    rcases hn2 with ⟨q2, hn2, rfl, rfl⟩ | ⟨hn2, rfl⟩
    · refine Br.f rfl ?_
      rw [hn2] at hR
      dsimp only at hR
      obtain ⟨b0, b1, rfl, b3⟩ := num_bd hn2
      rw [i64_id (n := 65535 - v) (by omega)]
      refine Br.ne (fun h3 => ?_) fun h3 => ?_
      · rw [if_pos h3] at hR
        exact .inr ⟨3, hR.symm, rfl, by decide, no_own E2⟩
      rw [if_neg (fun hh => hh h3)] at hR
      obtain ⟨z, rfl⟩ := Int.eq_ofNat_of_zero_le a0
      simp only [Int.toNat_natCast] at hR
      rw [h.len, i64_id (n := (most : Int) - ((out.length : Nat) : Int)) (by omega)]
      refine Br.dec (fun h5 => ?_) fun h5 => Lt.of ?_
      · rw [if_pos (by omega)] at hR
        exact .inr ⟨5, hR.symm, rfl, by decide, no_own E2⟩
      rw [if_neg (by omega)] at hR
      rw [tdiv_id (by omega), i64_id (n := (((p + 7) / 8 * 8 + 16 + 16 : Nat) : Int) / 8) (by omega), i64_id (n := ((s.size : Nat) : Int) - (((p + 7) / 8 * 8 + 16 + 16 : Nat) : Int) / 8) (by omega)]
      refine Br.dec (fun h6 => ?_) fun h6 => ?_
      · rw [if_pos (by omega)] at hR
        exact .inr ⟨4, hR.symm, rfl, by decide, no_own E2⟩
      rw [if_neg (by omega)] at hR
      rw [i64_id (n := (((p + 7) / 8 * 8 + 16 + 16 : Nat) : Int) / 8 + (z : Int)) (by omega)]
      refine ⟨by omega, by omega, by omega, by omega, Lt.of ?_⟩
      rw [show ((((p + 7) / 8 * 8 + 16 + 16 : Nat) : Int) / 8).toNat = ((p + 7) / 8 * 8 + 16 + 16) / 8 by omega, show ((((p + 7) / 8 * 8 + 16 + 16 : Nat) : Int) / 8 + (z : Int)).toNat = ((p + 7) / 8 * 8 + 16 + 16) / 8 + z by omega]
      have hsz : (s.extract (((p + 7) / 8 * 8 + 16 + 16) / 8) (((p + 7) / 8 * 8 + 16 + 16) / 8 + z)).size = z := by rw [ByteArray.size_extract]; omega
      have hrow := h.keep E2 fun _ _ h => h
      obtain ⟨o1, w7, hrun, hrow7, hext, hown⟩ := app_str (ty := 34) hrow (s.extract (((p + 7) / 8 * 8 + 16 + 16) / 8) (((p + 7) / 8 * 8 + 16 + 16) / 8 + z)) (by rw [hsz]; omega)
      refine ⟨o1, w7, hrun, .inl ⟨_, _, hR.symm, rfl, ?_, hrow7, (no_own E2).tr hext, fun j hj => ?_⟩⟩
      · rw [i64_id (n := 8 * (z : Int)) (by omega), i64_id (by omega)]; omega
      · have := E2.size
        rcases hown j hj with e | e
        · exact .inl e
        · exact .inr (by omega)
    · rw [hn2] at hR
      exact Br.t rfl (.inr ⟨4, hR.symm, rfl, by decide, no_own E2⟩)
  · rw [hn] at hR
    exact Br.t rfl (.inr ⟨4, hR.symm, rfl, by decide, no_own e1⟩)
/-- A list of lengths that the output does not touch. -/
def Dis (w : World) (a o : Slc) : Prop := ∀ j, a.own j → ¬ o.own j ∧ j < w.heap.size
theorem Dis.mv {w w1 : World} {a o o1 : Slc} (h : Dis w a o) (he : Ext o.own w w1) (ho : ∀ j, o1.own j → o.own j ∨ w.heap.size ≤ j) : Dis w1 a o1 := fun j hj => by
  obtain ⟨h1, h2⟩ := h j hj
  have := he.size
  refine ⟨fun e => ?_, by omega⟩
  rcases ho j e with e | e
  · exact h1 e
  · omega
theorem r_copied {sg : Nat} {far : List Int} {fs : Slc} (hsg : 256 < sg) (hsg2 : sg ≤ 100000) (h : BRow w o out) (hm : most ≤ 1048576) (hl : out.length ≤ most) (hs : s.size ≤ 1000000) (hp : p ≤ 8 * s.size) (hf : IV w fs far) (hk : Lok far) :
    C72 s (p : Int) (sg : Int) fs o (most : Int) w fun x q e w1 => OutE (copied s far most sg out p) w w1 o x q e := by
  refine T72 _ _ _ _ _ _ _ _ ?_
  unfold S72
  generalize hR : copied s far most sg out p = R0
  unfold copied at hR
  refine Br.dec (fun h1 => ?_) fun h1 => ?_
  · rw [if_pos (by omega)] at hR
    exact .inr ⟨13, hR.symm, rfl, by decide, Ext.refl _ _⟩
  rw [if_neg (by omega)] at hR
  obtain ⟨k, rfl⟩ : ∃ k, sg = 257 + k := ⟨sg - 257, by omega⟩
  have hk28 : k ≤ 28 := by omega
  rw [show 257 + k - 257 = k by omega] at hR
  refine (r_longer hk28 w).mono ?_
  rintro r w ⟨rfl, rfl⟩
  obtain ⟨b1, b2, b3, b4, b5⟩ := base_bd (k := k) (by omega)
  refine (r_number (n := moreL k) (more24 (by omega)).1 hs hp w).mono ?_
  rintro x q e w1 ⟨hn, e1⟩
  rcases hn with ⟨q1, hn, rfl, rfl⟩ | ⟨hn, rfl⟩
  rotate_left
  · rw [hn] at hR
    exact Br.t rfl (.inr ⟨4, hR.symm, rfl, by decide, no_own e1⟩)
  refine Br.f rfl ?_
  rw [hn] at hR
  dsimp only at hR
  obtain ⟨x0, x1, rfl, x3⟩ := num_bd hn
  have hp30 : (2 : Int) ^ moreL k ≤ 2 ^ 6 := two_pow_le (more6 hk28)
  have h06 : (2 : Int) ^ 6 = 64 := by decide
  have h24 : (2 : Int) ^ 24 = 16777216 := by decide
  refine (r_Size _ x w1).mono ?_
  rintro r e w2 ⟨hr, e2⟩
  have hsize : sizeF ((257 + k : Nat) : Int) x = ((firstL k : Int) + x, 0) := by
    unfold sizeF
    rw [if_neg (by omega), show (((257 + k : Nat) : Int) - 257).toNat = k by omega, if_neg (by omega)]
  rw [hsize] at hr
  obtain ⟨rfl, rfl⟩ := Prod.mk.inj hr
  have E2 := e1.tr e2
  refine (r_sym (hf.keep E2) hk hs (by omega)).mono ?_
  rintro d q e w3 ⟨hd, e3⟩
  have E3 := E2.tr e3
  rcases hd with ⟨d, q3, hd, rfl, rfl, rfl⟩ | ⟨y, hd, rfl, hy⟩
  rotate_left
  · rw [hd] at hR
    exact Br.t (by simpa using hy) (.inr ⟨_, hR.symm, rfl, hy, no_own E3⟩)
  refine Br.f rfl ?_
  rw [hd] at hR
  dsimp only at hR
  obtain ⟨d1, d2, d3⟩ := sym_ok hd
  have hlen := hk.len
  refine Br.dec (fun h2 => ?_) fun h2 => ?_
  · rw [if_pos (by omega)] at hR
    exact .inr ⟨13, hR.symm, rfl, by decide, no_own E3⟩
  rw [if_neg (by omega)] at hR
  refine (r_farther (k := d) (by omega) w3).mono ?_
  rintro r w3 ⟨rfl, rfl⟩
  obtain ⟨c1, c2, c3, c4, c5⟩ := base_bd (k := d) (by omega)
  have cp := (base_pos (k := d) (by omega)).1
  refine (r_number (n := moreD d) (more24 (by omega)).2 hs d2 w3).mono ?_
  rintro y q e w4 ⟨hn4, e4⟩
  have E4 := E3.tr e4
  rcases hn4 with ⟨q4, hn4, rfl, rfl⟩ | ⟨hn4, rfl⟩
  rotate_left
  · rw [hn4] at hR
    exact Br.t rfl (.inr ⟨4, hR.symm, rfl, by decide, no_own E4⟩)
  refine Br.f rfl ?_
  rw [hn4] at hR
  dsimp only at hR
  obtain ⟨y0, y1, rfl, y3⟩ := num_bd hn4
  have hp31 : (2 : Int) ^ moreD d ≤ 2 ^ 24 := two_pow_le (more24 (k := d) (by omega)).2
  refine (r_Far _ y w4).mono ?_
  rintro r e w5 ⟨hr, e5⟩
  have E5 := E4.tr e5
  have hfar : farF (d : Int) y = ((baseD d : Int) + y, 0) := by
    unfold farF
    rw [if_neg (by omega), Int.toNat_natCast, if_neg (by omega)]
  rw [hfar] at hr
  obtain ⟨rfl, rfl⟩ := Prod.mk.inj hr
  obtain ⟨x, rfl⟩ := Int.eq_ofNat_of_zero_le x0
  obtain ⟨y, rfl⟩ := Int.eq_ofNat_of_zero_le y0
  simp only [Int.toNat_natCast] at hR
  rw [h.len, i64_id (n := (most : Int) - ((out.length : Nat) : Int)) (by omega)]
  refine Br.dec (fun h3 => ?_) fun h3 => Br.dec (fun h5 => ?_) fun h5 => ?_
  · rw [if_pos (by omega)] at hR
    exact .inr ⟨14, hR.symm, rfl, by decide, no_own E5⟩
  · rw [if_neg (by omega), if_pos (by omega)] at hR
    exact .inr ⟨5, hR.symm, rfl, by decide, no_own E5⟩
  rw [if_neg (by omega), if_neg (by omega)] at hR
  have z5 := E5.size
  refine ⟨fun n st w9 => ∃ (j : Nat) (o9 : Slc), st = (o9, (j : Int)) ∧ j ≤ firstL k + x ∧ n = firstL k + x - j ∧ BRow w9 o9 (copy out (baseD d + y) j) ∧ Ext o.own w w9 ∧ ∀ i, o9.own i → o.own i ∨ w.heap.size ≤ i, firstL k + x, ⟨0, o, rfl, by omega, rfl, h.keep E5 (fun _ _ h => h), no_own E5, fun i hi => .inl hi⟩, ?_⟩
  rintro n st w9 ⟨j, o9, rfl, hj, rfl, H9, m9, own9⟩
  unfold S72L1
  dsimp only
  have hcl := copy_len out (baseD d + y) j
  rw [H9.len, hcl]
  refine Br.dec (fun q => ?_) fun q => ?_
  · rw [i64_id (n := ((out.length + j : Nat) : Int) - ((baseD d : Int) + (y : Int))) (by omega), show ((out.length + j : Nat) : Int) - ((baseD d : Int) + (y : Int)) = ((out.length + j - (baseD d + y) : Nat) : Int) by omega]
    have hlt : out.length + j - (baseD d + y) < (copy out (baseD d + y) j).length := by omega
    obtain ⟨g, hg, hc⟩ := H9.get (getD_some hlt)
    rw [hg]
    refine ⟨by omega, by omega, Nn.of ?_⟩
    simp only [add_lit, Int.toNat_natCast, Nat.mul_one, Nat.zero_add]
    refine Ld.mk (x := (((copy out (baseD d + y) j).getD (out.length + j - (baseD d + y)) 0).toNat : Int)) hc (Nw.of ?_)
    have H10 := H9.keep ((Ext.refl (fun _ => False) w9).alloc (.cells #[.int .u8 (((copy out (baseD d + y) j).getD (out.length + j - (baseD d + y)) 0).toNat : Int)] 5)) fun _ _ h => h
    obtain ⟨o1, w11, hrun, hrow, hext, hown⟩ := app_one (ty := 34) (b := (copy out (baseD d + y) j).getD (out.length + j - (baseD d + y)) 0) H10 (Blk.new w9 _ _) (by omega)
    have z9 := m9.size
    have z10 : w9.heap.size ≤ (w9.alloc (.cells #[.int .u8 (((copy out (baseD d + y) j).getD (out.length + j - (baseD d + y)) 0).toNat : Int)] 5)).heap.size := ((Ext.refl (fun _ => False) w9).alloc _).size
    refine ⟨o1, w11, hrun, firstL k + x - (j + 1), by omega, j + 1, o1, by rw [i64_id (by omega)]; rfl, by omega, rfl, ?_, ?_, fun i hi => ?_⟩
    · have e : copy out (baseD d + y) (j + 1) = copy out (baseD d + y) j ++ [(copy out (baseD d + y) j).getD (out.length + j - (baseD d + y)) 0] := by
        show copy out (baseD d + y) j ++ [(copy out (baseD d + y) j).getD ((copy out (baseD d + y) j).length - (baseD d + y)) 0] = _
        rw [hcl]
      rw [e]
      exact hrow
    · refine (m9.tr (no_own ((Ext.refl _ w9).alloc _))).trans hext (fun _ h => h) fun i hi e => ?_
      rcases own9 i e with e | e
      · exact e
      · omega
    · rcases hown i hi with e | e
      · exact own9 i e
      · exact .inr (by omega)
  · have : j = firstL k + x := by omega
    subst this
    exact .inl ⟨_, _, hR.symm, rfl, rfl, H9, m9, own9⟩
theorem r_signs {near far : List Int} {ns fs : Slc} (h : BRow w o out) (hm : most ≤ 1048576) (hl : out.length ≤ most) (hs : s.size ≤ 1000000) (hp : p ≤ 8 * s.size) (hn : IV w ns near) (hkn : Lok near) (hdn : Dis w ns o) (hf : IV w fs far) (hkf : Lok far) (hdf : Dis w fs o) :
    C53 s (p : Int) ns fs o (most : Int) w fun x q e w1 => OutE (signsF s near far most (8 * s.size + 1) out p) w w1 o x q e := by
  refine T53 _ _ _ _ _ _ _ _ ?_
  unfold S53
  have hnl := hkn.len
  generalize hR : signsF s near far most (8 * s.size + 1) out p = R0
  refine ⟨fun n st w1 => ∃ (o1 : Slc) (out1 : List UInt8) (q : Nat), st = ((q : Int), o1) ∧ BRow w1 o1 out1 ∧ out1.length ≤ most ∧ q ≤ 8 * s.size ∧ Ext o.own w w1 ∧ (∀ i, o1.own i → o.own i ∨ w.heap.size ≤ i) ∧ 8 * s.size < q + n ∧ signsF s near far most n out1 q = R0, 8 * s.size + 1, ⟨o, out, p, rfl, h, hl, hp, Ext.refl _ _, fun i hi => .inl hi, by omega, hR⟩, ?_⟩
  rintro n st w1 ⟨o1, out1, q, rfl, H1, hl1, hq, e1, own1, hfu, hres⟩
  unfold S53L1
  dsimp only
  obtain ⟨n, rfl⟩ : ∃ n', n = n' + 1 := ⟨n - 1, by omega⟩
  unfold signsF at hres
  have z1 := e1.size
  refine (r_sym (hn.keepF e1 fun j hj => (hdn j hj).1) hkn hs hq).mono ?_
  rintro g q e w2 ⟨hg, e2⟩
  have E2 := e1.tr (no_own e2)
  have z2 := e2.size
  rcases hg with ⟨g, q2, hg, rfl, rfl, rfl⟩ | ⟨y, hg, rfl, hy⟩
  rotate_left
  · rw [hg] at hres
    exact Br.t (by simpa using hy) (.inr ⟨_, hres.symm, rfl, hy, E2⟩)
  refine Br.f rfl ?_
  rw [hg] at hres
  dsimp only at hres
  obtain ⟨g1, g2, g3⟩ := sym_ok hg
  have H2 := H1.keep e2 fun _ _ h => h
  refine Br.eq (fun q4 => ?_) fun q4 => Br.dec (fun q5 => ?_) fun q5 => ?_
  · rw [if_pos (by omega)] at hres
    exact .inl ⟨_, _, hres.symm, rfl, rfl, H2, E2, fun j hj => own1 j hj⟩
  · rw [if_neg (by omega), if_pos (by omega)] at hres
    refine (r_copied (by omega) (by omega) H2 hm hl1 hs g2 ((hf.keepF e1 fun j hj => (hdf j hj).1).keep e2) hkf).mono ?_
    rintro x q e w3 hx
    rcases hx with ⟨out3, q3, hc, rfl, rfl, H3, e3, own3⟩ | ⟨y, hc, rfl, hy, e3⟩
    · refine Br.f rfl ?_
      rw [hc] at hres
      dsimp only at hres
      obtain ⟨c1, c2, c3⟩ := copied_ok hc
      refine ⟨n, by omega, x, out3, q3, rfl, H3, c3, c2, E2.trans e3 (fun _ h => h) fun i hi e => ?_, fun i hi => ?_, by omega, hres⟩
      · rcases own1 i e with e | e
        · exact e
        · omega
      · rcases own3 i hi with e | e
        · exact own1 i e
        · exact .inr (by omega)
    · rw [hc] at hres
      refine Br.t (by simpa using hy) (.inr ⟨_, hres.symm, rfl, hy, E2.trans e3 (fun _ h => h) fun i hi e => ?_⟩)
      rcases own1 i e with e | e
      · exact e
      · omega
  · rw [if_neg (by omega), if_neg (by omega)] at hres
    rw [H2.len]
    refine Br.dec (fun q6 => ?_) fun q6 => Nw.of ?_
    · rw [if_pos (by omega)] at hres
      exact .inr ⟨5, hres.symm, rfl, by decide, E2⟩
    rw [if_neg (by omega)] at hres
    have hb : IntKind.u8.wrap (g : Int) = ((UInt8.ofNat g).toNat : Int) := by
      rw [u8_id (by omega), UInt8.toNat_ofNat', Nat.mod_eq_of_lt (by omega)]
    rw [hb]
    have H4 := H2.keep ((Ext.refl (fun _ => False) w2).alloc (.cells #[.int .u8 ((UInt8.ofNat g).toNat : Int)] 5)) fun _ _ h => h
    obtain ⟨o5, w5, hrun, hrow, hext, hown⟩ := app_one (ty := 34) (b := UInt8.ofNat g) H4 (Blk.new w2 _ _) (by omega)
    have z10 : w2.heap.size ≤ (w2.alloc (.cells #[.int .u8 ((UInt8.ofNat g).toNat : Int)] 5)).heap.size := ((Ext.refl (fun _ => False) w2).alloc _).size
    refine ⟨o5, w5, hrun, n, by omega, o5, _, q2, rfl, hrow, by rw [List.length_append]; simp; omega, g2, (E2.tr (no_own ((Ext.refl _ w2).alloc _))).trans hext (fun _ h => h) fun i hi e => ?_, fun i hi => ?_, by omega, hres⟩
    · rcases own1 i e with e | e
      · exact e
      · omega
    · rcases hown i hi with e | e
      · exact own1 i e
      · exact .inr (by omega)
end
end Inf
end Go.Proofs.YtapgacggllbhiaaDoor
