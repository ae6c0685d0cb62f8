/- Inflate: the program's copies and signs. Conditions: sizes. -/
import Derived.Test.YtapgacggllbhiaaDoorInG
namespace Go.Proofs.YtapgacggllbhiaaDoor
namespace Inf
open Sh Bit
set_option linter.unusedVariables false
set_option linter.unusedSimpArgs false
set_option maxRecDepth 4000
set_option maxHeartbeats 2000000
theorem LdS.mk {α : Type} {S : World → Prop} {V : α → Value} {K : α → Prop} {x : α} {a : Addr} (h : ∀ w, S w → w.cell? a = some (V x)) (k : K x) : LdS S a V K := ⟨x, h, k⟩
theorem getD_some {l : List UInt8} {i : Nat} (h : i < l.length) : l[i]? = some (l.getD i 0) := by
  rw [List.getD_eq_getElem?_getD, List.getElem?_eq_getElem h]
  rfl
theorem more24 {k : Nat} (hk : k ≤ 29) : moreL k ≤ 24 ∧ moreD k ≤ 24 := by
  constructor
  · unfold moreL; split <;> omega
  · unfold moreD; omega
theorem more6 {k : Nat} (hk : k ≤ 28) : moreL k ≤ 6 := by unfold moreL; split <;> omega
theorem base_pos {k : Nat} (hk : k ≤ 30) : 1 ≤ baseD k ∧ 1 ≤ baseL k := by
  constructor
  · induction k with
    | zero => exact Nat.le_refl _
    | succ k ih => exact Nat.le_trans (ih (by omega)) (Nat.le_add_right _ _)
  · induction k with
    | zero => show 1 ≤ 3; omega
    | succ k ih => exact Nat.le_trans (ih (by omega)) (Nat.le_add_right _ _)
attribute [local irreducible] Ld St Nw Nn Lt LdS
section
variable {w : World} {fb rb : Nat} {o : Slc} {s : ByteArray} {out : List UInt8} {p most : Nat}
theorem c_copied {sg : Nat} {far : List Int} {lo hi tb : Nat} (hsg : 256 < sg) (hsg2 : sg ≤ 100000) (h : FS w fb rb o s out p most) (hs : s.size ≤ 1000000) (ht : TB w lo hi tb far) (hk : Lok far) (hS : Sep lo hi fb rb o w) :
    C78 (some (⟨fb, 0, none⟩ : Addr)) (sg : Int) (some (⟨tb, 0, none⟩ : Addr)) w (OkR fb rb w o s most (copied s far most sg out p)) (ErR fb rb w o (copied s far most sg out p)) := by
  refine T78 _ _ _ _ _ _ ?_
  unfold S78 copied
  refine (c_need _ 13 _).mono ?_ ?_
  rotate_left
  · rintro v _ ⟨rfl, h1, rfl⟩
    have h1 := of_decide_eq_false h1
    rw [if_pos (by omega)]
    exact ⟨13, rfl, rfl, Ext.refl _ _⟩
  rintro w ⟨h1, rfl⟩
  have h1 := of_decide_eq_true h1
  rw [if_neg (by omega)]
  obtain ⟨k, rfl⟩ : ∃ k, sg = 257 + k := ⟨sg - 257, by omega⟩
  have hk28 : k ≤ 28 := by omega
  rw [i64_id (by omega), show ((257 + k : Nat) : Int) - 257 = (k : Int) by omega, show 257 + k - 257 = k by omega]
  refine (c_size k hk28 w).mono ?_
  rintro r w1 ⟨rfl, e1⟩
  obtain ⟨b1, b2, b3, b4, b5⟩ := base_bd (k := k) (by omega)
  have H1 := h.keep e1
  have m1 : Mv fb rb w w1 o o := .no e1
  refine (c_bits (n := moreL k) (more24 (by omega)).1 H1 hs).mono ?_ ?_
  rotate_left
  · rintro v w2 ⟨hn, rfl, e2⟩
    rw [hn]
    exact ⟨4, rfl, rfl, m1.er (Mv.rd e2).ext⟩
  rintro x w2 ⟨q, hn, H2, e2⟩
  rw [hn]
  have m2 := m1.tr (.rd e2)
  obtain ⟨x0, x1, x2, x3⟩ := num_bd hn
  dsimp only
  have hp30 : (2 : Int) ^ moreL k ≤ 2 ^ 6 := two_pow_le (more6 hk28)
  have h06 : (2 : Int) ^ 6 = 64 := by decide
  have h24 : (2 : Int) ^ 24 = 16777216 := by decide
  refine (c_Size _ x w2).mono ?_
  rintro r e w3 ⟨hr, e3⟩
  have H3 := H2.keep e3
  have m3 := m2.tr (.no e3)
  have hsize : sizeF ((257 + k : Nat) : Int) x = ((firstL k : Int) + x, 0) := by
    unfold sizeF
    rw [if_neg (by omega), show (((257 + k : Nat) : Int) - 257).toNat = k by omega, if_neg (by omega)]
  rw [hsize] at hr
  obtain ⟨rfl, rfl⟩ := Prod.mk.inj hr
  refine (c_mustI _ 0 w3).mono ?_ ?_
  rotate_left
  · rintro v _ ⟨_, h2, _⟩
    exact absurd rfl h2
  rintro r w3 ⟨_, rfl, rfl⟩
  refine Nn.of (Ld.of H3.blk (o := 0) (x := at0 rb) rfl ?_)
  refine (c_tread (ht.mv hS m3.ext) hk H3.rd hs hS.r).mono ?_
  rintro r e w4 ⟨e4, q4, hT, hr4⟩
  have m4 := m3.tr (.rd e4)
  refine (c_mustI _ e w4).mono ?_ ?_
  rotate_left
  · rintro v _ ⟨rfl, h2, rfl⟩
    rcases hT with ⟨g, _, _, h3⟩ | ⟨h3, _⟩
    · exact absurd h3 h2
    · rw [h3]
      exact ⟨e, rfl, rfl, m4.ext⟩
  rintro r w4 ⟨rfl, rfl, rfl⟩
  obtain ⟨d, hd, rfl, _⟩ : ∃ g : Nat, sym far s q = .ok (g, q4) ∧ r = (g : Int) ∧ (0 : Int) = 0 := by
    rcases hT with hT | ⟨_, h3⟩
    · exact hT
    · exact absurd rfl h3
  rw [hd]
  have H4 := H3.read e4 (hr4 rfl)
  obtain ⟨d1, d2, d3⟩ := sym_ok hd
  have hlen := hk.len
  dsimp only
  refine (c_need _ 13 _).mono ?_ ?_
  rotate_left
  · rintro v _ ⟨rfl, h2, rfl⟩
    have h2 := of_decide_eq_false h2
    rw [if_pos (by omega)]
    exact ⟨13, rfl, rfl, m4.ext⟩
  rintro w4 ⟨h2, rfl⟩
  have h2 := of_decide_eq_true h2
  rw [if_neg (by omega)]
  refine (c_farS d (by omega) w4).mono ?_
  rintro r w5 ⟨rfl, e5⟩
  have H5 := H4.keep e5
  have m5 := m4.tr (.no e5)
  obtain ⟨c1, c2, c3, c4, c5⟩ := base_bd (k := d) (by omega)
  have cp := (base_pos (k := d) (by omega)).1
  refine (c_bits (n := moreD d) (more24 (by omega)).2 H5 hs).mono ?_ ?_
  rotate_left
  · rintro v w6 ⟨hn, rfl, e6⟩
    rw [hn]
    exact ⟨4, rfl, rfl, m5.er (Mv.rd e6).ext⟩
  rintro y w6 ⟨q6, hn6, H6, e6⟩
  rw [hn6]
  have m6 := m5.tr (.rd e6)
  obtain ⟨y0, y1, y2, y3⟩ := num_bd hn6
  dsimp only
  have hp31 : (2 : Int) ^ moreD d ≤ 2 ^ 24 := two_pow_le (more24 (k := d) (by omega)).2
  refine (c_Far _ y w6).mono ?_
  rintro r e w7 ⟨hr, e7⟩
  have H7 := H6.keep e7
  have m7 := m6.tr (.no e7)
  have hfar : farF (d : Int) y = ((baseD d : Int) + y, 0) := by
    unfold farF
    rw [if_neg (by omega), Int.toNat_natCast, if_neg (by omega)]
  rw [hfar] at hr
  obtain ⟨rfl, rfl⟩ := Prod.mk.inj hr
  refine (c_mustI _ 0 w7).mono ?_ ?_
  rotate_left
  · rintro v _ ⟨_, h3, _⟩
    exact absurd rfl h3
  rintro r w7 ⟨_, rfl, rfl⟩
  obtain ⟨x, rfl⟩ := Int.eq_ofNat_of_zero_le x0
  obtain ⟨y, rfl⟩ := Int.eq_ofNat_of_zero_le y0
  simp only [Int.toNat_natCast]
  refine Nn.of ?_
  simp only [add_lit, Nat.zero_add]
  refine Ld.of H7.blk (o := 1) (x := o) rfl ?_
  rw [H7.row.len]
  refine (c_need _ 14 _).mono ?_ ?_
  rotate_left
  · rintro v _ ⟨rfl, h3, rfl⟩
    have h3 := of_decide_eq_false h3
    rw [if_pos (by omega)]
    exact ⟨14, rfl, rfl, m7.ext⟩
  rintro w7 ⟨h3, rfl⟩
  have h3 := of_decide_eq_true h3
  rw [if_neg (by omega), show (firstL k : Int) + (x : Int) = ((firstL k + x : Nat) : Int) by omega]
  refine (c_room (n := firstL k + x) (by omega) H7).mono ?_ ?_
  rotate_left
  · rintro v _ ⟨rfl, h5, rfl⟩
    rw [if_pos (by omega)]
    exact ⟨5, rfl, rfl, m7.ext.drew⟩
  rintro _ ⟨h5, rfl⟩
  rw [if_neg (by omega)]
  have H8 := H7.keep (Ext.refl _ _).drew
  have m8 : Mv fb rb w w7.drew o o := m7.tr (.no (Ext.refl _ _).drew)
  refine ⟨fun n st w9 => ∃ (j : Nat) (o9 : Slc), st = (j : Int) ∧ j ≤ firstL k + x ∧ n = firstL k + x - j ∧ FS w9 fb rb o9 s (copy out (baseD d + y) j) q6 most ∧ Mv fb rb w w9 o o9, firstL k + x, ⟨0, o, rfl, by omega, rfl, H8, m8⟩, ?_⟩
  rintro n st w9 ⟨j, o9, rfl, hj, rfl, H9, m9⟩
  unfold S78L1
  refine Br.dec (fun q => ?_) fun q => ?_
  · have hcl := copy_len out (baseD d + y) j
    have hbig := h.big
    have hl9 := H9.len
    refine ⟨fun w' => Ext (fun _ => False) w9 w', (Ext.refl _ _).drew, Nn.of ?_⟩
    simp only [add_lit, Nat.zero_add]
    have hB : ∀ w', Ext (fun _ => False) w9 w' → Blk w' fb (fcells rb o9 most) 56 := fun w' e => e.blk H9.blk fun h => h
    refine LdS.of hB (o := 1) (x := o9) rfl (Nn.of ?_)
    simp only [add_lit, Nat.zero_add]
    refine LdS.of hB (o := 1) (x := o9) rfl (Nn.of ?_)
    simp only [add_lit, Nat.zero_add]
    refine LdS.of hB (o := 1) (x := o9) rfl ?_
    rw [H9.row.len, hcl, i64_id (by omega), show ((out.length + j : Nat) : Int) - ((baseD d : Int) + (y : Int)) = ((out.length + j - (baseD d + y) : Nat) : Int) by omega]
    have hlt : out.length + j - (baseD d + y) < (copy out (baseD d + y) j).length := by omega
    obtain ⟨g, hg, hc⟩ := H9.row.get (getD_some hlt)
    rw [hg]
    refine ⟨by omega, by omega, Nn.of ?_⟩
    simp only [add_lit, Int.toNat_natCast, Nat.mul_one, Nat.zero_add]
    refine LdS.mk (x := (((copy out (baseD d + y) j).getD (out.length + j - (baseD d + y)) 0).toNat : Int)) (fun w' e => e.cell_same hc) (Nw.of ⟨(Ext.refl _ _).drew.alloc _, ?_⟩)
    have H10 := H9.keep ((Ext.refl _ w9).drew.alloc (.cells #[.int .u8 (((copy out (baseD d + y) j).getD (out.length + j - (baseD d + y)) 0).toNat : Int)] 5))
    obtain ⟨o1, w11, hrun, hrow, hext, hown⟩ := app_one (ty := 34) (b := (copy out (baseD d + y) j).getD (out.length + j - (baseD d + y)) 0) H10.row (Blk.new w9.drew _ _) (by omega)
    refine ⟨o1, w11, hrun, Nn.of ?_⟩
    simp only [add_lit, Nat.zero_add]
    refine H10.put (by rw [List.length_append, hcl]; simp; omega) hext hrow hown fun w12 H12 m12 => ?_
    refine ⟨firstL k + x - (j + 1), by omega, j + 1, o1, by rw [i64_id (by omega)]; rfl, by omega, rfl, ?_, (m9.tr (.no ((Ext.refl _ w9).drew.alloc _))).tr m12⟩
    have e : copy out (baseD d + y) (j + 1) = copy out (baseD d + y) j ++ [(copy out (baseD d + y) j).getD (out.length + j - (baseD d + y)) 0] := by
      show copy out (baseD d + y) j ++ [(copy out (baseD d + y) j).getD ((copy out (baseD d + y) j).length - (baseD d + y)) 0] = _
      rw [hcl]
    rw [e]
    exact H12
  · have : j = firstL k + x := by omega
    subst this
    exact ⟨o9, _, _, rfl, H9, m9⟩
theorem c_coded {near far : List Int} {lo hi tn lo2 hi2 tf : Nat} (h : FS w fb rb o s out p most) (hs : s.size ≤ 1000000) (hn : TB w lo hi tn near) (hkn : Lok near) (hS : Sep lo hi fb rb o w) (hf : TB w lo2 hi2 tf far) (hkf : Lok far) (hS2 : Sep lo2 hi2 fb rb o w) :
    C65 (some (⟨fb, 0, none⟩ : Addr)) (some (⟨tn, 0, none⟩ : Addr)) (some (⟨tf, 0, none⟩ : Addr)) w (OkR fb rb w o s most (signsF s near far most (8 * s.size + 1) out p)) (ErR fb rb w o (signsF s near far most (8 * s.size + 1) out p)) := by
  refine T65 _ _ _ _ _ _ ?_
  unfold S65
  have hnl := hkn.len
  generalize hR : signsF s near far most (8 * s.size + 1) out p = R0
  refine ⟨fun n st w1 => ∃ o1 out1 q, FS w1 fb rb o1 s out1 q most ∧ Mv fb rb w w1 o o1 ∧ 8 * s.size < q + n ∧ signsF s near far most n out1 q = R0, 8 * s.size + 1, ⟨o, out, p, h, .refl, by omega, hR⟩, ?_⟩
  rintro n st w1 ⟨o1, out1, q, H1, m1, hfu, hres⟩
  unfold S65L1
  have hq := H1.rd.1
  obtain ⟨n, rfl⟩ : ∃ n', n = n' + 1 := ⟨n - 1, by omega⟩
  unfold signsF at hres
  refine Nn.of (Ld.of H1.blk (o := 0) (x := at0 rb) rfl ?_)
  refine (c_tread (hn.mv hS m1.ext) hkn H1.rd hs hS.r).mono ?_
  rintro r e w2 ⟨e2, q2, hT, hr2⟩
  have m2 := m1.tr (.rd e2)
  refine (c_mustI _ e w2).mono ?_ ?_
  rotate_left
  · rintro v _ ⟨rfl, h2, rfl⟩
    rcases hT with ⟨g, _, _, h3⟩ | ⟨h3, _⟩
    · exact absurd h3 h2
    · rw [h3] at hres
      exact ⟨e, hres.symm, rfl, m2.ext⟩
  rintro r w2 ⟨rfl, rfl, rfl⟩
  obtain ⟨g, hg, rfl, _⟩ : ∃ g : Nat, sym near s q = .ok (g, q2) ∧ r = (g : Int) ∧ (0 : Int) = 0 := by
    rcases hT with hT | ⟨_, h3⟩
    · exact hT
    · exact absurd rfl h3
  have H2 := H1.read e2 (hr2 rfl)
  obtain ⟨g1, g2, g3⟩ := sym_ok hg
  rw [hg] at hres
  dsimp only at hres
  have hbig := h.big
  have hl2 := H2.len
  refine Br.dec (fun q3 => ?_) fun q3 => Br.eq (fun q4 => ?_) fun q4 => ?_
  · rw [if_neg (by omega), if_neg (by omega)] at hres
    refine (c_room (n := 1) (by omega) H2).mono ?_ ?_
    rotate_left
    · rintro v _ ⟨rfl, h5, rfl⟩
      rw [if_pos (by omega)] at hres
      exact ⟨5, hres.symm, rfl, m2.ext.drew⟩
    rintro _ ⟨h5, rfl⟩
    rw [if_neg (by omega)] at hres
    have H3 := H2.keep (Ext.refl _ _).drew
    refine Nn.of ?_
    simp only [add_lit, Nat.zero_add]
    refine Ld.of H3.blk (o := 1) (x := o1) rfl (Nw.of ?_)
    have hb : IntKind.u8.wrap (g : Int) = ((UInt8.ofNat g).toNat : Int) := by
      rw [u8_id (by omega), UInt8.toNat_ofNat', Nat.mod_eq_of_lt (by omega)]
    rw [hb]
    have H4 := H3.keep ((Ext.refl _ w2.drew).alloc (.cells #[.int .u8 ((UInt8.ofNat g).toNat : Int)] 5))
    obtain ⟨o5, w5, hrun, hrow, hext, hown⟩ := app_one (ty := 34) (b := UInt8.ofNat g) H4.row (Blk.new w2.drew _ _) (by omega)
    refine ⟨o5, w5, hrun, Nn.of ?_⟩
    simp only [add_lit, Nat.zero_add]
    refine H4.put (by rw [List.length_append]; simp; omega) hext hrow hown fun w6 H6 m6 => ?_
    exact ⟨n, by omega, o5, _, q2, H6, (m2.tr (.no ((Ext.refl _ w2).drew.alloc _))).tr m6, by omega, hres⟩
  · rw [if_pos (by omega)] at hres
    exact ⟨o1, _, _, hres.symm, H2, m2⟩
  · rw [if_neg (by omega), if_pos (by omega)] at hres
    refine (c_copied (by omega) (by omega) H2 hs (hf.mv hS2 m2.ext) hkf (hS2.mv m2)).mono ?_ ?_
    · rintro w3 ⟨o3, out3, q3, hc, H3, m3⟩
      rw [hc] at hres
      dsimp only at hres
      obtain ⟨c1, c2, c3⟩ := copied_ok hc
      exact ⟨n, by omega, o3, out3, q3, H3, m2.tr m3, by omega, hres⟩
    · rintro v w3 ⟨e, hc, rfl, hx⟩
      rw [hc] at hres
      exact ⟨e, hres.symm, rfl, m2.er hx⟩
end
end Inf
end Go.Proofs.YtapgacggllbhiaaDoor
