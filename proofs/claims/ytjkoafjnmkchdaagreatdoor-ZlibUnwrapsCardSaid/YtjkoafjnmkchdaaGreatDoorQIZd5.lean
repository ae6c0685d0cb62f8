/- Inflate: the program's copies and signs. Conditions: sizes. -/
import Derived.Test.YtjkoafjnmkchdaaGreatDoorQIZd4
import Derived.Laws.CopyRow
import Derived.Laws.IdiomCopy
import Derived.Laws.IdiomMaps
import Derived.Test.YtjkoafjnmkchdaaGreatDoorQIZd2
namespace Go.Proofs.YtjkoafjnmkchdaaGreatDoor
namespace Inf
open Sh Bit
set_option linter.unusedVariables false
set_option linter.unusedSimpArgs false
set_option maxRecDepth 4000
set_option maxHeartbeats 2000000
theorem LdS.mk {α : Type} {S : World → Prop} {V : α → Value} {K : α → Prop} {x : α} {a : Addr} (h : ∀ w, S w → w.cell? a = some (V x)) (k : K x) : LdS S a V K := ⟨x, h, k⟩
theorem getD_some {l : List UInt8} {i : Nat} (h : i < l.length) : l[i]? = some (l.getD i 0) := by
  rw [List.getD_eq_getElem?_getD, List.getElem?_eq_getElem h]
  rfl
theorem more24 {k : Nat} (hk : k ≤ 29) : moreL k ≤ 24 ∧ moreD k ≤ 24 := by
  constructor
  · unfold moreL; split <;> omega
  · unfold moreD; omega
theorem more6 {k : Nat} (hk : k ≤ 28) : moreL k ≤ 6 := by unfold moreL; split <;> omega
theorem base_pos {k : Nat} (hk : k ≤ 30) : 1 ≤ baseD k ∧ 1 ≤ baseL k := by
  constructor
  · induction k with
    | zero => exact Nat.le_refl _
    | succ k ih => exact Nat.le_trans (ih (by omega)) (Nat.le_add_right _ _)
  · induction k with
    | zero => show 1 ≤ 3; omega
    | succ k ih => exact Nat.le_trans (ih (by omega)) (Nat.le_add_right _ _)
attribute [local irreducible] Ld St Nw Nn Lt LdS
section
variable {w : World} {fb rb : Nat} {o : Slc} {s : ByteArray} {out : List UInt8} {p most : Nat}
theorem c_copied {sg : Nat} {far : List Int} {lo hi tb : Nat} (hsg : 256 < sg) (hsg2 : sg ≤ 100000) (h : FS w fb rb o s out p most) (hs : s.size ≤ 1000000) (ht : TB w lo hi tb far) (hk : Lok far) (hS : Sep lo hi fb rb o w) :
    C102 (some (⟨fb, 0, none⟩ : Addr)) (sg : Int) (some (⟨tb, 0, none⟩ : Addr)) w (OkR fb rb w o s most (copied s far most sg out p)) (ErR fb rb w o (copied s far most sg out p)) := by
  refine T102 _ _ _ _ _ _ ?_
  unfold S102 copied
  refine (c_need _ 13 _).mono ?_ ?_
  rotate_left
  · rintro v _ ⟨rfl, h1, rfl⟩
    have h1 := of_decide_eq_false h1
    rw [if_pos (by omega)]
    exact ⟨13, rfl, rfl, Ext.refl _ _⟩
  rintro w ⟨h1, rfl⟩
  have h1 := of_decide_eq_true h1
  rw [if_neg (by omega)]
  obtain ⟨k, rfl⟩ : ∃ k, sg = 257 + k := ⟨sg - 257, by omega⟩
  have hk28 : k ≤ 28 := by omega
  rw [i64_id (by omega), show ((257 + k : Nat) : Int) - 257 = (k : Int) by omega, show 257 + k - 257 = k by omega]
  refine (c_size k hk28 w).mono ?_
  rintro r w1 ⟨rfl, e1⟩
  obtain ⟨b1, b2, b3, b4, b5⟩ := base_bd (k := k) (by omega)
  have H1 := h.keep e1
  have m1 : Mv fb rb w w1 o o := .no e1
  refine (c_bits (n := moreL k) (more24 (by omega)).1 H1 hs).mono ?_ ?_
  rotate_left
  · rintro v w2 ⟨hn, rfl, e2⟩
    rw [hn]
    exact ⟨4, rfl, rfl, m1.er (Mv.rd e2).ext⟩
  rintro x w2 ⟨q, hn, H2, e2⟩
  rw [hn]
  have m2 := m1.tr (.rd e2)
  obtain ⟨x0, x1, x2, x3⟩ := num_bd hn
  dsimp only
  have hp30 : (2 : Int) ^ moreL k ≤ 2 ^ 6 := two_pow_le (more6 hk28)
  have h06 : (2 : Int) ^ 6 = 64 := by decide
  have h24 : (2 : Int) ^ 24 = 16777216 := by decide
  refine (c_Size _ x w2).mono ?_
  rintro r e w3 ⟨hr, e3⟩
  have H3 := H2.keep e3
  have m3 := m2.tr (.no e3)
  have hsize : sizeF ((257 + k : Nat) : Int) x = ((firstL k : Int) + x, 0) := by
    unfold sizeF
    rw [if_neg (by omega), show (((257 + k : Nat) : Int) - 257).toNat = k by omega, if_neg (by omega)]
  rw [hsize] at hr
  obtain ⟨rfl, rfl⟩ := Prod.mk.inj hr
  refine (c_mustI _ 0 w3).mono ?_ ?_
  rotate_left
  · rintro v _ ⟨_, h2, _⟩
    exact absurd rfl h2
  rintro r w3 ⟨_, rfl, rfl⟩
  refine Nn.of (Ld.of H3.blk (o := 0) (x := at0 rb) rfl ?_)
  refine (c_tread (ht.mv hS m3.ext) hk H3.rd hs hS.r).mono ?_
  rintro r e w4 ⟨e4, q4, hT, hr4⟩
  have m4 := m3.tr (.rd e4)
  refine (c_mustI _ e w4).mono ?_ ?_
  rotate_left
  · rintro v _ ⟨rfl, h2, rfl⟩
    rcases hT with ⟨g, _, _, h3⟩ | ⟨h3, _⟩
    · exact absurd h3 h2
    · rw [h3]
      exact ⟨e, rfl, rfl, m4.ext⟩
  rintro r w4 ⟨rfl, rfl, rfl⟩
  obtain ⟨d, hd, rfl, _⟩ : ∃ g : Nat, sym far s q = .ok (g, q4) ∧ r = (g : Int) ∧ (0 : Int) = 0 := by
    rcases hT with hT | ⟨_, h3⟩
    · exact hT
    · exact absurd rfl h3
  rw [hd]
  have H4 := H3.read e4 (hr4 rfl)
  obtain ⟨d1, d2, d3⟩ := sym_ok hd
  have hlen := hk.len
  dsimp only
  refine (c_need _ 13 _).mono ?_ ?_
  rotate_left
  · rintro v _ ⟨rfl, h2, rfl⟩
    have h2 := of_decide_eq_false h2
    rw [if_pos (by omega)]
    exact ⟨13, rfl, rfl, m4.ext⟩
  rintro w4 ⟨h2, rfl⟩
  have h2 := of_decide_eq_true h2
  rw [if_neg (by omega)]
  refine (c_farS d (by omega) w4).mono ?_
  rintro r w5 ⟨rfl, e5⟩
  have H5 := H4.keep e5
  have m5 := m4.tr (.no e5)
  obtain ⟨c1, c2, c3, c4, c5⟩ := base_bd (k := d) (by omega)
  have cp := (base_pos (k := d) (by omega)).1
  refine (c_bits (n := moreD d) (more24 (by omega)).2 H5 hs).mono ?_ ?_
  rotate_left
  · rintro v w6 ⟨hn, rfl, e6⟩
    rw [hn]
    exact ⟨4, rfl, rfl, m5.er (Mv.rd e6).ext⟩
  rintro y w6 ⟨q6, hn6, H6, e6⟩
  rw [hn6]
  have m6 := m5.tr (.rd e6)
  obtain ⟨y0, y1, y2, y3⟩ := num_bd hn6
  dsimp only
  have hp31 : (2 : Int) ^ moreD d ≤ 2 ^ 24 := two_pow_le (more24 (k := d) (by omega)).2
  refine (c_Far _ y w6).mono ?_
  rintro r e w7 ⟨hr, e7⟩
  have H7 := H6.keep e7
  have m7 := m6.tr (.no e7)
  have hfar : farF (d : Int) y = ((baseD d : Int) + y, 0) := by
    unfold farF
    rw [if_neg (by omega), Int.toNat_natCast, if_neg (by omega)]
  rw [hfar] at hr
  obtain ⟨rfl, rfl⟩ := Prod.mk.inj hr
  refine (c_mustI _ 0 w7).mono ?_ ?_
  rotate_left
  · rintro v _ ⟨_, h3, _⟩
    exact absurd rfl h3
  rintro r w7 ⟨_, rfl, rfl⟩
  obtain ⟨x, rfl⟩ := Int.eq_ofNat_of_zero_le x0
  obtain ⟨y, rfl⟩ := Int.eq_ofNat_of_zero_le y0
  simp only [Int.toNat_natCast]
  refine Nn.of ?_
  simp only [add_lit, Nat.zero_add]
  refine Ld.of H7.blk (o := 1) (x := o) rfl ?_
  rw [H7.row.len]
  refine (c_need _ 14 _).mono ?_ ?_
  rotate_left
  · rintro v _ ⟨rfl, h3, rfl⟩
    have h3 := of_decide_eq_false h3
    rw [if_pos (by omega)]
    exact ⟨14, rfl, rfl, m7.ext⟩
  rintro w7 ⟨h3, rfl⟩
  have h3 := of_decide_eq_true h3
  rw [if_neg (by omega), show (firstL k : Int) + (x : Int) = ((firstL k + x : Nat) : Int) by omega]
  refine (c_room (n := firstL k + x) (by omega) H7).mono ?_ ?_
  rotate_left
  · rintro v _ ⟨rfl, h5, rfl⟩
    rw [if_pos (by omega)]
    exact ⟨5, rfl, rfl, m7.ext.drew⟩
  rintro _ ⟨h5, rfl⟩
  rw [if_neg (by omega)]
  have H8 := H7.keep (Ext.refl _ _).drew
  have m8 : Mv fb rb w w7.drew o o := m7.tr (.no (Ext.refl _ _).drew)
  refine ⟨fun n st w9 => ∃ (j : Nat) (o9 : Slc), st = (j : Int) ∧ j ≤ firstL k + x ∧ n = firstL k + x - j ∧ FS w9 fb rb o9 s (copy out (baseD d + y) j) q6 most ∧ Mv fb rb w w9 o o9, firstL k + x, ⟨0, o, rfl, by omega, rfl, H8, m8⟩, ?_⟩
  rintro n st w9 ⟨j, o9, rfl, hj, rfl, H9, m9⟩
  unfold S102L1
  refine Br.dec (fun q => ?_) fun q => ?_
  · have hcl := copy_len out (baseD d + y) j
    have hbig := h.big
    have hl9 := H9.len
    refine ⟨fun w' => Ext (fun _ => False) w9 w', (Ext.refl _ _).drew, Nn.of ?_⟩
    simp only [add_lit, Nat.zero_add]
    have hB : ∀ w', Ext (fun _ => False) w9 w' → Blk w' fb (fcells rb o9 most) 57 := fun w' e => e.blk H9.blk fun h => h
    refine LdS.of hB (o := 1) (x := o9) rfl (Nn.of ?_)
    simp only [add_lit, Nat.zero_add]
    refine LdS.of hB (o := 1) (x := o9) rfl (Nn.of ?_)
    simp only [add_lit, Nat.zero_add]
    refine LdS.of hB (o := 1) (x := o9) rfl ?_
    rw [H9.row.len, hcl, i64_id (by omega), show ((out.length + j : Nat) : Int) - ((baseD d : Int) + (y : Int)) = ((out.length + j - (baseD d + y) : Nat) : Int) by omega]
    have hlt : out.length + j - (baseD d + y) < (copy out (baseD d + y) j).length := by omega
    obtain ⟨g, hg, hc⟩ := H9.row.get (getD_some hlt)
    rw [hg]
    refine ⟨by omega, by omega, Nn.of ?_⟩
    simp only [add_lit, Int.toNat_natCast, Nat.mul_one, Nat.zero_add]
    refine LdS.mk (x := (((copy out (baseD d + y) j).getD (out.length + j - (baseD d + y)) 0).toNat : Int)) (fun w' e => e.cell_same hc) (Nw.of ⟨(Ext.refl _ _).drew.alloc _, ?_⟩)
    have H10 := H9.keep ((Ext.refl _ w9).drew.alloc (.cells #[.int .u8 (((copy out (baseD d + y) j).getD (out.length + j - (baseD d + y)) 0).toNat : Int)] 5))
    obtain ⟨o1, w11, hrun, hrow, hext, hown⟩ := app_one (ty := 29) (b := (copy out (baseD d + y) j).getD (out.length + j - (baseD d + y)) 0) H10.row (Blk.new w9.drew _ _) (by omega)
    refine ⟨o1, w11, hrun, Nn.of ?_⟩
    simp only [add_lit, Nat.zero_add]
    refine H10.put (by rw [List.length_append, hcl]; simp; omega) hext hrow hown fun w12 H12 m12 => ?_
    refine ⟨firstL k + x - (j + 1), by omega, j + 1, o1, by rw [i64_id (by omega)]; rfl, by omega, rfl, ?_, (m9.tr (.no ((Ext.refl _ w9).drew.alloc _))).tr m12⟩
    have e : copy out (baseD d + y) (j + 1) = copy out (baseD d + y) j ++ [(copy out (baseD d + y) j).getD (out.length + j - (baseD d + y)) 0] := by
      show copy out (baseD d + y) j ++ [(copy out (baseD d + y) j).getD ((copy out (baseD d + y) j).length - (baseD d + y)) 0] = _
      rw [hcl]
    rw [e]
    exact H12
  · have : j = firstL k + x := by omega
    subst this
    exact ⟨o9, _, _, rfl, H9, m9⟩
theorem c_coded {near far : List Int} {lo hi tn lo2 hi2 tf : Nat} (h : FS w fb rb o s out p most) (hs : s.size ≤ 1000000) (hn : TB w lo hi tn near) (hkn : Lok near) (hS : Sep lo hi fb rb o w) (hf : TB w lo2 hi2 tf far) (hkf : Lok far) (hS2 : Sep lo2 hi2 fb rb o w) :
    C77 (some (⟨fb, 0, none⟩ : Addr)) (some (⟨tn, 0, none⟩ : Addr)) (some (⟨tf, 0, none⟩ : Addr)) w (OkR fb rb w o s most (signsF s near far most (8 * s.size + 1) out p)) (ErR fb rb w o (signsF s near far most (8 * s.size + 1) out p)) := by
  refine T77 _ _ _ _ _ _ ?_
  unfold S77
  have hnl := hkn.len
  generalize hR : signsF s near far most (8 * s.size + 1) out p = R0
  refine ⟨fun n st w1 => ∃ o1 out1 q, FS w1 fb rb o1 s out1 q most ∧ Mv fb rb w w1 o o1 ∧ 8 * s.size < q + n ∧ signsF s near far most n out1 q = R0, 8 * s.size + 1, ⟨o, out, p, h, .refl, by omega, hR⟩, ?_⟩
  rintro n st w1 ⟨o1, out1, q, H1, m1, hfu, hres⟩
  unfold S77L1
  have hq := H1.rd.1
  obtain ⟨n, rfl⟩ : ∃ n', n = n' + 1 := ⟨n - 1, by omega⟩
  unfold signsF at hres
  refine Nn.of (Ld.of H1.blk (o := 0) (x := at0 rb) rfl ?_)
  refine (c_tread (hn.mv hS m1.ext) hkn H1.rd hs hS.r).mono ?_
  rintro r e w2 ⟨e2, q2, hT, hr2⟩
  have m2 := m1.tr (.rd e2)
  refine (c_mustI _ e w2).mono ?_ ?_
  rotate_left
  · rintro v _ ⟨rfl, h2, rfl⟩
    rcases hT with ⟨g, _, _, h3⟩ | ⟨h3, _⟩
    · exact absurd h3 h2
    · rw [h3] at hres
      exact ⟨e, hres.symm, rfl, m2.ext⟩
  rintro r w2 ⟨rfl, rfl, rfl⟩
  obtain ⟨g, hg, rfl, _⟩ : ∃ g : Nat, sym near s q = .ok (g, q2) ∧ r = (g : Int) ∧ (0 : Int) = 0 := by
    rcases hT with hT | ⟨_, h3⟩
    · exact hT
    · exact absurd rfl h3
  have H2 := H1.read e2 (hr2 rfl)
  obtain ⟨g1, g2, g3⟩ := sym_ok hg
  rw [hg] at hres
  dsimp only at hres
  have hbig := h.big
  have hl2 := H2.len
  refine Br.dec (fun q3 => ?_) fun q3 => Br.eq (fun q4 => ?_) fun q4 => ?_
  · rw [if_neg (by omega), if_neg (by omega)] at hres
    refine (c_room (n := 1) (by omega) H2).mono ?_ ?_
    rotate_left
    · rintro v _ ⟨rfl, h5, rfl⟩
      rw [if_pos (by omega)] at hres
      exact ⟨5, hres.symm, rfl, m2.ext.drew⟩
    rintro _ ⟨h5, rfl⟩
    rw [if_neg (by omega)] at hres
    have H3 := H2.keep (Ext.refl _ _).drew
    refine Nn.of ?_
    simp only [add_lit, Nat.zero_add]
    refine Ld.of H3.blk (o := 1) (x := o1) rfl (Nw.of ?_)
    have hb : IntKind.u8.wrap (g : Int) = ((UInt8.ofNat g).toNat : Int) := by
      rw [u8_id (by omega), UInt8.toNat_ofNat', Nat.mod_eq_of_lt (by omega)]
    rw [hb]
    have H4 := H3.keep ((Ext.refl _ w2.drew).alloc (.cells #[.int .u8 ((UInt8.ofNat g).toNat : Int)] 5))
    obtain ⟨o5, w5, hrun, hrow, hext, hown⟩ := app_one (ty := 29) (b := UInt8.ofNat g) H4.row (Blk.new w2.drew _ _) (by omega)
    refine ⟨o5, w5, hrun, Nn.of ?_⟩
    simp only [add_lit, Nat.zero_add]
    refine H4.put (by rw [List.length_append]; simp; omega) hext hrow hown fun w6 H6 m6 => ?_
    exact ⟨n, by omega, o5, _, q2, H6, (m2.tr (.no ((Ext.refl _ w2).drew.alloc _))).tr m6, by omega, hres⟩
  · rw [if_pos (by omega)] at hres
    exact ⟨o1, _, _, hres.symm, H2, m2⟩
  · rw [if_neg (by omega), if_pos (by omega)] at hres
    refine (c_copied (by omega) (by omega) H2 hs (hf.mv hS2 m2.ext) hkf (hS2.mv m2)).mono ?_ ?_
    · rintro w3 ⟨o3, out3, q3, hc, H3, m3⟩
      rw [hc] at hres
      dsimp only at hres
      obtain ⟨c1, c2, c3⟩ := copied_ok hc
      exact ⟨n, by omega, o3, out3, q3, H3, m2.tr m3, by omega, hres⟩
    · rintro v w3 ⟨e, hc, rfl, hx⟩
      rw [hc] at hres
      exact ⟨e, hres.symm, rfl, m2.er hx⟩
end
end Inf
end Go.Proofs.YtjkoafjnmkchdaaGreatDoor

/- Inflate: slices.Repeat, the laid variables, the program's Fixed and lengths. Conditions: sizes. -/
namespace Go.Proofs.YtjkoafjnmkchdaaGreatDoor
namespace Inf
open Sh Bit
set_option linter.unusedVariables false
set_option linter.unusedSimpArgs false
set_option maxRecDepth 4000
set_option maxHeartbeats 2000000
theorem iand_u64 {x y : Nat} (hx : x < 2 ^ 63) (hy : y < 2 ^ 63) : iand .u64 (x : Int) (y : Int) = ((x &&& y : Nat) : Int) := by
  unfold iand
  rw [ofInt_nat, ofInt_nat]
  have h1 : (BitVec.ofNat IntKind.u64.bits x &&& BitVec.ofNat IntKind.u64.bits y).toNat = x &&& y := by
    rw [BitVec.toNat_and, BitVec.toNat_ofNat, BitVec.toNat_ofNat, Nat.mod_eq_of_lt (by simp [IntKind.bits]; omega), Nat.mod_eq_of_lt (by simp [IntKind.bits]; omega)]
  rw [h1]
  have h2 : x &&& y < 2 ^ 63 := Nat.and_lt_two_pow x hy
  exact u64_id (by omega)
theorem low32 {x : Nat} (hx : x < 4294967296) : iand .u64 (x : Int) 4294967295 = (x : Int) := by
  have := iand_u64 (x := x) (y := 4294967295) (by omega) (by omega)
  rw [show (4294967295 : Int) = ((4294967295 : Nat) : Int) by rfl, this, show (4294967295 : Nat) = 2 ^ 32 - 1 by decide, Nat.and_two_pow_sub_one_eq_mod, Nat.mod_eq_of_lt (by omega)]
theorem fdiv32 {x : Nat} (hx : x < 4294967296) : Int.fdiv (x : Int) (2 ^ 32) = 0 := by
  rw [fdiv_pow, show (2 : Int) ^ 32 = 4294967296 by decide]
  omega
attribute [local irreducible] Ld St Nw Nn Lt LdS
section
variable {w : World}
theorem c_mul64 {c : Nat} (hc : c ≤ 1000000) (w : World) : C123 1 (c : Int) w fun hi lo w1 => hi = 0 ∧ lo = (c : Int) ∧ w1 = w := by
  refine T123 _ _ _ _ ?_
  unfold S123
  have h1 : iand .u64 (1 : Int) 4294967295 = 1 := low32 (x := 1) (by omega)
  have h2 : Int.fdiv (1 : Int) (2 ^ 32) = 0 := fdiv32 (x := 1) (by omega)
  refine Lt.of (Lt.of (Lt.of (Lt.of ?_)))
  rw [h1, h2, low32 (x := c) (by omega), fdiv32 (x := c) (by omega)]
  simp only [Int.one_mul, Int.zero_mul, Int.mul_zero]
  rw [u64_id (n := (c : Int)) (by omega), fdiv32 (x := c) (by omega)]
  have e0 : IntKind.u64.wrap 0 = 0 := u64_id (by omega)
  simp only [e0, Int.add_zero]
  have h3 : iand .u64 (0 : Int) 4294967295 = 0 := low32 (x := 0) (by omega)
  have h4 : Int.fdiv (0 : Int) (2 ^ 32) = 0 := fdiv32 (x := 0) (by omega)
  simp only [h3, h4, e0, Int.add_zero]
  simp
theorem c_mulB {c : Nat} (hc : c ≤ 1000000) (w : World) : C110 1 (c : Int) w fun hi lo w1 => hi = 0 ∧ lo = (c : Int) ∧ w1 = w := by
  refine T110 _ _ _ _ ?_
  unfold S110
  exact c_mul64 hc w
theorem und_ints : Tryz.prog.underlying 76 = some (.slice 3) := by kernel_rfl
theorem info_int : (Tryz.prog.info? 3).map (·.size) = some 1 := by kernel_rfl
def repT (c k : Nat) (x : Int) : List Int := List.replicate k x ++ List.replicate (c - k) 0
theorem repT_len {c k : Nat} (hk : k ≤ c) (x : Int) : (repT c k x).length = c := by unfold repT; simp; omega
theorem repT_put {c k n : Nat} (h : k + n ≤ c) (x : Int) : (ints (repT c k x)).take k ++ ints (List.replicate n x) ++ (ints (repT c k x)).drop (k + n) = ints (repT c (k + n) x) := by
  unfold ints repT
  rw [List.map_append, List.take_left' (by simp), List.drop_append]
  simp only [List.map_replicate, List.map_append, List.length_replicate, List.drop_replicate]
  rw [show k - (k + n) = 0 by omega, show k + n - k = n by omega, List.replicate_zero, List.nil_append, List.replicate_append_replicate, show c - k - n = c - (k + n) by omega]
theorem setRow_blk {w : World} {g : Nat} {cur : Array Value} {t : TypeId} (h : Blk w g cur t) (cs : Array Value) : Blk (w.setRow g cs) g cs t ∧ Ext (· = g) w (w.setRow g cs) :=
  ⟨setRow_heap w g cur cs t _ h, ⟨rfl, rfl, rfl, by simp [World.setRow], fun k _ hk => setRow_other w g k _ (fun e => hk e)⟩⟩
theorem copy_rep {w : World} {g c k n sLen sCap : Nat} {x : Int} {a : Addr} (hB : Blk w g (ints (repT c k x)).toArray 3) (hn : n = Nat.min sLen (c - k)) (hk : k ≤ c) (hsrc : ∀ j v, (ints (List.replicate n x))[j]? = some v → w.cell? (a.add j) = some v) :
    ∃ w', RunV Tryz.prog (Builtin.copy_ #[76, 76] 3 #[Slc.v ⟨some ⟨g, k, none⟩, c - k, c - k⟩, Slc.v ⟨some a, sLen, sCap⟩]) w (.int .i64 (n : Int)) w' ∧ Blk w' g (ints (repT c (k + n) x)).toArray 3 ∧ Ext (· = g) w w' := by
  have hnc : n ≤ c - k := by rw [hn]; exact Nat.min_le_right _ _
  have hl : (ints (List.replicate n x)).length = n := by rw [ints_len, List.length_replicate]
  have h := run_copy_row (P := Tryz.prog) w 76 76 3 3 g k (c - k) (c - k) a sLen sCap (ints (repT c k x)).toArray 3 (ints (List.replicate n x)) und_ints info_int hB (by rw [hl, hn]) hsrc (by rw [hl, List.size_toArray, ints_len, repT_len hk]; omega) (ints_one _)
  rw [hl] at h
  have e : ((ints (repT c k x)).toArray.toList.take k ++ ints (List.replicate n x) ++ (ints (repT c k x)).toArray.toList.drop (k + n)) = ints (repT c (k + n) x) := repT_put (by omega) x
  rw [e] at h
  obtain ⟨b1, b2⟩ := setRow_blk hB (ints (repT c (k + n) x)).toArray
  exact ⟨_, h, b1, b2⟩
theorem c_repeat {g c : Nat} {x : Int} (hg : Blk w g #[.int .i64 x] 3) (hc : 1 ≤ c) (hc2 : c ≤ 1000) :
    C88 (⟨some ⟨g, 0, none⟩, 1, 1⟩ : Slc) (c : Int) w (fun r w1 => IV w1 r (List.replicate c x) ∧ Ext (fun _ => False) w w1 ∧ ∀ j, r.own j → w.heap.size ≤ j ∧ j < w1.heap.size) fun _ _ => False := by
  refine T88 _ _ _ _ _ ?_
  unfold S88
  refine Br.f (by simp) ?_
  rw [show IntKind.u64.wrap (((⟨some ⟨g, 0, none⟩, 1, 1⟩ : Slc).len : Nat) : Int) = 1 from u64_id (n := 1) (by omega), u64_id (n := (c : Int)) (by omega)]
  refine (c_mulB (by omega) w).mono ?_
  rintro hi lo w1 ⟨rfl, rfl, rfl⟩
  refine Br.f (by decide) (Br.f (by simp; omega) ?_)
  rw [i64_id (n := (c : Int)) (by omega)]
  obtain ⟨w2, hrun, hw2⟩ := elI.make (zs := [.int .i64 0]) rfl w1 c (by omega) (by omega)
  refine ⟨_, w2, hrun, ?_⟩
  have e2 : Ext (fun _ => False) w1 w2 := by rw [hw2]; exact (Ext.refl _ _).alloc _
  have hB : Blk w2 w1.heap.size (ints (repT c 0 x)).toArray 3 := by
    have e : repT c 0 x = List.replicate c 0 := by unfold repT; simp
    rw [hw2, flat_zero, e]
    exact Blk.new _ _ _
  have hsrc := e2.blk hg (fun h => h)
  obtain ⟨w3, hrun3, hB3, e3⟩ := copy_rep (n := 1) (sLen := 1) (sCap := 1) (a := ⟨g, 0, none⟩) hB ((Nat.min_eq_left (a := 1) (b := c - 0) (by omega)).symm) (by omega) fun j v hj => by
    have h0 : j = 0 := by
      have := (List.getElem?_eq_some_iff.1 hj).1
      rw [ints_len, List.length_replicate] at this
      omega
    subst h0
    have hv : Value.int .i64 x = v := by simpa [ints] using hj
    rw [add_lit, hsrc.cell, ← hv]
    rfl
  refine ⟨_, w3, hrun3, ?_⟩
  have new : ∀ {a b : World}, Ext (fun _ => False) w1 a → Ext (· = w1.heap.size) a b → Ext (fun _ => False) w1 b := fun a b => a.trans b (fun _ h => h) fun i hi e => by have e : i = w1.heap.size := e; omega
  refine ⟨fun n st w4 => ∃ k : Nat, st = (k : Int) ∧ 1 ≤ k ∧ k ≤ c ∧ n = c - k ∧ Blk w4 w1.heap.size (ints (repT c k x)).toArray 3 ∧ Ext (fun _ => False) w1 w4, c - 1, ⟨1, rfl, by omega, by omega, rfl, hB3, new e2 e3⟩, ?_⟩
  rintro n st w4 ⟨k, rfl, hk1, hk, rfl, hB4, e4⟩
  unfold S88L1
  refine Br.dec (fun q => ?_) fun q => ?_
  · have q : k < c := by have q : (k : Int) < (c : Int) := q; omega
    have cut1 : Slc.cut (⟨some ⟨w1.heap.size, 0, none⟩, c, c⟩ : Slc) 1 k c c = ⟨some ⟨w1.heap.size, k, none⟩, c - k, c - k⟩ := by
      unfold Slc.cut
      rw [if_neg (by omega)]
      simp only [Option.map_some, add_lit, Nat.zero_add, Nat.mul_one]
    have cut2 : Slc.cut (⟨some ⟨w1.heap.size, 0, none⟩, c, c⟩ : Slc) 1 0 k c = ⟨some ⟨w1.heap.size, 0, none⟩, k, c⟩ := by
      unfold Slc.cut
      rw [if_neg (by omega)]
      simp only [Option.map_some, add_lit, Nat.zero_add, Nat.zero_mul, Nat.sub_zero]
    obtain ⟨w5, hrun5, hB5, e5⟩ := copy_rep (n := Nat.min k (c - k)) (sLen := k) (sCap := c) (a := ⟨w1.heap.size, 0, none⟩) hB4.drew rfl hk fun j v hj => by
      have hjl := (List.getElem?_eq_some_iff.1 hj).1
      rw [ints_len, List.length_replicate] at hjl
      have hjk : j < k := Nat.lt_of_lt_of_le hjl (Nat.min_le_left _ _)
      have hv : Value.int .i64 x = v := by
        have := ints_get (l := List.replicate (Nat.min k (c - k)) x) (i := j) (by rw [List.length_replicate]; exact hjl)
        rw [this] at hj
        rw [List.getD_eq_getElem?_getD, List.getElem?_replicate, if_pos hjl] at hj
        exact Option.some.inj hj
      rw [add_lit, hB4.drew.cell, Nat.zero_add, List.getElem?_toArray, ints_get (by rw [repT_len hk]; omega), ← hv]
      unfold repT
      rw [List.getD_eq_getElem?_getD, List.getElem?_append_left (by rw [List.length_replicate]; omega), List.getElem?_replicate, if_pos hjk]
      rfl
    have hmin : 1 ≤ Nat.min k (c - k) := Nat.le_min.2 ⟨hk1, by omega⟩
    have hmin2 : Nat.min k (c - k) ≤ c - k := Nat.min_le_right _ _
    show 0 ≤ (k : Int) ∧ (k : Int) ≤ ((c : Nat) : Int) ∧ 0 ≤ (k : Int) ∧ (k : Int) ≤ ((c : Nat) : Int) ∧ _
    simp only [Int.toNat_natCast]
    rw [cut1, cut2]
    generalize Nat.min k (c - k) = z at *
    refine ⟨by omega, by omega, by omega, by omega, _, w5, hrun5, c - (k + z), by omega, k + z, by rw [i64_id (by omega)]; rfl, by omega, by omega, rfl, hB5, new e4.drew e5⟩
  · have q : ¬ k < c := by have q : ¬ (k : Int) < (c : Int) := q; omega
    have hkc : k = c := by omega
    subst hkc
    have e : repT k k x = List.replicate k x := by unfold repT; simp
    rw [e] at hB4
    refine ⟨IV.blk hB4 (by simp), e4, fun j hj => ?_⟩
    obtain ⟨a, ha, rfl⟩ := hj
    cases ha
    exact ⟨Nat.le_refl _, hB4.lt⟩
/-! ### The program's Fixed -/
def fixT : Nat → List Int
  | 0 => []
  | k + 1 => fixT k ++ (if k = 0 then List.replicate 144 8 else if k = 1 then List.replicate 112 9 else if k = 2 then List.replicate 24 7 else List.replicate 8 8)
theorem fixT_len : ∀ k, k ≤ 4 → (fixT k).length ≤ k * 144
  | 0, _ => Nat.le_refl _
  | k + 1, h => by
    have ih := fixT_len k (by omega)
    have e : fixT (k + 1) = fixT k ++ (if k = 0 then List.replicate 144 8 else if k = 1 then List.replicate 112 9 else if k = 2 then List.replicate 24 7 else List.replicate 8 8) := rfl
    rw [e, List.length_append]
    split
    · simp; omega
    · split
      · simp; omega
      · split
        · simp; omega
        · simp; omega
theorem c_Fixed (w : World) : C59 w (fun a b w1 => IV w1 a fixL ∧ IV w1 b fixD ∧ Ext (fun _ => False) w w1) fun _ _ => False := by
  refine T59 _ _ _ ?_
  unfold S59
  refine ⟨fun n st w1 => ∃ (k : Nat) (o : Slc), st = (o, (k : Int)) ∧ k ≤ 4 ∧ n = 4 - k ∧ Row w1 o 3 1 (ints (fixT k)) ∧ (∀ j, o.own j → w.heap.size ≤ j) ∧ Ext (fun _ => False) w w1, 4, ⟨0, ⟨none, 0, 0⟩, rfl, by omega, rfl, Row.nil _ _ _, fun j hj => (by obtain ⟨a, ha, _⟩ := hj; cases ha), Ext.refl _ _⟩, ?_⟩
  rintro n st w1 ⟨k, o, rfl, hk, rfl, hrow, hown, he⟩
  unfold S59L1
  dsimp only
  have hlen := fixT_len k hk
  have hrl := hrow.1
  rw [ints_len] at hrl
  refine Br.dec (fun q => ?_) fun q => ?_
  · have hcase : ∃ m l : Nat, (#[.int .i64 144, .int .i64 8, .int .i64 112, .int .i64 9, .int .i64 24, .int .i64 7, .int .i64 8, .int .i64 8] : Array Value).extract ((k : Int).toNat * 2) ((k : Int).toNat * 2 + 2) = #[.int .i64 (m : Int), .int .i64 (l : Int)] ∧ 1 ≤ m ∧ m ≤ 144 ∧ fixT (k + 1) = fixT k ++ List.replicate m (l : Int) := by
      have hc : k = 0 ∨ k = 1 ∨ k = 2 ∨ k = 3 := by omega
      rcases hc with rfl | rfl | rfl | rfl
      · exact ⟨144, 8, rfl, by omega, by omega, rfl⟩
      · exact ⟨112, 9, rfl, by omega, by omega, rfl⟩
      · exact ⟨24, 7, rfl, by omega, by omega, rfl⟩
      · exact ⟨8, 8, rfl, by omega, by omega, rfl⟩
    obtain ⟨m, l, hex, hm1, hm2, hfix⟩ := hcase
    refine ⟨by omega, by omega, ((m : Int), (l : Int)), hex, ?_⟩
    refine (Hn.start w1).nw fun w2 H => ?_
    simp only [List.nil_append] at H
    iterate 2 (refine H.st 0 rfl (by simp) fun _ H => ?_; simp only [List.nil_append, List.cons_append, List.set_cons_zero, List.set_cons_succ, Nat.zero_add] at H)
    iterate 1 refine H.ld 0 rfl rfl ?_
    refine H.nw fun w5 H => ?_
    simp only [List.cons_append, List.nil_append] at H
    iterate 1 refine H.ld 0 rfl rfl ?_
    refine (c_repeat (H.get 1 rfl) hm1 (by omega)).mono ?_ fun _ _ h => h.elim
    rintro r w6 ⟨hv, e6, o6⟩
    have E6 := H.ext.tr e6
    obtain ⟨o7, w7, hrun, hrow7, hl7, e7, own7⟩ := elI.app (ty := 76) (hrow.keep E6 fun _ _ h => h) hv.2 (ints_one _) (by rw [hv.1, List.length_replicate]; omega) (by rw [hv.1, List.length_replicate]; omega)
    refine ⟨o7, w7, hrun, 4 - (k + 1), by omega, k + 1, o7, by rw [i64_id (by omega)]; rfl, by omega, rfl, ?_, fun j hj => ?_, (he.tr E6).trans e7 (fun _ h => h) fun i hi h => by have := hown i h; omega⟩
    · rw [hfix, ints_app]; exact hrow7
    · have := E6.size
      have := he.size
      rcases own7 j hj with h | h
      · exact hown j h
      · omega
  · have : k = 4 := by omega
    subst this
    refine (Hn.start w1).nw fun w2 H => ?_
    simp only [List.nil_append] at H
    refine (c_repeat (c := 32) (H.get 0 rfl) (by omega) (by omega)).mono ?_ fun _ _ h => h.elim
    rintro r w3 ⟨hv, e3, o3⟩
    have hr : IV w1 o fixL := IV.row hrow
    exact ⟨(hr.keep H.ext).keep e3, hv, he.tr (H.ext.tr e3)⟩
end
end Inf
end Go.Proofs.YtjkoafjnmkchdaaGreatDoor

/- Inflate: the laid variables; the program's lengths. Conditions: sizes, the laid variables. -/
namespace Go.Proofs.YtjkoafjnmkchdaaGreatDoor
namespace Inf
open Sh Bit
set_option linter.unusedVariables false
set_option linter.unusedSimpArgs false
set_option maxRecDepth 4000
set_option maxHeartbeats 2000000
def repV (n : Int) : (Int × Int) × Bool := if n = 16 then ((3, 2), true) else if n = 17 then ((3, 3), true) else if n = 18 then ((11, 7), true) else ((0, 0), false)
/-- What the laid variables hold: order, repeats. -/
def Laid (N : Nat) (w : World) : Prop := 2 ≤ N ∧ N ≤ w.heap.size ∧ (∀ i : Nat, i < 19 → w.cell? ⟨0, i, none⟩ = some (.int .i64 ((order.getD i 0 : Nat) : Int))) ∧
  ∃ (bm : Nat) (ob : Obj), bm < N ∧ w.heap[bm]? = some ob ∧ w.cell? ⟨1, 0, none⟩ = some (.map (some bm)) ∧
    ∀ w' : World, w'.heap[bm]? = some ob → ∀ n : Int, 0 ≤ n → n < 19 → RunV Tryz.prog (Instr.lookup 159 (.map (some bm)) (.int .i64 n) true) w' (.tuple #[.agg #[.int .i64 (repV n).1.1, .int .i64 (repV n).1.2], .bool (repV n).2]) w'
theorem Laid.keep {F : Nat → Prop} {N : Nat} {w w' : World} (h : Laid N w) (he : Ext F w w') (hF : ∀ j, F j → N ≤ j) : Laid N w' := by
  obtain ⟨h1, h2, h3, bm, ob, h4, h5, h6, h7⟩ := h
  have hz := he.size
  refine ⟨h1, by omega, fun i hi => ?_, bm, ob, h4, ?_, ?_, h7⟩
  · rw [he.cell (by show 0 < w.heap.size; omega) (fun e => by have := hF _ e; have : N ≤ 0 := this; omega)]
    exact h3 i hi
  · rw [he.block bm (by omega) (fun e => by have := hF _ e; omega)]
    exact h5
  · rw [he.cell (by show 1 < w.heap.size; omega) (fun e => by have := hF _ e; have : N ≤ 1 := this; omega)]
    exact h6
/-- No block of the decompression is a laid one. -/
structure Low (N fb rb : Nat) (o : Slc) : Prop where
  f : N ≤ fb
  r : N ≤ rb
  o : ∀ j, o.own j → N ≤ j
section
variable {w w1 : World} {fb rb N : Nat} {o o1 : Slc} {s : ByteArray} {out : List UInt8} {p most : Nat}
theorem Low.mv (h : Low N fb rb o) (m : Mv fb rb w w1 o o1) (hw : N ≤ w.heap.size) : Low N fb rb o1 := ⟨h.f, h.r, fun j hj => by
  rcases m.own j hj with e | e
  · exact h.o j e
  · omega⟩
theorem Laid.mv (h : Laid N w) (k : Low N fb rb o) (m : Ext (XF fb rb o) w w1) : Laid N w1 := h.keep m fun j e => by
  rcases e with rfl | rfl | e
  · exact k.f
  · exact k.r
  · exact k.o j e
theorem elI_make0 (w : World) (c : Nat) (hc : c ≤ 1000000) : ∃ w', RunV Tryz.prog (Instr.makeSlice 76 (.int .i64 0) (.int .i64 (c : Int))) w (Slc.v ⟨some ⟨w.heap.size, 0, none⟩, 0, c⟩) w' ∧ Ext (fun _ => False) w w' ∧ Row w' ⟨some ⟨w.heap.size, 0, none⟩, 0, c⟩ 3 1 [] := by
  obtain ⟨i, hi, h1, h8, hz⟩ := elI.info
  have hr := run_make (P := Tryz.prog) w 76 3 i (.int .i64 0) und_ints hi hz .i64 .i64 0 c (by omega) (by omega) (by rw [h8]; omega) (by omega)
  simp only [Int.toNat_natCast] at hr
  refine ⟨_, hr, (Ext.refl _ _).alloc _, by simp, .inr ⟨_, _, rfl, Blk.new _ _ _, by simp, ?_, by simp⟩⟩
  rw [h1]
  exact size_madeCells _ _
theorem repV_lit {g : Nat} (h : g < 16) : repV (g : Int) = ((0, 0), false) := by
  unfold repV
  rw [if_neg (by omega), if_neg (by omega), if_neg (by omega)]
theorem repV_rep {g : Nat} (h : ¬ g < 16) (h2 : g < 19) : repV (g : Int) = ((((repL g : Nat) : Int), ((repB g : Nat) : Int)), true) := by
  have : g = 16 ∨ g = 17 ∨ g = 18 := by omega
  rcases this with rfl | rfl | rfl <;> rfl
attribute [local irreducible] Ld St Nw Nn Lt LdS
theorem c_lengths {lens : List Int} {lo hi tb many : Nat} (h : FS w fb rb o s out p most) (hs : s.size ≤ 1000000) (ht : TB w lo hi tb lens) (hk : Lok lens) (h19 : lens.length = 19) (hS : Sep lo hi fb rb o w) (hL : Laid N w) (hN : Low N fb rb o) (hm : many ≤ 1000) :
    C79 (some (⟨fb, 0, none⟩ : Addr)) (some (⟨tb, 0, none⟩ : Addr)) (many : Int) w
      (fun r w1 => ∃ l q, lensF lens s many (many + 1) [] p = .ok (l, q) ∧ IV w1 r l ∧ r.len ≤ r.cap ∧ (∀ j, r.own j → w.heap.size ≤ j) ∧ FS w1 fb rb o s out q most ∧ Ext (· = rb) w w1) (ErR fb rb w o (lensF lens s many (many + 1) [] p)) := by
  refine T79 _ _ _ _ _ _ ?_
  unfold S79
  have hfb := h.blk.lt
  have hrb := h.rd.lt
  obtain ⟨w1, hrun, e1, hrow1⟩ := elI_make0 w many (by omega)
  refine ⟨_, w1, hrun, ?_⟩
  generalize hR : lensF lens s many (many + 1) [] p = R0
  have rdx : ∀ {a b : World}, Ext (fun _ => False) a b → Ext (· = rb) a b := fun h => h.mono fun _ _ e => e.elim
  refine ⟨fun n st w2 => ∃ (l : List Int) (q : Nat), Row w2 st 3 1 (ints l) ∧ (∀ j, st.own j → w.heap.size ≤ j) ∧ FS w2 fb rb o s out q most ∧ Ext (· = rb) w w2 ∧ l.length ≤ many ∧ many < l.length + n ∧ lensF lens s many n l q = R0, many + 1, ⟨[], p, hrow1, fun j hj => (by obtain ⟨a, ha, rfl⟩ := hj; cases ha; exact Nat.le_refl _), h.keep e1, rdx e1, Nat.zero_le _, by simp, hR⟩, ?_⟩
  rintro n st w2 ⟨l, q, hrow, hown, H2, e2, hlm, hfu, hres⟩
  unfold S79L1
  have hsl : st.len = l.length := by have := hrow.1; rw [ints_len] at this; omega
  have hz2 := e2.size
  rw [hsl]
  obtain ⟨n, rfl⟩ : ∃ n', n = n' + 1 := ⟨n - 1, by omega⟩
  unfold lensF at hres
  refine Br.dec (fun q1 => ?_) fun q1 => ?_
  · rw [if_neg (by omega)] at hres
    refine Nn.of (Ld.of H2.blk (o := 0) (x := at0 rb) rfl ?_)
    have m2 : Mv fb rb w w2 o o := .rd e2
    refine (c_tread (ht.mv hS m2.ext) hk H2.rd hs hS.r).mono ?_
    rintro r e w3 ⟨e3, q3, hT, hr3⟩
    have E3 : Ext (· = rb) w w3 := e2.tr e3
    refine (c_mustI _ e w3).mono ?_ ?_
    rotate_left
    · rintro v _ ⟨rfl, h2, rfl⟩
      rcases hT with ⟨g, _, _, h3⟩ | ⟨h3, _⟩
      · exact absurd h3 h2
      · rw [h3] at hres
        exact ⟨e, hres.symm, rfl, (Mv.rd E3).ext⟩
    rintro r w3 ⟨rfl, rfl, rfl⟩
    obtain ⟨g, hg, rfl, _⟩ : ∃ g : Nat, sym lens s q = .ok (g, q3) ∧ r = (g : Int) ∧ (0 : Int) = 0 := by
      rcases hT with hT | ⟨_, h3⟩
      · exact hT
      · exact absurd rfl h3
    have H3 := H2.read e3 (hr3 rfl)
    have hrow3 := hrow.keep e3 fun j hj e => by have := hown j hj; have e : j = rb := e; omega
    obtain ⟨g1, g2, g3⟩ := sym_ok hg
    rw [h19] at g3
    rw [hg] at hres
    dsimp only at hres
    have hL3 := hL.keep E3 fun j e => by have e : j = rb := e; rw [e]; exact hN.r
    obtain ⟨n1, n2, n3, bm, ob, n4, n5, n6, n7⟩ := hL3
    refine Ld.mk n6 ⟨(repV g).1, (repV g).2, w3, n7 w3 n5 g (by omega) (by omega), ?_⟩
    refine (Hn.start w3).nw fun w4 H => ?_
    simp only [List.nil_append] at H
    have hlt4 := H.lt 0 rfl
    iterate 2 (refine H.st 0 rfl (by simp) fun _ H => ?_; simp only [List.nil_append, List.cons_append, List.set_cons_zero, List.set_cons_succ, Nat.zero_add] at H)
    have hown3 : ∀ j, st.own j → j < w3.heap.size := fun j hj => hrow3.own_lt hj
    by_cases q4 : g < 16
    · rw [repV_lit q4]
      rw [if_pos q4] at hres
      refine Br.t rfl ?_
      refine H.nw fun w7 H => ?_
      simp only [List.cons_append, List.nil_append] at H
      obtain ⟨o8, w8, hrun8, hrow8, hl8, e8, own8⟩ := elI.app1 (ty := 76) (ys := [.int .i64 (g : Int)]) (hrow3.keep H.ext fun _ _ h => h) (H.get 1 rfl) rfl (by intro v hv; rw [List.mem_singleton.1 hv]; rfl) (by omega) (by omega)
      refine ⟨o8, w8, hrun8, n, by omega, l ++ [(g : Int)], q3, ?_, fun j hj => ?_, ?_, ?_, ?_, ?_, hres⟩
      · rw [ints_app]; exact hrow8
      · have := H.size
        have := E3.size
        rcases own8 j hj with e | e
        · exact hown j e
        · omega
      · have H7 := H3.keep H.ext
        exact ⟨e8.blk H7.blk fun e => by have := hown _ e; omega, H7.rd.keep e8 fun e => by have := hown _ e; omega, H7.row.keep e8 fun j hj e => by have := hown j e; have := h.row.own_lt hj; omega, H7.ne, H7.nf, H7.nr, H7.len, H7.big⟩
      · exact (E3.tr (rdx H.ext)).trans e8 (fun _ h => h) fun i hi e => by have := hown i e; omega
      · rw [List.length_append]; simp; omega
      · rw [List.length_append]; simp; omega
    · rw [repV_rep q4 g3]
      rw [if_neg q4] at hres
      have hB : repB g ≤ 7 ∧ 2 ≤ repB g := by unfold repB; split; omega; split <;> omega
      have hLb : repL g ≤ 11 ∧ 3 ≤ repL g := by unfold repL; split <;> omega
      rw [repV_rep q4 g3] at H
      refine Br.f rfl (Br.eq (fun q5 => ?_) fun q5 => ?_)
      · have : g = 16 := by omega
        subst this
        refine (c_need _ 3 _).mono ?_ ?_
        rotate_left
        · rintro v w7 ⟨rfl, h5, rfl⟩
          have h5 := of_decide_eq_false h5
          rw [if_pos ⟨rfl, by omega⟩] at hres
          exact ⟨3, hres.symm, rfl, (Mv.rd (E3.tr (rdx H.ext))).ext⟩
        rintro w7 ⟨h5, rfl⟩
        have h5 := of_decide_eq_true h5
        rw [if_neg (by omega)] at hres
        rw [i64_id (n := ((l.length : Nat) : Int) - 1) (by omega)]
        have hvl := IV.row (hrow3.keep H.ext fun _ _ h => h)
        obtain ⟨a, ha, hc⟩ := hvl.get (i := l.length - 1) (by omega)
        rw [ha]
        refine ⟨by omega, by omega, Nn.of ?_⟩
        rw [show (((l.length : Nat) : Int) - 1).toNat = l.length - 1 by omega]
        refine Ld.mk hc ?_
        refine ⟨fun w' => Blk w' w3.heap.size #[.int .i64 (repL 16 : Nat), .int .i64 (repB 16 : Nat)] 157, (H.get 0 rfl).drew, LdS.of (fun w' h => h) (o := 0) (x := ((repL 16 : Nat) : Int)) rfl ?_⟩
        simp only [add_lit, Nat.zero_add]
        refine LdS.of (fun w' h => h) (o := 1) (x := ((repB 16 : Nat) : Int)) rfl ?_
        have H := H.drew
        have H7 := H3.keep H.ext
        have hrow7 := hrow3.keep H.ext fun _ _ h => h
        refine (c_bits (n := repB 16) (by omega) H7 hs).mono ?_ ?_
        rotate_left
        · rintro v w8 ⟨hn, rfl, e8⟩
          rw [hn] at hres
          exact ⟨4, hres.symm, rfl, (Mv.rd ((E3.tr (rdx H.ext)).tr e8)).ext⟩
        rintro x w8 ⟨q8, hn, H8, e8⟩
        rw [hn] at hres
        dsimp only at hres
        obtain ⟨x0, x1, x2, x3⟩ := num_bd hn
        have hp7 : (2 : Int) ^ repB 16 ≤ 2 ^ 7 := two_pow_le (by omega)
        have h27 : (2 : Int) ^ 7 = 128 := by decide
        obtain ⟨x, rfl⟩ := Int.eq_ofNat_of_zero_le x0
        simp only [Int.toNat_natCast] at hres
        have E8 := (E3.tr (rdx H.ext)).tr e8
        have hrow8 := hrow7.keep e8 fun j hj e => by have := hown j hj; have e : j = rb := e; omega
        have hrb3 := H3.rd.lt
        refine ⟨e8.blk (H.get 0 rfl) (fun e => by have e : w3.heap.size = rb := e; omega), ?_⟩
        rw [i64_id (n := ((repL 16 : Nat) : Int) + (x : Int)) (by omega), i64_id (by omega)]
        refine (c_need _ 3 _).mono ?_ ?_
        rotate_left
        · rintro v w8 ⟨rfl, h6, rfl⟩
          have h6 := of_decide_eq_false h6
          rw [if_pos (by omega)] at hres
          exact ⟨3, hres.symm, rfl, (Mv.rd E8).ext⟩
        rintro w8 ⟨h6, rfl⟩
        have h6 := of_decide_eq_true h6
        rw [if_neg (by omega), if_pos trivial] at hres
        refine (Hn.start w8).nw fun w9 H9 => ?_
        simp only [List.nil_append] at H9
        rw [show ((repL 16 : Nat) : Int) + (x : Int) = ((repL 16 + x : Nat) : Int) by omega]
        refine (c_repeat (H9.get 0 rfl) (c := repL 16 + x) (by omega) (by omega)).mono ?_ fun _ _ h => h.elim
        rintro r w10 ⟨hv, e10, o10⟩
        have e9 := H9.ext.tr e10
        obtain ⟨o11, w11, hrun11, hrow11, hl11, e11, own11⟩ := elI.app (ty := 76) (hrow8.keep e9 fun _ _ h => h) hv.2 (ints_one _) (by rw [hv.1, List.length_replicate]; omega) (by rw [hv.1, List.length_replicate]; omega)
        refine ⟨o11, w11, hrun11, n, by omega, _, q8, ?_, fun j hj => ?_, ?_, ?_, ?_, ?_, hres⟩
        · rw [ints_app]; exact hrow11
        · have := e9.size
          have := E8.size
          rcases own11 j hj with e | e
          · exact hown j e
          · omega
        · have H10 := H8.keep e9
          exact ⟨e11.blk H10.blk fun e => by have := hown _ e; omega, H10.rd.keep e11 fun e => by have := hown _ e; omega, H10.row.keep e11 fun j hj e => by have := hown j e; have := h.row.own_lt hj; omega, H10.ne, H10.nf, H10.nr, H10.len, H10.big⟩
        · exact (E8.tr (rdx e9)).trans e11 (fun _ h => h) fun i hi e => by have := hown i e; omega
        · rw [List.length_append, List.length_replicate]; omega
        · rw [List.length_append, List.length_replicate]; omega
      · rw [if_neg (by omega)] at hres
        have h16 : ¬ g = 16 := by omega
        refine ⟨fun w' => Blk w' w3.heap.size #[.int .i64 (repL g : Nat), .int .i64 (repB g : Nat)] 157, (H.get 0 rfl).drew, LdS.of (fun w' h => h) (o := 0) (x := ((repL g : Nat) : Int)) rfl ?_⟩
        simp only [add_lit, Nat.zero_add]
        refine LdS.of (fun w' h => h) (o := 1) (x := ((repB g : Nat) : Int)) rfl ?_
        have H := H.drew
        have H7 := H3.keep H.ext
        have hrow7 := hrow3.keep H.ext fun _ _ h => h
        refine (c_bits (n := repB g) (by omega) H7 hs).mono ?_ ?_
        rotate_left
        · rintro v w8 ⟨hn, rfl, e8⟩
          rw [hn] at hres
          exact ⟨4, hres.symm, rfl, (Mv.rd ((E3.tr (rdx H.ext)).tr e8)).ext⟩
        rintro x w8 ⟨q8, hn, H8, e8⟩
        rw [hn] at hres
        dsimp only at hres
        obtain ⟨x0, x1, x2, x3⟩ := num_bd hn
        have hp7 : (2 : Int) ^ repB g ≤ 2 ^ 7 := two_pow_le (by omega)
        have h27 : (2 : Int) ^ 7 = 128 := by decide
        obtain ⟨x, rfl⟩ := Int.eq_ofNat_of_zero_le x0
        simp only [Int.toNat_natCast] at hres
        have E8 := (E3.tr (rdx H.ext)).tr e8
        have hrow8 := hrow7.keep e8 fun j hj e => by have := hown j hj; have e : j = rb := e; omega
        have hrb3 := H3.rd.lt
        refine ⟨e8.blk (H.get 0 rfl) (fun e => by have e : w3.heap.size = rb := e; omega), ?_⟩
        rw [i64_id (n := ((repL g : Nat) : Int) + (x : Int)) (by omega), i64_id (by omega)]
        refine (c_need _ 3 _).mono ?_ ?_
        rotate_left
        · rintro v w8 ⟨rfl, h6, rfl⟩
          have h6 := of_decide_eq_false h6
          rw [if_pos (by omega)] at hres
          exact ⟨3, hres.symm, rfl, (Mv.rd E8).ext⟩
        rintro w8 ⟨h6, rfl⟩
        have h6 := of_decide_eq_true h6
        rw [if_neg (by omega), if_neg h16] at hres
        refine (Hn.start w8).nw fun w9 H9 => ?_
        simp only [List.nil_append] at H9
        rw [show ((repL g : Nat) : Int) + (x : Int) = ((repL g + x : Nat) : Int) by omega]
        refine (c_repeat (H9.get 0 rfl) (c := repL g + x) (by omega) (by omega)).mono ?_ fun _ _ h => h.elim
        rintro r w10 ⟨hv, e10, o10⟩
        have e9 := H9.ext.tr e10
        obtain ⟨o11, w11, hrun11, hrow11, hl11, e11, own11⟩ := elI.app (ty := 76) (hrow8.keep e9 fun _ _ h => h) hv.2 (ints_one _) (by rw [hv.1, List.length_replicate]; omega) (by rw [hv.1, List.length_replicate]; omega)
        refine ⟨o11, w11, hrun11, n, by omega, _, q8, ?_, fun j hj => ?_, ?_, ?_, ?_, ?_, hres⟩
        · rw [ints_app]; exact hrow11
        · have := e9.size
          have := E8.size
          rcases own11 j hj with e | e
          · exact hown j e
          · omega
        · have H10 := H8.keep e9
          exact ⟨e11.blk H10.blk fun e => by have := hown _ e; omega, H10.rd.keep e11 fun e => by have := hown _ e; omega, H10.row.keep e11 fun j hj e => by have := hown j e; have := h.row.own_lt hj; omega, H10.ne, H10.nf, H10.nr, H10.len, H10.big⟩
        · exact (E8.tr (rdx e9)).trans e11 (fun _ h => h) fun i hi e => by have := hown i e; omega
        · rw [List.length_append, List.length_replicate]; omega
        · rw [List.length_append, List.length_replicate]; omega
  · rw [if_pos (by omega)] at hres
    exact ⟨l, q, hres.symm, IV.row hrow, row_cap hrow, hown, H2, e2⟩
end
end Inf
end Go.Proofs.YtjkoafjnmkchdaaGreatDoor

/- Inflate: the program's dynamic and fixed blocks, block, All. Conditions: sizes, the laid variables. -/
namespace Go.Proofs.YtjkoafjnmkchdaaGreatDoor
namespace Inf
open Sh Bit
set_option linter.unusedVariables false
set_option linter.unusedSimpArgs false
set_option maxRecDepth 4000
set_option maxHeartbeats 2000000
theorem chk_fixL : chk fixL = 0 := by decide +kernel
theorem chk_fixD : chk fixD = 0 := by decide +kernel
/-- Lengths that are read are not negative. -/
theorem lensF_nn {s : ByteArray} {lens l2 : List Int} {many q : Nat} : ∀ (k : Nat) (l : List Int) (p : Nat), (∀ x ∈ l, 0 ≤ x) → lensF lens s many k l p = .ok (l2, q) → ∀ x ∈ l2, 0 ≤ x
  | 0, _, _, _, h => by cases h
  | k + 1, l, p, hl, h => by
    unfold lensF at h
    split at h
    · cases h; exact hl
    · split at h
      · cases h
      · split at h
        · exact lensF_nn k _ _ (fun x hx => by
            rcases List.mem_append.1 hx with hx | hx
            · exact hl x hx
            · rw [List.mem_singleton.1 hx]; omega) h
        · split at h
          · cases h
          · split at h
            · cases h
            · split at h
              · cases h
              · refine lensF_nn k _ _ (fun x hx => ?_) h
                rcases List.mem_append.1 hx with hx | hx
                · exact hl x hx
                · rw [List.eq_of_mem_replicate hx]
                  split
                  · by_cases hz : l.length - 1 < l.length
                    · exact getD_in (P := fun x => 0 ≤ x) hl hz
                    · rw [List.getD_eq_getElem?_getD, List.getElem?_eq_none (by omega)]
                      exact Int.le_refl _
                  · exact Int.le_refl _
theorem IV.take {w : World} {s : Slc} {l : List Int} (h : IV w s l) {n : Nat} (hn : n ≤ l.length) : IV w (s.cut 1 0 n s.cap) (l.take n) := by
  refine ⟨?_, ?_, fun j v hj => ?_⟩
  · show n - 0 = _
    rw [List.length_take]; omega
  · rw [ints_len, List.length_take]
    show _ = (n - 0) * 1
    omega
  · have hjl : j < (l.take n).length := by
      have := (List.getElem?_eq_some_iff.1 hj).1
      rw [ints_len] at this
      exact this
    rw [List.length_take] at hjl
    obtain ⟨a, ha, hc⟩ := h.2.2 j v (by
      rw [← hj]
      unfold ints
      rw [List.getElem?_map, List.getElem?_map, List.getElem?_take_of_lt (by omega)])
    refine ⟨a, ?_, hc⟩
    show (if s.cap = 0 then s.p else s.p.map (·.add (0 * 1))) = _
    split
    · exact ha
    · rw [ha, Nat.zero_mul]
      show some (a.add 0) = _
      have e : a.add 0 = a := by unfold Addr.add; split <;> (try split) <;> simp_all
      rw [e]
section
variable {w : World} {fb rb N : Nat} {o : Slc} {s : ByteArray} {out : List UInt8} {p most : Nat}
theorem FS.sep {w0 w1 : World} {lo hi : Nat} (h : FS w0 fb rb o s out p most) (hlo : w0.heap.size ≤ lo) (hhi : hi ≤ w1.heap.size) : Sep lo hi fb rb o w1 :=
  ⟨.inl (Nat.lt_of_lt_of_le h.blk.lt hlo), .inl (Nat.lt_of_lt_of_le h.rd.lt hlo), fun j hj => .inl (Nat.lt_of_lt_of_le (h.row.own_lt hj) hlo), hhi⟩
theorem TB.no {w w1 : World} {lo hi b : Nat} {lens : List Int} (h : TB w lo hi b lens) (he : Ext (fun _ => False) w w1) : TB w1 lo hi b lens := h.keep he fun _ _ _ h => h
attribute [local irreducible] Ld St Nw Nn Lt LdS
theorem c_fixed (h : FS w fb rb o s out p most) (hs : s.size ≤ 1000000) : C44 (some (⟨fb, 0, none⟩ : Addr)) w (OkR fb rb w o s most (signsF s fixL fixD most (8 * s.size + 1) out p)) (ErR fb rb w o (signsF s fixL fixD most (8 * s.size + 1) out p)) := by
  refine T44 _ _ _ _ ?_
  unfold S44
  refine (c_Fixed w).mono ?_ fun _ _ h => h.elim
  rintro a b w1 ⟨ha, hb, e1⟩
  refine (c_new ha).mono ?_
  rintro r e w2 ⟨rfl, e2, _, h2⟩
  obtain ⟨t1, rfl, ht1⟩ := h2 chk_fixL
  rw [chk_fixL]
  refine (c_mustT _ 0 w2).mono ?_ fun v w h => absurd rfl h.2.1
  rintro r w2 ⟨_, rfl, rfl⟩
  refine (c_new (hb.keep e2)).mono ?_
  rintro r e w3 ⟨rfl, e3, _, h3⟩
  obtain ⟨t2, rfl, ht2⟩ := h3 chk_fixD
  rw [chk_fixD]
  refine (c_mustT _ 0 w3).mono ?_ fun v w h => absurd rfl h.2.1
  rintro r w3 ⟨_, rfl, rfl⟩
  have E := (e1.tr e2).tr e3
  have z1 := e1.size
  have z2 := e2.size
  have z3 := e3.size
  refine (c_coded (h.keep E) hs (ht1.no e3) (chk_lok chk_fixL) (h.sep (by omega) (by omega)) ht2 (chk_lok chk_fixD) (h.sep (by omega) (by omega))).mono ?_ ?_
  · rintro w4 ⟨o1, out1, q, h1, h2, h3⟩
    exact ⟨o1, out1, q, h1, h2, (Mv.no E).tr h3⟩
  · rintro v w4 ⟨e, h1, h2, h3⟩
    exact ⟨e, h1, h2, (Mv.no E).er h3⟩
def dynR (s : ByteArray) (most : Nat) (out : List UInt8) (p : Nat) : Except Int (List UInt8 × Nat) := match dyn s p with
  | .error e => .error e
  | .ok (a, b, q) => signsF s a b most (8 * s.size + 1) out q
theorem order_lt : ∀ i, i < 19 → order.getD i 0 < 19 := by decide
theorem c_dynamic (h : FS w fb rb o s out p most) (hs : s.size ≤ 1000000) (hL : Laid N w) (hN : Low N fb rb o) : C45 (some (⟨fb, 0, none⟩ : Addr)) w (OkR fb rb w o s most (dynR s most out p)) (ErR fb rb w o (dynR s most out p)) := by
  refine T45 _ _ _ _ ?_
  unfold S45
  have h32 : (2 : Int) ^ 5 = 32 := by decide
  have h16 : (2 : Int) ^ 4 = 16 := by decide
  generalize hR : dynR s most out p = R0
  unfold dynR dyn at hR
  have rdx : ∀ {a b : World}, Ext (fun _ => False) a b → Ext (· = rb) a b := fun h => h.mono fun _ _ e => e.elim
  refine (c_bits (n := 5) (by omega) h hs).mono ?_ ?_
  rotate_left
  · rintro v w1 ⟨hn, rfl, e1⟩
    rw [hn] at hR
    exact ⟨4, hR.symm, rfl, (Mv.rd e1).ext⟩
  rintro hl w1 ⟨p1, hn1, H1, e1⟩
  rw [hn1] at hR
  dsimp only at hR
  obtain ⟨a0, a1, a2, a3⟩ := num_bd hn1
  rw [i64_id (n := hl + 257) (by omega)]
  refine (c_need _ 3 _).mono ?_ ?_
  rotate_left
  · rintro v w1 ⟨rfl, h3, rfl⟩
    have h3 := of_decide_eq_false h3
    rw [if_pos (by omega)] at hR
    exact ⟨3, hR.symm, rfl, (Mv.rd e1).ext⟩
  rintro w1 ⟨h3, rfl⟩
  have h3 := of_decide_eq_true h3
  rw [if_neg (by omega)] at hR
  refine (c_bits (n := 5) (by omega) H1 hs).mono ?_ ?_
  rotate_left
  · rintro v w2 ⟨hn, rfl, e2⟩
    rw [hn] at hR
    exact ⟨4, hR.symm, rfl, (Mv.rd (e1.tr e2)).ext⟩
  rintro hd w2 ⟨p2, hn2, H2, e2⟩
  rw [hn2] at hR
  dsimp only at hR
  obtain ⟨b0, b1, b2, b3⟩ := num_bd hn2
  rw [i64_id (n := hd + 1) (by omega)]
  refine (c_need _ 3 _).mono ?_ ?_
  rotate_left
  · rintro v w2 ⟨rfl, h4, rfl⟩
    have h4 := of_decide_eq_false h4
    rw [if_pos (by omega)] at hR
    exact ⟨3, hR.symm, rfl, (Mv.rd (e1.tr e2)).ext⟩
  rintro w2 ⟨h4, rfl⟩
  have h4 := of_decide_eq_true h4
  rw [if_neg (by omega)] at hR
  have E2 := e1.tr e2
  obtain ⟨hl, rfl⟩ := Int.eq_ofNat_of_zero_le a0
  obtain ⟨hd, rfl⟩ := Int.eq_ofNat_of_zero_le b0
  have hfb2 := H2.blk.lt
  have hrb2 := H2.rd.lt
  refine (Hn.start w2).nw fun w3 H => ?_
  simp only [List.nil_append] at H
  have H : Hn w2 w3 [(w2.heap.size, ints (List.replicate 19 0), 108)] := H
  refine (c_bits (n := 4) (by omega) (H2.keep H.ext) hs).mono ?_ ?_
  rotate_left
  · rintro v w4 ⟨hn, rfl, e4⟩
    rw [hn] at hR
    exact ⟨4, hR.symm, rfl, (Mv.rd ((E2.tr (rdx H.ext)).tr e4)).ext⟩
  rintro hc w4 ⟨p4, hn4, H4, e4⟩
  rw [hn4] at hR
  dsimp only at hR
  obtain ⟨c0, c1, c2, c3⟩ := num_bd hn4
  obtain ⟨hc, rfl⟩ := Int.eq_ofNat_of_zero_le c0
  have E4 := (E2.tr (rdx H.ext)).tr e4
  rw [i64_id (n := (hc : Int) + 4) (by omega), show ((hc : Int) + 4).toNat = hc + 4 by omega]
  have cut1 : Slc.cut (⟨some (⟨0, 0, none⟩ : Addr), 19, 19⟩ : Slc) 1 0 (hc + 4) 19 = ⟨some ⟨0, 0, none⟩, hc + 4, 19⟩ := by
    unfold Slc.cut
    rw [if_neg (by omega)]
    simp only [Option.map_some, add_lit, Nat.zero_add, Nat.zero_mul, Nat.sub_zero]
  have cut2 : Slc.cut (⟨some (⟨w2.heap.size, 0, none⟩ : Addr), 19, 19⟩ : Slc) 1 0 19 19 = ⟨some ⟨w2.heap.size, 0, none⟩, 19, 19⟩ := by
    unfold Slc.cut
    rw [if_neg (by omega)]
    simp only [Option.map_some, add_lit, Nat.zero_add, Nat.zero_mul, Nat.sub_zero]
  rw [cut1]
  refine ⟨by omega, by omega, Lt.of ?_⟩
  have hB4 : Blk w4 w2.heap.size (ints (List.replicate 19 0)).toArray 108 := e4.blk (H.get 0 rfl) fun e => by have e : w2.heap.size = rb := e; omega
  generalize hR19 : lens19 s (order.take (hc + 4)) (List.replicate 19 0) p4 = R19
  simp only [Int.toNat_natCast] at hR
  rw [hR19] at hR
  refine ⟨fun n st w5 => ∃ (i : Nat) (l : List Int) (q : Nat), st = (i : Int) ∧ i ≤ hc + 4 ∧ n = hc + 4 - i ∧ l.length = 19 ∧ Blk w5 w2.heap.size (ints l).toArray 108 ∧ FS w5 fb rb o s out q most ∧ Ext (· = rb) w w5 ∧ lens19 s ((order.take (hc + 4)).drop i) l q = R19, hc + 4, ⟨0, _, p4, rfl, by omega, rfl, by simp, hB4, H4, E4, hR19⟩, ?_⟩
  rintro n st w5 ⟨i, l, q, rfl, hi, rfl, hl19, hB5, H5, E5, hres⟩
  unfold S45L1
  rw [i64_id (n := (hc : Int) + 4) (by omega), show ((hc : Int) + 4).toNat = hc + 4 by omega, cut1]
  have hL5 := hL.keep E5 fun j e => by have e : j = rb := e; rw [e]; exact hN.r
  refine Br.dec (fun q1 => ?_) fun q1 => ?_
  · have q1 : i < hc + 4 := by have q1 : (i : Int) < ((hc + 4 : Nat) : Int) := q1; omega
    refine ⟨by omega, by show (i : Int) < ((hc + 4 : Nat) : Int); omega, Nn.of ?_⟩
    simp only [add_lit, Int.toNat_natCast, Nat.mul_one, Nat.zero_add]
    refine Ld.mk (hL5.2.2.1 i (by omega)) ?_
    have hol := order_lt i (by omega)
    have hdrop : (order.take (hc + 4)).drop i = order.getD i 0 :: (order.take (hc + 4)).drop (i + 1) := by
      have hlen : (order.take (hc + 4)).length = hc + 4 := by rw [List.length_take]; show min (hc + 4) 19 = _; omega
      rw [List.drop_eq_getElem_cons (by omega)]
      congr 1
      rw [List.getElem_take, List.getD_eq_getElem?_getD, List.getElem?_eq_getElem (by show i < 19; omega)]
      rfl
    rw [hdrop] at hres
    unfold lens19 at hres
    refine (c_bits (n := 3) (by omega) H5 hs).mono ?_ ?_
    rotate_left
    · rintro v w6 ⟨hn, rfl, e6⟩
      rw [hn] at hres
      rw [← hres] at hR
      exact ⟨4, hR.symm, rfl, (Mv.rd (E5.tr e6)).ext⟩
    rintro x w6 ⟨q6, hn6, H6, e6⟩
    rw [hn6] at hres
    dsimp only at hres
    refine ⟨by omega, by omega, ?_⟩
    have hB6 := e6.blk hB5 fun e => by have e : w2.heap.size = rb := e; omega
    refine (Hx.one (F := (· = w2.heap.size)) hB6).st 0 rfl (by rw [List.size_toArray, ints_len]; omega) (.inl rfl) fun w7 H7 => ?_
    have hB7 : Blk w7 w2.heap.size (ints (l.set (order.getD i 0) x)).toArray 108 := by
      have := H7.get 0 rfl
      rw [← ints_set]
      simpa using this
    have hz := E2.size
    refine ⟨hc + 4 - (i + 1), by omega, i + 1, l.set (order.getD i 0) x, q6, by rw [i64_id (by omega)]; rfl, by omega, rfl, by rw [List.length_set]; exact hl19, hB7, ?_, ?_, hres⟩
    · have hne1 : fb ≠ w2.heap.size := by omega
      exact ⟨H7.ext.blk H6.blk fun e => hne1 e, H6.rd.keep H7.ext fun e => by have e : rb = w2.heap.size := e; omega, H6.row.keep H7.ext fun j hj e => by have := H2.row.own_lt hj; have e : j = w2.heap.size := e; omega, H6.ne, H6.nf, H6.nr, H6.len, H6.big⟩
    · exact (E5.tr e6).trans H7.ext (fun _ h => h) fun j hj e => by have e : j = w2.heap.size := e; omega
  · have q1 : ¬ i < hc + 4 := by have q1 : ¬ (i : Int) < ((hc + 4 : Nat) : Int) := q1; omega
    have hi4 : i = hc + 4 := by omega
    subst hi4
    have hd0 : (order.take (hc + 4)).drop (hc + 4) = [] := List.drop_eq_nil_of_le (by rw [List.length_take]; omega)
    rw [hd0] at hres
    have hres : Except.ok (l, q) = R19 := hres
    rw [← hres] at hR
    dsimp only at hR
    rw [cut2]
    have hz2 := E2.size
    have hz5 := E5.size
    refine (c_new (IV.blk hB5 hl19.symm)).mono ?_
    rintro r e w6 ⟨rfl, e6, _, h6⟩
    have H6 := H5.keep e6
    have E6 := E5.tr (rdx e6)
    refine (c_mustT _ _ w6).mono ?_ ?_
    rotate_left
    · rintro v w6 ⟨rfl, h7, rfl⟩
      rw [if_pos h7] at hR
      exact ⟨_, hR.symm, rfl, (Mv.rd E6).ext⟩
    rintro r w6 ⟨h7, rfl, rfl⟩
    rw [if_neg (fun hh => hh h7)] at hR
    obtain ⟨tb, rfl, ht⟩ := h6 h7
    have hL6 := hL5.keep e6 fun j e => e.elim
    rw [i64_id (n := (hl : Int) + 257) (by omega), i64_id (n := (hd : Int) + 1) (by omega), i64_id (n := (hl : Int) + 257 + ((hd : Int) + 1)) (by omega), show (hl : Int) + 257 + ((hd : Int) + 1) = ((hl + 257 + (hd + 1) : Nat) : Int) by omega]
    have hz6 := e6.size
    refine (c_lengths H6 hs ht (chk_lok h7) hl19 (H5.sep (Nat.le_refl _) (Nat.le_refl _)) hL6 hN (by omega)).mono ?_ ?_
    rotate_left
    · rintro v w7 ⟨e, h8, rfl, e7⟩
      rw [h8] at hR
      exact ⟨e, hR.symm, rfl, (Mv.rd E6).er e7⟩
    rintro r w7 ⟨l2, q2, hlf, hv2, hcap2, hown2, H7, e7⟩
    rw [hlf] at hR
    dsimp only at hR
    obtain ⟨f1, f2, f3⟩ := lensF_ok _ _ _ H6.rd.1 (Nat.zero_le _) hlf
    have hnn := lensF_nn _ _ _ (fun x hx => by cases hx) hlf
    have E7 := E6.tr e7
    have hln := hv2.1
    obtain ⟨a, ha, hca⟩ := hv2.get (i := 256) (by omega)
    rw [ha]
    refine ⟨by omega, by omega, Nn.of (Ld.mk hca ?_)⟩
    have h256 : 0 ≤ l2.getD 256 0 := getD_in (P := fun x => 0 ≤ x) hnn (by omega)
    refine (c_need _ 13 _).mono ?_ ?_
    rotate_left
    · rintro v w7 ⟨rfl, h8, rfl⟩
      have h8 := of_decide_eq_false h8
      rw [if_pos (by omega)] at hR
      exact ⟨13, hR.symm, rfl, (Mv.rd E7).ext⟩
    rintro w7 ⟨h8, rfl⟩
    have h8 := of_decide_eq_true h8
    rw [if_neg (by omega)] at hR
    rw [show (hl : Int) + 257 = ((hl + 257 : Nat) : Int) by omega, Int.toNat_natCast]
    refine ⟨by omega, by omega, by omega, by omega, ?_⟩
    have hvt := (hv2.take (n := hl + 257) (by omega)).keep ((Ext.refl _ _).drew)
    have H7 := H7.keep (Ext.refl _ _).drew
    have E7 : Ext (· = rb) w w7.drew := E7.drew
    refine (c_new hvt).mono ?_
    rintro r2 e w8 ⟨rfl, e8, _, h9⟩
    refine (c_mustT _ _ w8).mono ?_ ?_
    rotate_left
    · rintro v w8 ⟨rfl, h10, rfl⟩
      rw [if_pos h10] at hR
      exact ⟨_, hR.symm, rfl, (Mv.rd (E7.tr (rdx e8))).ext⟩
    rintro r2 w8 ⟨h10, rfl, rfl⟩
    rw [if_neg (fun hh => hh h10)] at hR
    obtain ⟨t1, rfl, ht1⟩ := h9 h10
    have hvd := ((hv2.keep (Ext.refl _ _).drew).keep e8).drop hcap2 (d := hl + 257) (by omega)
    refine (c_new hvd.1).mono ?_
    rintro r3 e w9 ⟨rfl, e9, _, h11⟩
    refine (c_mustT _ _ w9).mono ?_ ?_
    rotate_left
    · rintro v w9 ⟨rfl, h12, rfl⟩
      rw [if_pos h12] at hR
      exact ⟨_, hR.symm, rfl, (Mv.rd ((E7.tr (rdx e8)).tr (rdx e9))).ext⟩
    rintro r3 w9 ⟨h12, rfl, rfl⟩
    rw [if_neg (fun hh => hh h12)] at hR
    obtain ⟨t2, rfl, ht2⟩ := h11 h12
    have z8 := e8.size
    have z9 := e9.size
    have H9 := (H7.keep e8).keep e9
    have hcd := c_coded H9 hs (ht1.no e9) (chk_lok h10) (H7.sep (Nat.le_refl _) (by omega)) ht2 (chk_lok h12) (H7.sep (by omega) (Nat.le_refl _))
    dsimp only at hR
    rw [hR] at hcd
    have E9 := (E7.tr (rdx e8)).tr (rdx e9)
    refine hcd.mono ?_ ?_
    · rintro w10 ⟨o1, out1, q10, g1, g2, g3⟩
      exact ⟨o1, out1, q10, g1, g2, (Mv.rd E9).tr g3⟩
    · rintro v w10 ⟨e, g1, g2, g3⟩
      exact ⟨e, g1, g2, (Mv.rd E9).er g3⟩
end
end Inf
end Go.Proofs.YtjkoafjnmkchdaaGreatDoor

/- Inflate: the program's block and All. Conditions: sizes, the laid variables. -/
namespace Go.Proofs.YtjkoafjnmkchdaaGreatDoor
namespace Inf
open Sh Bit
set_option linter.unusedVariables false
set_option linter.unusedSimpArgs false
set_option maxRecDepth 4000
set_option maxHeartbeats 2000000
def blkF (s : ByteArray) (most : Nat) (out : List UInt8) (p : Nat) : Except Int (Int × List UInt8 × Nat) := match num s p 1 with
  | .error e => .error e
  | .ok (last, p1) => match num s p1 2 with
    | .error e => .error e
    | .ok (kind, p2) => match block s most kind out p2 with
      | .error e => .error e
      | .ok (o, q) => .ok (last, o, q)
theorem blkF_ok {s : ByteArray} {most p q : Nat} {out o : List UInt8} {last : Int} (hm : out.length ≤ most) (h : blkF s most out p = .ok (last, o, q)) : p < q ∧ q ≤ 8 * s.size ∧ o.length ≤ most := by
  unfold blkF at h
  split at h
  · cases h
  · rename_i l p1 h1
    obtain ⟨a1, a2, a3, a4⟩ := num_bd h1
    split at h
    · cases h
    · rename_i k p2 h2
      obtain ⟨b1, b2, b3, b4⟩ := num_bd h2
      split at h
      · cases h
      · rename_i o2 q2 h3
        cases h
        obtain ⟨c1, c2, c3⟩ := block_ok b4 hm h3
        exact ⟨by omega, c2, c3⟩
theorem allF_blk (s : ByteArray) (most k : Nat) (out : List UInt8) (p : Nat) : allF s most (k + 1) out p = match blkF s most out p with
    | .error e => .error e
    | .ok (last, o, q) => if last = 1 then .ok (o, (q + 7) / 8) else allF s most k o q := by
  conv => lhs; unfold allF
  unfold blkF
  cases num s p 1 with
  | error e => rfl
  | ok x =>
    obtain ⟨last, p1⟩ := x
    dsimp only
    cases num s p1 2 with
    | error e => rfl
    | ok y =>
      obtain ⟨kind, p2⟩ := y
      dsimp only
      cases block s most kind out p2 with
      | error e => rfl
      | ok z => rfl
attribute [local irreducible] Ld St Nw Nn Lt LdS
section
variable {w : World} {fb rb N : Nat} {o : Slc} {s : ByteArray} {out : List UInt8} {p most : Nat}
theorem c_block (h : FS w fb rb o s out p most) (hs : s.size ≤ 1000000) (hL : Laid N w) (hN : Low N fb rb o) : C29 (some (⟨fb, 0, none⟩ : Addr)) w
    (fun b w1 => ∃ last o1 out1 q, blkF s most out p = .ok (last, out1, q) ∧ b = (last == 1) ∧ FS w1 fb rb o1 s out1 q most ∧ Mv fb rb w w1 o o1) (ErR fb rb w o (blkF s most out p)) := by
  refine T29 _ _ _ _ ?_
  unfold S29
  generalize hR : blkF s most out p = R0
  unfold blkF at hR
  refine (c_bits (n := 1) (by omega) h hs).mono ?_ ?_
  rotate_left
  · rintro v w1 ⟨hn, rfl, e1⟩
    rw [hn] at hR
    exact ⟨4, hR.symm, rfl, (Mv.rd e1).ext⟩
  rintro last w1 ⟨p1, hn1, H1, e1⟩
  rw [hn1] at hR
  dsimp only at hR
  refine (c_bits (n := 2) (by omega) H1 hs).mono ?_ ?_
  rotate_left
  · rintro v w2 ⟨hn, rfl, e2⟩
    rw [hn] at hR
    exact ⟨4, hR.symm, rfl, (Mv.rd (e1.tr e2)).ext⟩
  rintro kind w2 ⟨p2, hn2, H2, e2⟩
  rw [hn2] at hR
  dsimp only at hR
  obtain ⟨a0, a1, a2, a3⟩ := num_bd hn2
  have h4 : (2 : Int) ^ 2 = 4 := by decide
  have E2 := e1.tr e2
  have m2 : Mv fb rb w w2 o o := .rd E2
  have hL2 := hL.mv hN m2.ext
  have ok : ∀ {r : Except Int (List UInt8 × Nat)} {w3 : World}, block s most kind out p2 = r → OkR fb rb w2 o s most r w3 → ∃ l o1 out1 q, R0 = .ok (l, out1, q) ∧ (last == 1) = (l == 1) ∧ FS w3 fb rb o1 s out1 q most ∧ Mv fb rb w w3 o o1 := fun hb ⟨o1, out1, q, g1, g2, g3⟩ => by
    rw [hb, g1] at hR
    exact ⟨last, o1, out1, q, hR.symm, rfl, g2, m2.tr g3⟩
  have er : ∀ {r : Except Int (List UInt8 × Nat)} {v : Value} {w3 : World}, block s most kind out p2 = r → ErR fb rb w2 o r v w3 → ErR fb rb w o R0 v w3 := fun hb ⟨e, g1, g2, g3⟩ => by
    rw [hb, g1] at hR
    exact ⟨e, hR.symm, g2, m2.er g3⟩
  refine Br.eq (fun q0 => ?_) fun q0 => Br.eq (fun q1 => ?_) fun q1 => Br.eq (fun q2 => ?_) fun q2 => ?_
  · have hb : block s most kind out p2 = stored s p2 out most := by unfold block; rw [if_neg (by omega), if_pos q0]
    exact (c_stored H2 hs).mono (fun w3 g => ok hb g) fun v w3 g => er hb g
  · have hb : block s most kind out p2 = signsF s fixL fixD most (8 * s.size + 1) out p2 := by unfold block; rw [if_neg (by omega), if_neg q0, if_neg (by omega)]
    exact (c_fixed H2 hs).mono (fun w3 g => ok hb g) fun v w3 g => er hb g
  · have hb : block s most kind out p2 = dynR s most out p2 := by unfold block; rw [if_neg (by omega), if_neg q0, if_pos q2]; rfl
    exact (c_dynamic H2 hs hL2 hN).mono (fun w3 g => ok hb g) fun v w3 g => er hb g
  · have hb : block s most kind out p2 = .error 3 := by unfold block; rw [if_pos (by omega)]
    refine (c_need false 3 w2).mono (fun w3 g => absurd g.1 (by decide)) ?_
    rintro v w3 ⟨rfl, _, rfl⟩
    exact er hb ⟨3, rfl, rfl, Ext.refl _ _⟩
theorem c_d26 {w0 w : World} {b1 b2 b3 : Nat} {t1 t2 t3 : TypeId} {v1 v2 v3 : Value} (H : Hn w0 w [(b1, [v1], t1), (b2, [v2], t2), (b3, [v3], t3)]) (e : Int) :
    CD26 (⟨b1, 0, none⟩ : Addr) (⟨b2, 0, none⟩ : Addr) (⟨b3, 0, none⟩ : Addr) (some (gup e)) w fun w1 => Hn w0 w1 [(b1, [.string ⟨#[]⟩], t1), (b2, [.int .i64 0], t2), (b3, [.int .i64 e], t3)] := by
  refine T26_T51 _ _ _ _ _ _ ?_
  unfold S26_T51
  refine H.nw fun w2 H => ?_
  simp only [List.cons_append, List.nil_append] at H
  iterate 1 (refine H.st 3 rfl (by simp) fun _ H => ?_; simp only [List.nil_append, List.cons_append, List.set_cons_zero, List.set_cons_succ, Nat.zero_add] at H)
  have hne : ∀ b v t i, i < 3 → ([(b1, [v1], t1), (b2, [v2], t2), (b3, [v3], t3), (w.heap.size, [.int .i64 e], 51)] : List (Nat × List Value × TypeId))[i]? = some (b, v, t) → b ≠ w.heap.size := fun b v t i hi hg e => by
    have hn := H.h.nodup
    have := nodup_get hn (i := i) (j := 3) (x := w.heap.size) (by
      rw [arr_fst, List.getElem?_map, hg, Option.map_some, e]) rfl
    omega
  have n1 := hne b1 _ _ 0 (by omega) rfl
  have n2 := hne b2 _ _ 1 (by omega) rfl
  refine ⟨fun w' => Blk w' w.heap.size #[.int .i64 e] 51, (H.get 3 rfl).drew, LdS.of (fun w' h => h) (o := 0) (x := e) rfl ?_⟩
  have H := H.drew
  refine H.st' 0 rfl (by simp) fun w5 H he5 => ?_
  simp only [List.set_cons_zero, List.set_cons_succ] at H
  refine ⟨H.get 3 rfl, ?_⟩
  refine H.st' 1 rfl (by simp) fun w6 H he6 => ?_
  simp only [List.set_cons_zero, List.set_cons_succ] at H
  refine ⟨H.get 3 rfl, ?_⟩
  iterate 1 (refine H.st 2 rfl (by simp) fun _ H => ?_; simp only [List.nil_append, List.cons_append, List.set_cons_zero, List.set_cons_succ, Nat.zero_add] at H)
  exact H.left (L := [_, _, _]) (M := [_])
theorem c_All (hs : s.size ≤ 1000000) (hL : Laid N w) (m : Int) : C14 s m w fun d n e w1 => (d, n, e) = allR s m ∧ Ext (fun _ => False) w w1 := by
  refine T14 _ _ _ _ ?_
  unfold S14
  have hLL := hL
  obtain ⟨hN2, hNw, _⟩ := hL
  refine (Hn.start w).nw fun w2 H => H.nw fun w3 H => H.nw fun w4 H => ?_
  simp only [List.cons_append, List.nil_append] at H
  have bad : ∀ {w5 : World} {v1 v2 v3 : Value} {e : Int}, Hn w w5 [(w.heap.size, [v1], 9), (w2.heap.size, [v2], 3), (w3.heap.size, [v3], 23)] → (⟨#[]⟩, 0, e) = allR s m → S14P w w2 w3 (fun d n e w1 => (d, n, e) = allR s m ∧ Ext (fun _ => False) w w1) (gup e) w5 := fun {w5 v1 v2 v3 e} H hn => by
    unfold S14P
    refine (c_d26 H e).mono fun w6 H => ?_
    refine H.ld 0 rfl rfl (H.ld 1 rfl rfl (H.ld 2 rfl rfl ⟨hn, H.ext⟩))
  refine (c_need _ 1 _).mono ?_ ?_
  rotate_left
  · rintro v w4 ⟨rfl, h1, rfl⟩
    have h1 := of_decide_eq_false h1
    refine bad H ?_
    unfold allR
    rw [if_pos (by omega)]
  rintro w4 ⟨h1, rfl⟩
  have h1 := of_decide_eq_true h1
  have z1 := H.size
  have z4 : w.heap.size < w4.heap.size ∧ w2.heap.size < w4.heap.size ∧ w3.heap.size < w4.heap.size := ⟨H.lt 0 rfl, H.lt 1 rfl, H.lt 2 rfl⟩
  refine (c_from w4 s).mono ?_
  rintro r w5 ⟨rfl, hr5, e5⟩
  have H := H.keep e5
  have zz : w.heap.size < w5.heap.size ∧ w2.heap.size < w5.heap.size ∧ w3.heap.size < w5.heap.size := ⟨H.lt 0 rfl, H.lt 1 rfl, H.lt 2 rfl⟩
  have zrb := Blk.lt hr5
  have ge1 := H.ge 1 rfl
  have ge2 := H.ge 2 rfl
  have hw5 := H.size
  refine H.nw' fun w6 H6 e6 => ?_
  simp only [List.cons_append, List.nil_append] at H6
  have z6 := H6.lt 3 rfl
  have hmost : (if 1048576 < m then (1048576 : Int) else m) = (((min m 1048576).toNat : Nat) : Int) := by
    split <;> omega
  have hmb : (min m 1048576).toNat ≤ 1048576 := by omega
  have hall : allR s m = match allF s (min m 1048576).toNat (8 * s.size + 1) [] 0 with
      | .error e => (⟨#[]⟩, 0, e)
      | .ok (o, n) => (⟨o.toArray⟩, (n : Int), 0) := by
    unfold allR
    rw [if_neg (by omega)]
    cases allF s (min m 1048576).toNat (8 * s.size + 1) [] 0 <;> rfl
  generalize (min m 1048576).toNat = mm at *
  have nown : ∀ j, ¬ (⟨none, 0, 0⟩ : Slc).own j := fun j hj => by obtain ⟨a, ha, _⟩ := hj; cases ha
  have F6 : FS w6 w5.heap.size w4.heap.size ⟨none, 0, 0⟩ s [] 0 mm := by
    refine ⟨?_, ⟨Nat.zero_le _, 0, .inl rfl, e6.blk hr5 fun h => h⟩, BRow.nil _, by omega, nown _, nown _, Nat.zero_le _, hmb⟩
    have := H6.get 3 rfl
    rw [hmost] at this
    exact this
  have HH := H6.left (L := [_, _, _]) (M := [_])
  have hL6 : Laid N w6 := by
    refine Laid.keep (w := w) (F := fun _ => False) ?_ H6.ext fun j h => h.elim
    exact hLL
  have hN6 : Low N w5.heap.size w4.heap.size ⟨none, 0, 0⟩ := ⟨by omega, by omega, fun j hj => absurd hj (nown j)⟩
  generalize hRR : allF s mm (8 * s.size + 1) [] 0 = R0 at hall
  refine ⟨fun n st w7 => ∃ out1 o1 q, FS w7 w5.heap.size w4.heap.size o1 s out1 q mm ∧ Mv w5.heap.size w4.heap.size w6 w7 ⟨none, 0, 0⟩ o1 ∧ 8 * s.size < q + n ∧ allF s mm n out1 q = R0, 8 * s.size + 1, ⟨[], ⟨none, 0, 0⟩, 0, F6, .refl, by omega, hRR⟩, ?_⟩
  rintro n st w7 ⟨out1, o1, q, F7, m7, hfu, hres⟩
  unfold S14L1
  have hq7 := F7.rd.1
  obtain ⟨n, rfl⟩ : ∃ n', n = n' + 1 := ⟨n - 1, by omega⟩
  rw [allF_blk] at hres
  have hXF : ∀ {w8 : World} {o8 : Slc}, Mv w5.heap.size w4.heap.size w6 w8 ⟨none, 0, 0⟩ o8 → Hn w w8 [(w.heap.size, [.string ⟨#[]⟩], 9), (w2.heap.size, [.int .i64 0], 3), (w3.heap.size, [.int .i64 0], 23)] := fun {w8 o8} mv => HH.other mv.ext fun j hj => by
    rcases hj with e | e | e
    · refine ⟨by omega, ?_⟩
      simp only [List.map_cons, List.map_nil, List.mem_cons, List.not_mem_nil, or_false]
      omega
    · refine ⟨by omega, ?_⟩
      simp only [List.map_cons, List.map_nil, List.mem_cons, List.not_mem_nil, or_false]
      omega
    · exact absurd e (nown j)
  have hNw6 := H6.size
  refine (c_block F7 hs (hL6.mv hN6 m7.ext) (hN6.mv m7 (by omega))).mono ?_ ?_
  rotate_left
  · rintro v w8 ⟨e, hb, rfl, hx⟩
    rw [hb] at hres
    refine bad (hXF (m7.tr (.of hx))) ?_
    rw [hall, ← hres]
  rintro b w8 ⟨last, o2, out2, q2, hb, rfl, F8, m8⟩
  rw [hb] at hres
  dsimp only at hres
  obtain ⟨c1, c2, c3⟩ := blkF_ok F7.len hb
  have M8 := m7.tr m8
  by_cases hlast : last = 1
  · subst hlast
    rw [if_pos rfl] at hres
    refine Br.f rfl ?_
    have H := (hXF M8).drew
    have F8 := F8.keep (Ext.refl _ _).drew
    obtain ⟨hp8, way8, hw8, hrd8⟩ := F8.rd
    have hfin : (⟨out2.toArray⟩, (((q2 + 7) / 8 : Nat) : Int), 0) = allR s m := by rw [hall, ← hres]
    have hst := str_row F8.row
    refine ⟨fun w' => Blk w' w5.heap.size (fcells w4.heap.size o2 mm) 57, F8.blk, Nn.of ?_⟩
    simp only [add_lit, Nat.zero_add]
    refine LdS.of (fun w' h => h) (o := 1) (x := o2) rfl (Nn.of (LdS.of (fun w' h => h) (o := 0) (x := at0 w4.heap.size) rfl ⟨⟨_, _, hst, F8.blk, ?_⟩, ?_⟩))
    · refine (c_at hrd8 hp8 hs).mono ?_
      rintro x w9 ⟨rfl, rfl⟩
      refine ⟨F8.blk, ?_⟩
      iterate 1 (refine H.st 0 rfl (by simp) fun _ H => ?_; simp only [List.nil_append, List.cons_append, List.set_cons_zero, List.set_cons_succ, Nat.zero_add] at H)
      iterate 1 (refine H.st 1 rfl (by simp) fun _ H => ?_; simp only [List.nil_append, List.cons_append, List.set_cons_zero, List.set_cons_succ, Nat.zero_add] at H)
      iterate 1 (refine H.st 2 rfl (by simp) fun _ H => ?_; simp only [List.nil_append, List.cons_append, List.set_cons_zero, List.set_cons_succ, Nat.zero_add] at H)
      refine T26_nil _ _ _ _ _ ?_
      unfold S26_nil
      iterate 1 refine H.ld 0 rfl rfl ?_
      iterate 1 refine H.ld 1 rfl rfl ?_
      iterate 1 refine H.ld 2 rfl rfl ?_
      exact ⟨hfin, H.ext⟩
    · refine (c_at hrd8 hp8 hs).mono ?_
      rintro x w9 ⟨rfl, rfl⟩
      refine ⟨F8.blk, _, _, hst, F8.blk, ?_⟩
      iterate 1 (refine H.st 0 rfl (by simp) fun _ H => ?_; simp only [List.nil_append, List.cons_append, List.set_cons_zero, List.set_cons_succ, Nat.zero_add] at H)
      iterate 1 (refine H.st 1 rfl (by simp) fun _ H => ?_; simp only [List.nil_append, List.cons_append, List.set_cons_zero, List.set_cons_succ, Nat.zero_add] at H)
      iterate 1 (refine H.st 2 rfl (by simp) fun _ H => ?_; simp only [List.nil_append, List.cons_append, List.set_cons_zero, List.set_cons_succ, Nat.zero_add] at H)
      refine T26_nil _ _ _ _ _ ?_
      unfold S26_nil
      iterate 1 refine H.ld 0 rfl rfl ?_
      iterate 1 refine H.ld 1 rfl rfl ?_
      iterate 1 refine H.ld 2 rfl rfl ?_
      exact ⟨hfin, H.ext⟩
  · rw [if_neg hlast] at hres
    refine Br.t (by simp [hlast]) ?_
    exact ⟨n, by omega, out2, o2, q2, F8, M8, by omega, hres⟩
end
end Inf
end Go.Proofs.YtjkoafjnmkchdaaGreatDoor

/- Inflate: the reference's number, stored, copied, signs, Fixed. Conditions: sizes. -/
namespace Go.Proofs.YtjkoafjnmkchdaaGreatDoor
namespace Inf
open Sh Bit
set_option linter.unusedVariables false
set_option linter.unusedSimpArgs false
set_option maxRecDepth 4000
set_option maxHeartbeats 2000000
/-- What a step of the reference answers. -/
def OutE (r : Except Int (List UInt8 × Nat)) (w w1 : World) (o x : Slc) (q e : Int) : Prop :=
  (∃ out1 q1, r = .ok (out1, q1) ∧ e = 0 ∧ q = ((q1 : Nat) : Int) ∧ BRow w1 x out1 ∧ Ext o.own w w1 ∧ ∀ j, x.own j → o.own j ∨ w.heap.size ≤ j) ∨
  ∃ y : Int, r = .error y ∧ e = y ∧ y ≠ 0 ∧ Ext o.own w w1
theorem no_own {w w1 : World} {o : Slc} (h : Ext (fun _ => False) w w1) : Ext o.own w w1 := h.mono fun _ _ e => e.elim
theorem OutE.pre {r : Except Int (List UInt8 × Nat)} {w w1 w2 : World} {o x : Slc} {q e : Int} (h : OutE r w1 w2 o x q e) (he : Ext (fun _ => False) w w1) : OutE r w w2 o x q e := by
  have := he.size
  rcases h with ⟨a, b, h1, h2, h3, h4, h5, h6⟩ | ⟨y, h1, h2, h3, h4⟩
  · exact .inl ⟨a, b, h1, h2, h3, h4, (no_own he).tr h5, fun j hj => by rcases h6 j hj with e | e; exact .inl e; exact .inr (by omega)⟩
  · exact .inr ⟨y, h1, h2, h3, (no_own he).tr h4⟩
attribute [local irreducible] Ld St Nw Nn Lt LdS
section
variable {w : World} {o : Slc} {s : ByteArray} {out : List UInt8} {p most : Nat}
theorem r_number {n : Nat} (hn : n ≤ 24) (hs : s.size ≤ 1000000) (hp : p ≤ 8 * s.size) (w : World) : C31 s (p : Int) (n : Int) w fun v q e w1 => ((∃ q1 : Nat, num s p n = .ok (v, q1) ∧ q = (q1 : Int) ∧ e = 0) ∨ (num s p n = .error 4 ∧ e = 4)) ∧ Ext (fun _ => False) w w1 := by
  refine T31 _ _ _ _ _ ?_
  unfold S31
  refine ⟨fun k st w1 => ∃ i : Nat, st = (tk s 1 p i, (i : Int)) ∧ i ≤ n ∧ k = n - i ∧ p + i ≤ 8 * s.size ∧ Ext (fun _ => False) w w1, n, ⟨0, rfl, by omega, rfl, by omega, Ext.refl _ _⟩, ?_⟩
  rintro k st w1 ⟨i, rfl, hi, rfl, hpi, he⟩
  unfold S31L1
  dsimp only
  refine Br.dec (fun q => ?_) fun q => ?_
  · rw [i64_id (n := (p : Int) + (i : Int)) (by omega), show (p : Int) + (i : Int) = ((p + i : Nat) : Int) by omega]
    refine (r_bit (p := p + i) hs (by omega) w1).mono ?_
    rintro r w2 ⟨hr, e2⟩
    have E := he.tr e2
    by_cases hend : 8 * s.size ≤ p + i
    · rw [if_pos hend] at hr
      subst hr
      refine Br.t rfl ⟨.inr ⟨?_, rfl⟩, E⟩
      unfold num
      rw [if_neg (by omega)]
    · rw [if_neg hend] at hr
      subst hr
      have hb := bt_bd s 1 (p + i)
      have ht := tk_bd s 1 p i
      have ht1 := tk_bd s 1 p (i + 1)
      have hp24 := two_pow_24 (show i ≤ 24 by omega)
      have hp25 := two_pow_24 (show i + 1 ≤ 24 by omega)
      have e1 : tk s 1 p (i + 1) = tk s 1 p i + bt s 1 (p + i) * 2 ^ i := by
        show (if (1 : Int) = 1 then _ else _) = _
        rw [if_pos rfl]
      refine Br.dec (fun q2 => by omega) fun q2 => ⟨by rw [u64_id (by omega)]; omega, Lt.of ?_⟩
      rw [u64_id (n := (i : Int)) (by omega), Int.toNat_natCast, show min i 64 = i by omega]
      generalize bt s 1 (p + i) * 2 ^ i = z at *
      rw [i64_id (n := z) (by omega), i64_id (n := (i : Int) + 1) (by omega), i64_id (by omega), ← e1]
      exact ⟨n - (i + 1), by omega, i + 1, rfl, by omega, rfl, by omega, E⟩
  · have : i = n := by omega
    subst this
    rw [i64_id (by omega)]
    refine ⟨.inl ⟨p + i, ?_, rfl, rfl⟩, he⟩
    unfold num
    rw [if_pos hpi]
theorem r_stored (h : BRow w o out) (hm : most ≤ 1048576) (hl : out.length ≤ most) (hs : s.size ≤ 1000000) (hp : p ≤ 8 * s.size) : C47 s (p : Int) o (most : Int) w fun x q e w1 => OutE (stored s p out most) w w1 o x q e := by
  refine T47 _ _ _ _ _ _ ?_
  unfold S47
  generalize hR : stored s p out most = R0
  unfold stored at hR
  have h65 : (2 : Int) ^ 16 = 65536 := by decide
  rw [i64_id (n := (p : Int) + 7) (by omega), tdiv_id (by omega), i64_id (n := ((p : Int) + 7) / 8) (by omega), i64_id (by omega), show ((p : Int) + 7) / 8 * 8 = (((p + 7) / 8 * 8 : Nat) : Int) by omega]
  refine (r_number (n := 16) (by omega) hs (by omega) w).mono ?_
  rintro v q e w1 ⟨hn, e1⟩
  rcases hn with ⟨q1, hn, rfl, rfl⟩ | ⟨hn, rfl⟩
  · refine Br.f rfl ?_
    rw [hn] at hR
    dsimp only at hR
    obtain ⟨a0, a1, rfl, a3⟩ := num_bd hn
    refine (r_number (n := 16) (by omega) hs (by omega) w1).mono ?_
    rintro m q e w2 ⟨hn2, e2⟩
    have E2 := e1.tr e2
    rcases hn2 with ⟨q2, hn2, rfl, rfl⟩ | ⟨hn2, rfl⟩
    · refine Br.f rfl ?_
      rw [hn2] at hR
      dsimp only at hR
      obtain ⟨b0, b1, rfl, b3⟩ := num_bd hn2
      rw [i64_id (n := 65535 - v) (by omega)]
      refine Br.ne (fun h3 => ?_) fun h3 => ?_
      · rw [if_pos h3] at hR
        exact .inr ⟨3, hR.symm, rfl, by decide, no_own E2⟩
      rw [if_neg (fun hh => hh h3)] at hR
      obtain ⟨z, rfl⟩ := Int.eq_ofNat_of_zero_le a0
      simp only [Int.toNat_natCast] at hR
      rw [h.len, i64_id (n := (most : Int) - ((out.length : Nat) : Int)) (by omega)]
      refine Br.dec (fun h5 => ?_) fun h5 => Lt.of ?_
      · rw [if_pos (by omega)] at hR
        exact .inr ⟨5, hR.symm, rfl, by decide, no_own E2⟩
      rw [if_neg (by omega)] at hR
      rw [tdiv_id (by omega), i64_id (n := (((p + 7) / 8 * 8 + 16 + 16 : Nat) : Int) / 8) (by omega), i64_id (n := ((s.size : Nat) : Int) - (((p + 7) / 8 * 8 + 16 + 16 : Nat) : Int) / 8) (by omega)]
      refine Br.dec (fun h6 => ?_) fun h6 => ?_
      · rw [if_pos (by omega)] at hR
        exact .inr ⟨4, hR.symm, rfl, by decide, no_own E2⟩
      rw [if_neg (by omega)] at hR
      rw [i64_id (n := (((p + 7) / 8 * 8 + 16 + 16 : Nat) : Int) / 8 + (z : Int)) (by omega)]
      refine ⟨by omega, by omega, by omega, by omega, Lt.of ?_⟩
      rw [show ((((p + 7) / 8 * 8 + 16 + 16 : Nat) : Int) / 8).toNat = ((p + 7) / 8 * 8 + 16 + 16) / 8 by omega, show ((((p + 7) / 8 * 8 + 16 + 16 : Nat) : Int) / 8 + (z : Int)).toNat = ((p + 7) / 8 * 8 + 16 + 16) / 8 + z by omega]
      have hsz : (s.extract (((p + 7) / 8 * 8 + 16 + 16) / 8) (((p + 7) / 8 * 8 + 16 + 16) / 8 + z)).size = z := by rw [ByteArray.size_extract]; omega
      have hrow := h.keep E2 fun _ _ h => h
      obtain ⟨o1, w7, hrun, hrow7, hext, hown⟩ := app_str (ty := 29) hrow (s.extract (((p + 7) / 8 * 8 + 16 + 16) / 8) (((p + 7) / 8 * 8 + 16 + 16) / 8 + z)) (by rw [hsz]; omega)
      refine ⟨o1, w7, hrun, .inl ⟨_, _, hR.symm, rfl, ?_, hrow7, (no_own E2).tr hext, fun j hj => ?_⟩⟩
      · rw [i64_id (n := 8 * (z : Int)) (by omega), i64_id (by omega)]; omega
      · have := E2.size
        rcases hown j hj with e | e
        · exact .inl e
        · exact .inr (by omega)
    · rw [hn2] at hR
      exact Br.t rfl (.inr ⟨4, hR.symm, rfl, by decide, no_own E2⟩)
  · rw [hn] at hR
    exact Br.t rfl (.inr ⟨4, hR.symm, rfl, by decide, no_own e1⟩)
/-- A list of lengths that the output does not touch. -/
def Dis (w : World) (a o : Slc) : Prop := ∀ j, a.own j → ¬ o.own j ∧ j < w.heap.size
theorem Dis.mv {w w1 : World} {a o o1 : Slc} (h : Dis w a o) (he : Ext o.own w w1) (ho : ∀ j, o1.own j → o.own j ∨ w.heap.size ≤ j) : Dis w1 a o1 := fun j hj => by
  obtain ⟨h1, h2⟩ := h j hj
  have := he.size
  refine ⟨fun e => ?_, by omega⟩
  rcases ho j e with e | e
  · exact h1 e
  · omega
theorem r_copied {sg : Nat} {far : List Int} {fs : Slc} (hsg : 256 < sg) (hsg2 : sg ≤ 100000) (h : BRow w o out) (hm : most ≤ 1048576) (hl : out.length ≤ most) (hs : s.size ≤ 1000000) (hp : p ≤ 8 * s.size) (hf : IV w fs far) (hk : Lok far) :
    C84 s (p : Int) (sg : Int) fs o (most : Int) w fun x q e w1 => OutE (copied s far most sg out p) w w1 o x q e := by
  refine T84 _ _ _ _ _ _ _ _ ?_
  unfold S84
  generalize hR : copied s far most sg out p = R0
  unfold copied at hR
  refine Br.dec (fun h1 => ?_) fun h1 => ?_
  · rw [if_pos (by omega)] at hR
    exact .inr ⟨13, hR.symm, rfl, by decide, Ext.refl _ _⟩
  rw [if_neg (by omega)] at hR
  obtain ⟨k, rfl⟩ : ∃ k, sg = 257 + k := ⟨sg - 257, by omega⟩
  have hk28 : k ≤ 28 := by omega
  rw [show 257 + k - 257 = k by omega] at hR
  refine (r_longer hk28 w).mono ?_
  rintro r w ⟨rfl, rfl⟩
  obtain ⟨b1, b2, b3, b4, b5⟩ := base_bd (k := k) (by omega)
  refine (r_number (n := moreL k) (more24 (by omega)).1 hs hp w).mono ?_
  rintro x q e w1 ⟨hn, e1⟩
  rcases hn with ⟨q1, hn, rfl, rfl⟩ | ⟨hn, rfl⟩
  rotate_left
  · rw [hn] at hR
    exact Br.t rfl (.inr ⟨4, hR.symm, rfl, by decide, no_own e1⟩)
  refine Br.f rfl ?_
  rw [hn] at hR
  dsimp only at hR
  obtain ⟨x0, x1, rfl, x3⟩ := num_bd hn
  have hp30 : (2 : Int) ^ moreL k ≤ 2 ^ 6 := two_pow_le (more6 hk28)
  have h06 : (2 : Int) ^ 6 = 64 := by decide
  have h24 : (2 : Int) ^ 24 = 16777216 := by decide
  refine (r_Size _ x w1).mono ?_
  rintro r e w2 ⟨hr, e2⟩
  have hsize : sizeF ((257 + k : Nat) : Int) x = ((firstL k : Int) + x, 0) := by
    unfold sizeF
    rw [if_neg (by omega), show (((257 + k : Nat) : Int) - 257).toNat = k by omega, if_neg (by omega)]
  rw [hsize] at hr
  obtain ⟨rfl, rfl⟩ := Prod.mk.inj hr
  have E2 := e1.tr e2
  refine (r_sym (hf.keep E2) hk hs (by omega)).mono ?_
  rintro d q e w3 ⟨hd, e3⟩
  have E3 := E2.tr e3
  rcases hd with ⟨d, q3, hd, rfl, rfl, rfl⟩ | ⟨y, hd, rfl, hy⟩
  rotate_left
  · rw [hd] at hR
    exact Br.t (by simpa using hy) (.inr ⟨_, hR.symm, rfl, hy, no_own E3⟩)
  refine Br.f rfl ?_
  rw [hd] at hR
  dsimp only at hR
  obtain ⟨d1, d2, d3⟩ := sym_ok hd
  have hlen := hk.len
  refine Br.dec (fun h2 => ?_) fun h2 => ?_
  · rw [if_pos (by omega)] at hR
    exact .inr ⟨13, hR.symm, rfl, by decide, no_own E3⟩
  rw [if_neg (by omega)] at hR
  refine (r_farther (k := d) (by omega) w3).mono ?_
  rintro r w3 ⟨rfl, rfl⟩
  obtain ⟨c1, c2, c3, c4, c5⟩ := base_bd (k := d) (by omega)
  have cp := (base_pos (k := d) (by omega)).1
  refine (r_number (n := moreD d) (more24 (by omega)).2 hs d2 w3).mono ?_
  rintro y q e w4 ⟨hn4, e4⟩
  have E4 := E3.tr e4
  rcases hn4 with ⟨q4, hn4, rfl, rfl⟩ | ⟨hn4, rfl⟩
  rotate_left
  · rw [hn4] at hR
    exact Br.t rfl (.inr ⟨4, hR.symm, rfl, by decide, no_own E4⟩)
  refine Br.f rfl ?_
  rw [hn4] at hR
  dsimp only at hR
  obtain ⟨y0, y1, rfl, y3⟩ := num_bd hn4
  have hp31 : (2 : Int) ^ moreD d ≤ 2 ^ 24 := two_pow_le (more24 (k := d) (by omega)).2
  refine (r_Far _ y w4).mono ?_
  rintro r e w5 ⟨hr, e5⟩
  have E5 := E4.tr e5
  have hfar : farF (d : Int) y = ((baseD d : Int) + y, 0) := by
    unfold farF
    rw [if_neg (by omega), Int.toNat_natCast, if_neg (by omega)]
  rw [hfar] at hr
  obtain ⟨rfl, rfl⟩ := Prod.mk.inj hr
  obtain ⟨x, rfl⟩ := Int.eq_ofNat_of_zero_le x0
  obtain ⟨y, rfl⟩ := Int.eq_ofNat_of_zero_le y0
  simp only [Int.toNat_natCast] at hR
  rw [h.len, i64_id (n := (most : Int) - ((out.length : Nat) : Int)) (by omega)]
  refine Br.dec (fun h3 => ?_) fun h3 => Br.dec (fun h5 => ?_) fun h5 => ?_
  · rw [if_pos (by omega)] at hR
    exact .inr ⟨14, hR.symm, rfl, by decide, no_own E5⟩
  · rw [if_neg (by omega), if_pos (by omega)] at hR
    exact .inr ⟨5, hR.symm, rfl, by decide, no_own E5⟩
  rw [if_neg (by omega), if_neg (by omega)] at hR
  have z5 := E5.size
  refine ⟨fun n st w9 => ∃ (j : Nat) (o9 : Slc), st = (o9, (j : Int)) ∧ j ≤ firstL k + x ∧ n = firstL k + x - j ∧ BRow w9 o9 (copy out (baseD d + y) j) ∧ Ext o.own w w9 ∧ ∀ i, o9.own i → o.own i ∨ w.heap.size ≤ i, firstL k + x, ⟨0, o, rfl, by omega, rfl, h.keep E5 (fun _ _ h => h), no_own E5, fun i hi => .inl hi⟩, ?_⟩
  rintro n st w9 ⟨j, o9, rfl, hj, rfl, H9, m9, own9⟩
  unfold S84L1
  dsimp only
  have hcl := copy_len out (baseD d + y) j
  rw [H9.len, hcl]
  refine Br.dec (fun q => ?_) fun q => ?_
  · rw [i64_id (n := ((out.length + j : Nat) : Int) - ((baseD d : Int) + (y : Int))) (by omega), show ((out.length + j : Nat) : Int) - ((baseD d : Int) + (y : Int)) = ((out.length + j - (baseD d + y) : Nat) : Int) by omega]
    have hlt : out.length + j - (baseD d + y) < (copy out (baseD d + y) j).length := by omega
    obtain ⟨g, hg, hc⟩ := H9.get (getD_some hlt)
    rw [hg]
    refine ⟨by omega, by omega, Nn.of ?_⟩
    simp only [add_lit, Int.toNat_natCast, Nat.mul_one, Nat.zero_add]
    refine Ld.mk (x := (((copy out (baseD d + y) j).getD (out.length + j - (baseD d + y)) 0).toNat : Int)) hc (Nw.of ?_)
    have H10 := H9.keep ((Ext.refl (fun _ => False) w9).alloc (.cells #[.int .u8 (((copy out (baseD d + y) j).getD (out.length + j - (baseD d + y)) 0).toNat : Int)] 5)) fun _ _ h => h
    obtain ⟨o1, w11, hrun, hrow, hext, hown⟩ := app_one (ty := 29) (b := (copy out (baseD d + y) j).getD (out.length + j - (baseD d + y)) 0) H10 (Blk.new w9 _ _) (by omega)
    have z9 := m9.size
    have z10 : w9.heap.size ≤ (w9.alloc (.cells #[.int .u8 (((copy out (baseD d + y) j).getD (out.length + j - (baseD d + y)) 0).toNat : Int)] 5)).heap.size := ((Ext.refl (fun _ => False) w9).alloc _).size
    refine ⟨o1, w11, hrun, firstL k + x - (j + 1), by omega, j + 1, o1, by rw [i64_id (by omega)]; rfl, by omega, rfl, ?_, ?_, fun i hi => ?_⟩
    · have e : copy out (baseD d + y) (j + 1) = copy out (baseD d + y) j ++ [(copy out (baseD d + y) j).getD (out.length + j - (baseD d + y)) 0] := by
        show copy out (baseD d + y) j ++ [(copy out (baseD d + y) j).getD ((copy out (baseD d + y) j).length - (baseD d + y)) 0] = _
        rw [hcl]
      rw [e]
      exact hrow
    · refine (m9.tr (no_own ((Ext.refl _ w9).alloc _))).trans hext (fun _ h => h) fun i hi e => ?_
      rcases own9 i e with e | e
      · exact e
      · omega
    · rcases hown i hi with e | e
      · exact own9 i e
      · exact .inr (by omega)
  · have : j = firstL k + x := by omega
    subst this
    exact .inl ⟨_, _, hR.symm, rfl, rfl, H9, m9, own9⟩
theorem r_signs {near far : List Int} {ns fs : Slc} (h : BRow w o out) (hm : most ≤ 1048576) (hl : out.length ≤ most) (hs : s.size ≤ 1000000) (hp : p ≤ 8 * s.size) (hn : IV w ns near) (hkn : Lok near) (hdn : Dis w ns o) (hf : IV w fs far) (hkf : Lok far) (hdf : Dis w fs o) :
    C51 s (p : Int) ns fs o (most : Int) w fun x q e w1 => OutE (signsF s near far most (8 * s.size + 1) out p) w w1 o x q e := by
  refine T51 _ _ _ _ _ _ _ _ ?_
  unfold S51
  have hnl := hkn.len
  generalize hR : signsF s near far most (8 * s.size + 1) out p = R0
  refine ⟨fun n st w1 => ∃ (o1 : Slc) (out1 : List UInt8) (q : Nat), st = ((q : Int), o1) ∧ BRow w1 o1 out1 ∧ out1.length ≤ most ∧ q ≤ 8 * s.size ∧ Ext o.own w w1 ∧ (∀ i, o1.own i → o.own i ∨ w.heap.size ≤ i) ∧ 8 * s.size < q + n ∧ signsF s near far most n out1 q = R0, 8 * s.size + 1, ⟨o, out, p, rfl, h, hl, hp, Ext.refl _ _, fun i hi => .inl hi, by omega, hR⟩, ?_⟩
  rintro n st w1 ⟨o1, out1, q, rfl, H1, hl1, hq, e1, own1, hfu, hres⟩
  unfold S51L1
  dsimp only
  obtain ⟨n, rfl⟩ : ∃ n', n = n' + 1 := ⟨n - 1, by omega⟩
  unfold signsF at hres
  have z1 := e1.size
  refine (r_sym (hn.keepF e1 fun j hj => (hdn j hj).1) hkn hs hq).mono ?_
  rintro g q e w2 ⟨hg, e2⟩
  have E2 := e1.tr (no_own e2)
  have z2 := e2.size
  rcases hg with ⟨g, q2, hg, rfl, rfl, rfl⟩ | ⟨y, hg, rfl, hy⟩
  rotate_left
  · rw [hg] at hres
    exact Br.t (by simpa using hy) (.inr ⟨_, hres.symm, rfl, hy, E2⟩)
  refine Br.f rfl ?_
  rw [hg] at hres
  dsimp only at hres
  obtain ⟨g1, g2, g3⟩ := sym_ok hg
  have H2 := H1.keep e2 fun _ _ h => h
  refine Br.eq (fun q4 => ?_) fun q4 => Br.dec (fun q5 => ?_) fun q5 => ?_
  · rw [if_pos (by omega)] at hres
    exact .inl ⟨_, _, hres.symm, rfl, rfl, H2, E2, fun j hj => own1 j hj⟩
  · rw [if_neg (by omega), if_pos (by omega)] at hres
    refine (r_copied (by omega) (by omega) H2 hm hl1 hs g2 ((hf.keepF e1 fun j hj => (hdf j hj).1).keep e2) hkf).mono ?_
    rintro x q e w3 hx
    rcases hx with ⟨out3, q3, hc, rfl, rfl, H3, e3, own3⟩ | ⟨y, hc, rfl, hy, e3⟩
    · refine Br.f rfl ?_
      rw [hc] at hres
      dsimp only at hres
      obtain ⟨c1, c2, c3⟩ := copied_ok hc
      refine ⟨n, by omega, x, out3, q3, rfl, H3, c3, c2, E2.trans e3 (fun _ h => h) fun i hi e => ?_, fun i hi => ?_, by omega, hres⟩
      · rcases own1 i e with e | e
        · exact e
        · omega
      · rcases own3 i hi with e | e
        · exact own1 i e
        · exact .inr (by omega)
    · rw [hc] at hres
      refine Br.t (by simpa using hy) (.inr ⟨_, hres.symm, rfl, hy, E2.trans e3 (fun _ h => h) fun i hi e => ?_⟩)
      rcases own1 i e with e | e
      · exact e
      · omega
  · rw [if_neg (by omega), if_neg (by omega)] at hres
    rw [H2.len]
    refine Br.dec (fun q6 => ?_) fun q6 => Nw.of ?_
    · rw [if_pos (by omega)] at hres
      exact .inr ⟨5, hres.symm, rfl, by decide, E2⟩
    rw [if_neg (by omega)] at hres
    have hb : IntKind.u8.wrap (g : Int) = ((UInt8.ofNat g).toNat : Int) := by
      rw [u8_id (by omega), UInt8.toNat_ofNat', Nat.mod_eq_of_lt (by omega)]
    rw [hb]
    have H4 := H2.keep ((Ext.refl (fun _ => False) w2).alloc (.cells #[.int .u8 ((UInt8.ofNat g).toNat : Int)] 5)) fun _ _ h => h
    obtain ⟨o5, w5, hrun, hrow, hext, hown⟩ := app_one (ty := 29) (b := UInt8.ofNat g) H4 (Blk.new w2 _ _) (by omega)
    have z10 : w2.heap.size ≤ (w2.alloc (.cells #[.int .u8 ((UInt8.ofNat g).toNat : Int)] 5)).heap.size := ((Ext.refl (fun _ => False) w2).alloc _).size
    refine ⟨o5, w5, hrun, n, by omega, o5, _, q2, rfl, hrow, by rw [List.length_append]; simp; omega, g2, (E2.tr (no_own ((Ext.refl _ w2).alloc _))).trans hext (fun _ h => h) fun i hi e => ?_, fun i hi => ?_, by omega, hres⟩
    · rcases own1 i e with e | e
      · exact e
      · omega
    · rcases hown i hi with e | e
      · exact own1 i e
      · exact .inr (by omega)
end
end Inf
end Go.Proofs.YtjkoafjnmkchdaaGreatDoor

/- Inflate: the reference's Fixed, lengths, block, All. Conditions: sizes. -/
namespace Go.Proofs.YtjkoafjnmkchdaaGreatDoor
namespace Inf
open Sh Bit
set_option linter.unusedVariables false
set_option linter.unusedSimpArgs false
set_option maxRecDepth 4000
set_option maxHeartbeats 2000000
def fixV (i : Nat) : Int := if 256 ≤ i ∧ i < 280 then 7 else if 144 ≤ i ∧ i < 256 then 9 else 8
theorem fixV_all : (List.range 288).map fixV = fixL := by decide +kernel
theorem fixV_step (i : Nat) : (List.range (i + 1)).map fixV = (List.range i).map fixV ++ [fixV i] := by rw [List.range_succ, List.map_append]; rfl
attribute [local irreducible] Ld St Nw Nn Lt LdS
section
variable {w : World} {o : Slc} {s : ByteArray} {out : List UInt8} {p most : Nat}
theorem app_int {w : World} {o : Slc} {l : List Int} {x : Int} (h : Row w o 3 1 (ints l)) (hl : l.length ≤ 100000) :
    ∃ o1 w1, RunV Tryz.prog (Builtin.append_ #[76, 76] 76 #[Slc.v o, Slc.v ⟨some ⟨w.heap.size, 0, none⟩, 1, 1⟩]) (w.alloc (.cells #[.int .i64 x] 3)) (Slc.v o1) w1 ∧ Row w1 o1 3 1 (ints (l ++ [x])) ∧ Ext o.own w w1 ∧ ∀ j, o1.own j → o.own j ∨ w.heap.size ≤ j := by
  have e1 : Ext (fun _ => False) w (w.alloc (.cells #[.int .i64 x] 3)) := (Ext.refl _ _).alloc _
  have hrl := h.1
  rw [ints_len] at hrl
  obtain ⟨o1, w1, h1, h2, h3, h4, h5⟩ := elI.app1 (ty := 76) (ys := [.int .i64 x]) (h.keep e1 fun _ _ h => h) (Blk.new w _ _) rfl (by intro v hv; rw [List.mem_singleton.1 hv]; rfl) (by omega) (by omega)
  refine ⟨o1, w1, h1, by rw [ints_app]; exact h2, (no_own e1).tr h4, fun j hj => ?_⟩
  have := e1.size
  rcases h5 j hj with e | e
  · exact .inl e
  · exact .inr (by omega)
theorem new_ext {w0 w w1 : World} {o : Slc} (h : Ext (fun _ => False) w0 w) (ho : ∀ j, o.own j → w0.heap.size ≤ j) (k : Ext o.own w w1) : Ext (fun _ => False) w0 w1 := h.trans k (fun _ h => h) fun i hi e => by have := ho i e; omega
theorem new_own {w0 w : World} {o o1 : Slc} (h : Ext (fun _ => False) w0 w) (ho : ∀ j, o.own j → w0.heap.size ≤ j) (k : ∀ j, o1.own j → o.own j ∨ w.heap.size ≤ j) : ∀ j, o1.own j → w0.heap.size ≤ j := fun j hj => by
  have := h.size
  rcases k j hj with e | e
  · exact ho j e
  · omega
theorem nil_own : ∀ (n j : Nat), (⟨none, 0, 0⟩ : Slc).own j → n ≤ j := fun n j hj => by obtain ⟨a, ha, _⟩ := hj; cases ha
theorem r_Fixed (w : World) : C48 w fun a b w1 => IV w1 a fixL ∧ IV w1 b fixD ∧ Ext (fun _ => False) w w1 ∧ (∀ j, a.own j → w.heap.size ≤ j ∧ j < w1.heap.size) ∧ ∀ j, b.own j → w.heap.size ≤ j ∧ j < w1.heap.size := by
  refine T48 _ _ ?_
  unfold S48
  refine ⟨fun n st w1 => ∃ (i : Nat) (o : Slc), st = (o, (i : Int)) ∧ i ≤ 288 ∧ n = 288 - i ∧ Row w1 o 3 1 (ints ((List.range i).map fixV)) ∧ (∀ j, o.own j → w.heap.size ≤ j) ∧ Ext (fun _ => False) w w1, 288, ⟨0, ⟨none, 0, 0⟩, rfl, by omega, rfl, Row.nil _ _ _, nil_own _, Ext.refl _ _⟩, ?_⟩
  rintro n st w1 ⟨i, o, rfl, hi, rfl, hrow, hown, he⟩
  unfold S48L2
  dsimp only
  refine Br.dec (fun q => ?_) fun q => ?_
  · have step : ∀ x : Int, x = fixV i → ∃ o1 w2, RunV Tryz.prog (Builtin.append_ #[76, 76] 76 #[Slc.v o, Slc.v ⟨some ⟨w1.heap.size, 0, none⟩, 1, 1⟩]) (w1.alloc (.cells #[.int .i64 x] 3)) (Slc.v o1) w2 ∧ ∃ n', n' < 288 - i ∧ ∃ (i' : Nat) (o' : Slc), (o1, IntKind.i64.wrap ((i : Int) + 1)) = (o', (i' : Int)) ∧ i' ≤ 288 ∧ n' = 288 - i' ∧ Row w2 o' 3 1 (ints ((List.range i').map fixV)) ∧ (∀ j, o'.own j → w.heap.size ≤ j) ∧ Ext (fun _ => False) w w2 := fun x hx => by
      obtain ⟨o1, w2, h1, h2, h3, h4⟩ := app_int (x := x) hrow (by simp; omega)
      refine ⟨o1, w2, h1, 288 - (i + 1), by omega, i + 1, o1, by rw [i64_id (by omega)]; rfl, by omega, rfl, ?_, new_own he hown h4, new_ext he hown h3⟩
      rw [fixV_step, ← hx]
      exact h2
    refine ⟨fun x w2 => w2 = w1 ∧ x = (if 144 ≤ i ∧ i < 256 then 9 else 8), ?_, ?_⟩
    case refine_2 =>
      refine Br.dec (fun q1 => Br.dec (fun q2 => ⟨rfl, by rw [if_pos (by omega)]⟩) fun q2 => ⟨rfl, by rw [if_neg (by omega)]⟩) fun q1 => ⟨rfl, by rw [if_neg (by omega)]⟩
    rintro x w3 ⟨rfl, rfl⟩
    unfold S48J1
    dsimp only
    refine Br.dec (fun q1 => Br.dec (fun q2 => Nw.of (step 7 ?_)) fun q2 => Nw.of (step _ ?_)) fun q1 => Nw.of (step _ ?_)
    · unfold fixV; rw [if_pos (by omega)]
    · unfold fixV; repeat' split
      all_goals omega
    · unfold fixV; repeat' split
      all_goals omega
  · have : i = 288 := by omega
    subst this
    rw [fixV_all] at hrow
    have hlt : ∀ j, o.own j → w.heap.size ≤ j ∧ j < w1.heap.size := fun j hj => ⟨hown j hj, hrow.own_lt hj⟩
    refine ⟨fun n st w2 => ∃ (i : Nat) (o2 : Slc), st = (o2, (i : Int)) ∧ i ≤ 32 ∧ n = 32 - i ∧ Row w2 o2 3 1 (ints (List.replicate i 5)) ∧ (∀ j, o2.own j → w1.heap.size ≤ j) ∧ Ext (fun _ => False) w1 w2, 32, ⟨0, ⟨none, 0, 0⟩, rfl, by omega, rfl, Row.nil _ _ _, nil_own _, Ext.refl _ _⟩, ?_⟩
    rintro n st w2 ⟨i, o2, rfl, hi2, rfl, hrow2, hown2, he2⟩
    unfold S48L1
    dsimp only
    refine Br.dec (fun q3 => Nw.of ?_) fun q3 => ?_
    · obtain ⟨o3, w3, h1, h2, h3, h4⟩ := app_int (x := 5) hrow2 (by simp; omega)
      refine ⟨o3, w3, h1, 32 - (i + 1), by omega, i + 1, o3, by rw [i64_id (by omega)]; rfl, by omega, rfl, ?_, new_own he2 hown2 h4, new_ext he2 hown2 h3⟩
      rw [List.replicate_succ']
      exact h2
    · have : i = 32 := by omega
      subst this
      have z := he.size
      have z2 := he2.size
      exact ⟨(IV.row hrow).keep he2, IV.row hrow2, he.tr he2, fun j hj => by have := hlt j hj; omega, fun j hj => by have := hown2 j hj; have := hrow2.own_lt hj; omega⟩
theorem r_all {lens : List Int} {ls : Slc} {many : Nat} (hv : IV w ls lens) (hk : Lok lens) (h19 : lens.length = 19) (hs : s.size ≤ 1000000) (hp : p ≤ 8 * s.size) (hm : many ≤ 1000) :
    C81 s (p : Int) ls (many : Int) w fun r q e w1 => Ext (fun _ => False) w w1 ∧ ((∃ l q1, lensF lens s many (many + 1) [] p = .ok (l, q1) ∧ e = 0 ∧ q = ((q1 : Nat) : Int) ∧ IV w1 r l ∧ r.len ≤ r.cap ∧ ∀ j, r.own j → w.heap.size ≤ j ∧ j < w1.heap.size) ∨ ∃ y : Int, lensF lens s many (many + 1) [] p = .error y ∧ e = y ∧ y ≠ 0) := by
  refine T81 _ _ _ _ _ _ ?_
  unfold S81
  generalize hR : lensF lens s many (many + 1) [] p = R0
  refine ⟨fun n st w2 => ∃ (l : List Int) (q : Nat) (o : Slc), st = ((q : Int), o) ∧ Row w2 o 3 1 (ints l) ∧ (∀ j, o.own j → w.heap.size ≤ j) ∧ Ext (fun _ => False) w w2 ∧ q ≤ 8 * s.size ∧ l.length ≤ many ∧ many < l.length + n ∧ lensF lens s many n l q = R0, many + 1, ⟨[], p, ⟨none, 0, 0⟩, rfl, Row.nil _ _ _, nil_own _, Ext.refl _ _, hp, Nat.zero_le _, by simp, hR⟩, ?_⟩
  rintro n st w2 ⟨l, q, o, rfl, hrow, hown, e2, hq, hlm, hfu, hres⟩
  unfold S81L2
  dsimp only
  have hsl : o.len = l.length := by have := hrow.1; rw [ints_len] at this; omega
  have hz2 := e2.size
  rw [hsl]
  obtain ⟨n, rfl⟩ : ∃ n', n = n' + 1 := ⟨n - 1, by omega⟩
  unfold lensF at hres
  refine Br.dec (fun q1 => ?_) fun q1 => ?_
  · rw [if_neg (by omega)] at hres
    refine (r_sym (hv.keep e2) hk hs hq).mono ?_
    rintro g q e w3 ⟨hg, e3⟩
    have E3 := e2.tr e3
    rcases hg with ⟨g, q3, hg, rfl, rfl, rfl⟩ | ⟨y, hg, rfl, hy⟩
    rotate_left
    · rw [hg] at hres
      exact Br.t (by simpa using hy) ⟨E3, .inr ⟨_, hres.symm, rfl, hy⟩⟩
    refine Br.f rfl ?_
    rw [hg] at hres
    dsimp only at hres
    obtain ⟨g1, g2, g3⟩ := sym_ok hg
    rw [h19] at g3
    have hrow3 := hrow.keep e3 fun _ _ h => h
    refine Br.dec (fun q4 => Nw.of ?_) fun q4 => ?_
    · rw [if_pos (by omega)] at hres
      obtain ⟨o1, w4, h1, h2, h3, h4⟩ := app_int (x := (g : Int)) hrow3 (by omega)
      exact ⟨o1, w4, h1, n, by omega, _, q3, o1, rfl, h2, new_own E3 hown h4, new_ext E3 hown h3, g2, by rw [List.length_append]; simp; omega, by rw [List.length_append]; simp; omega, hres⟩
    rw [if_neg (by omega)] at hres
    refine ⟨fun _ w4 => w4 = w3 ∧ ¬ (g = 16 ∧ l.length = 0), ?_, ?_⟩
    case refine_2 =>
      refine Br.eq (fun q5 => Br.eq (fun q6 => ?_) fun q6 => ⟨rfl, by omega⟩) fun q5 => ⟨rfl, by omega⟩
      rw [if_pos (by omega)] at hres
      exact ⟨E3, .inr ⟨3, hres.symm, rfl, by decide⟩⟩
    rintro _ w3 ⟨rfl, hne⟩
    rw [if_neg hne] at hres
    unfold S81J4
    dsimp only
    refine ⟨fun x w4 => w4 = w3 ∧ x = (if g = 16 then l.getD (l.length - 1) 0 else 0), ?_, ?_⟩
    case refine_2 =>
      refine Br.eq (fun q5 => ?_) fun q5 => ⟨rfl, by rw [if_neg (by omega)]⟩
      rw [hsl, i64_id (n := ((l.length : Nat) : Int) - 1) (by omega)]
      obtain ⟨a, ha, hc⟩ := (IV.row hrow3).get (i := l.length - 1) (by omega)
      rw [ha]
      refine ⟨by omega, by omega, Nn.of ?_⟩
      rw [show (((l.length : Nat) : Int) - 1).toNat = l.length - 1 by omega]
      exact Ld.mk hc ⟨rfl, by rw [if_pos (by omega)]⟩
    rintro what w3 ⟨rfl, hwhat⟩
    unfold S81J3
    refine ⟨fun x w4 => w4 = w3 ∧ x = (if g = 17 then 3 else 2), ?_, ?_⟩
    case refine_2 => exact Br.eq (fun q5 => ⟨rfl, by rw [if_pos (by omega)]⟩) fun q5 => ⟨rfl, by rw [if_neg (by omega)]⟩
    rintro x w3 ⟨rfl, rfl⟩
    unfold S81J2
    refine ⟨fun x w4 => w4 = w3 ∧ x = (((repB g : Nat) : Int), ((repL g : Nat) : Int)), ?_, ?_⟩
    case refine_2 =>
      refine Br.eq (fun q5 => ⟨rfl, ?_⟩) fun q5 => ⟨rfl, ?_⟩
      · have : g = 18 := by omega
        subst this; rfl
      · have : g = 16 ∨ g = 17 := by omega
        rcases this with rfl | rfl <;> rfl
    rintro x w3 ⟨rfl, rfl⟩
    unfold S81J1
    dsimp only
    have hB : repB g ≤ 7 ∧ 2 ≤ repB g := by unfold repB; split; omega; split <;> omega
    have hLb : repL g ≤ 11 ∧ 3 ≤ repL g := by unfold repL; split <;> omega
    refine (r_number (n := repB g) (by omega) hs g2 w3).mono ?_
    rintro v q e w4 ⟨hn, e4⟩
    have E4 := E3.tr e4
    rcases hn with ⟨q8, hn, rfl, rfl⟩ | ⟨hn, rfl⟩
    rotate_left
    · rw [hn] at hres
      exact Br.t rfl ⟨E4, .inr ⟨4, hres.symm, rfl, by decide⟩⟩
    refine Br.f rfl ?_
    rw [hn] at hres
    dsimp only at hres
    obtain ⟨x0, x1, rfl, x3⟩ := num_bd hn
    have hp7 : (2 : Int) ^ repB g ≤ 2 ^ 7 := two_pow_le (by omega)
    have h27 : (2 : Int) ^ 7 = 128 := by decide
    obtain ⟨x, rfl⟩ := Int.eq_ofNat_of_zero_le x0
    simp only [Int.toNat_natCast] at hres
    rw [hsl, i64_id (n := ((repL g : Nat) : Int) + (x : Int)) (by omega), i64_id (n := (many : Int) - ((l.length : Nat) : Int)) (by omega)]
    refine Lt.of (Br.dec (fun q6 => ?_) fun q6 => ?_)
    · rw [if_pos (by omega)] at hres
      exact ⟨E4, .inr ⟨3, hres.symm, rfl, by decide⟩⟩
    rw [if_neg (by omega), ← hwhat] at hres
    have hrow4 := hrow3.keep e4 fun _ _ h => h
    refine ⟨fun m st w5 => ∃ (i : Nat) (o5 : Slc), st = (o5, (i : Int)) ∧ i ≤ repL g + x ∧ m = repL g + x - i ∧ Row w5 o5 3 1 (ints (l ++ List.replicate i what)) ∧ (∀ j, o5.own j → w.heap.size ≤ j) ∧ Ext (fun _ => False) w w5, repL g + x, ⟨0, o, rfl, by omega, rfl, by simpa using hrow4, hown, E4⟩, ?_⟩
    rintro m st w5 ⟨i, o5, rfl, hi, rfl, hrow5, hown5, e5⟩
    unfold S81L1
    dsimp only
    rw [i64_id (n := ((repL g : Nat) : Int) + (x : Int)) (by omega)]
    refine Br.dec (fun q7 => Nw.of ?_) fun q7 => ?_
    · obtain ⟨o6, w6, h1, h2, h3, h4⟩ := app_int (x := what) hrow5 (by rw [List.length_append, List.length_replicate]; omega)
      refine ⟨o6, w6, h1, repL g + x - (i + 1), by omega, i + 1, o6, by rw [i64_id (by omega)]; rfl, by omega, rfl, ?_, new_own e5 hown5 h4, new_ext e5 hown5 h3⟩
      rw [List.replicate_succ', ← List.append_assoc]
      exact h2
    · have : i = repL g + x := by omega
      subst this
      exact ⟨n, by omega, _, q3 + repB g, o5, rfl, hrow5, hown5, e5, by omega, by rw [List.length_append, List.length_replicate]; omega, by rw [List.length_append, List.length_replicate]; omega, hres⟩
  · rw [if_pos (by omega)] at hres
    exact ⟨e2, .inl ⟨l, q, hres.symm, rfl, rfl, IV.row hrow, by have := row_cap hrow; omega, fun j hj => ⟨hown j hj, hrow.own_lt hj⟩⟩⟩
end
end Inf
end Go.Proofs.YtjkoafjnmkchdaaGreatDoor

/- Inflate: the reference's lengths, block, All. Conditions: sizes. -/
namespace Go.Proofs.YtjkoafjnmkchdaaGreatDoor
namespace Inf
open Sh Bit
set_option linter.unusedVariables false
set_option linter.unusedSimpArgs false
set_option maxRecDepth 4000
set_option maxHeartbeats 2000000
def dynT (l : List Int) (n q : Nat) : Except Int (List Int × List Int × Nat) := if l.getD 256 0 = 0 then .error 13 else if chk (l.take n) ≠ 0 then .error (chk (l.take n))
  else if chk (l.drop n) ≠ 0 then .error (chk (l.drop n)) else .ok (l.take n, l.drop n, q)
theorem take_own {s : Slc} {n j : Nat} (h : (s.cut 1 0 n s.cap).own j) : s.own j := by
  obtain ⟨a, ha, rfl⟩ := h
  have ha : (if s.cap = 0 then s.p else s.p.map (·.add (0 * 1))) = some a := ha
  split at ha
  · exact ⟨a, ha, rfl⟩
  · obtain ⟨x, hx, rfl⟩ := Option.map_eq_some_iff.1 ha
    exact ⟨x, hx, (add_block x _).symm⟩
theorem take_len {l : List Int} (n : Nat) (hn : n ≤ l.length) : (l.take n).length = n := by rw [List.length_take]; omega
attribute [local irreducible] Ld St Nw Nn Lt LdS
section
variable {w : World} {o : Slc} {s : ByteArray} {out : List UInt8} {p most : Nat}
theorem r_lengths (hs : s.size ≤ 1000000) (hp : p ≤ 8 * s.size) (w : World) : C49 s (p : Int) w fun a b q e w1 => Ext (fun _ => False) w w1 ∧ ((∃ y : Int, dyn s p = .error y ∧ e = y ∧ y ≠ 0) ∨
    ∃ (l : List Int) (n q1 : Nat), e = 0 ∧ q = (q1 : Int) ∧ q1 ≤ 8 * s.size ∧ 257 ≤ n ∧ n ≤ l.length ∧ IV w1 a (l.take n) ∧ IV w1 b (l.drop n) ∧ dyn s p = dynT l n q1 ∧ (∀ j, a.own j → w.heap.size ≤ j ∧ j < w1.heap.size) ∧ ∀ j, b.own j → w.heap.size ≤ j ∧ j < w1.heap.size) := by
  refine T49 _ _ _ _ ?_
  unfold S49
  have h32 : (2 : Int) ^ 5 = 32 := by decide
  have h16 : (2 : Int) ^ 4 = 16 := by decide
  generalize hR : dyn s p = R0
  unfold dyn at hR
  refine (r_number (n := 5) (by omega) hs hp w).mono ?_
  rintro hl q e w1 ⟨hn, e1⟩
  rcases hn with ⟨p1, hn, rfl, rfl⟩ | ⟨hn, rfl⟩
  rotate_left
  · rw [hn] at hR
    exact Br.t rfl ⟨e1, .inl ⟨4, hR.symm, rfl, by decide⟩⟩
  refine Br.f rfl ?_
  rw [hn] at hR
  dsimp only at hR
  obtain ⟨a0, a1, rfl, a3⟩ := num_bd hn
  refine Br.dec (fun q1 => ?_) fun q1 => ?_
  · rw [if_pos (by omega)] at hR
    exact ⟨e1, .inl ⟨3, hR.symm, rfl, by decide⟩⟩
  rw [if_neg (by omega)] at hR
  refine (r_number (n := 5) (by omega) hs (by omega) w1).mono ?_
  rintro hd q e w2 ⟨hn, e2⟩
  have E2 := e1.tr e2
  rcases hn with ⟨p2, hn, rfl, rfl⟩ | ⟨hn, rfl⟩
  rotate_left
  · rw [hn] at hR
    exact Br.t rfl ⟨E2, .inl ⟨4, hR.symm, rfl, by decide⟩⟩
  refine Br.f rfl ?_
  rw [hn] at hR
  dsimp only at hR
  obtain ⟨b0, b1, rfl, b3⟩ := num_bd hn
  refine Br.dec (fun q2 => ?_) fun q2 => ?_
  · rw [if_pos (by omega)] at hR
    exact ⟨E2, .inl ⟨3, hR.symm, rfl, by decide⟩⟩
  rw [if_neg (by omega)] at hR
  refine (r_number (n := 4) (by omega) hs (by omega) w2).mono ?_
  rintro hc q e w3 ⟨hn, e3⟩
  have E3 := E2.tr e3
  rcases hn with ⟨p3, hn, rfl, rfl⟩ | ⟨hn, rfl⟩
  rotate_left
  · rw [hn] at hR
    exact Br.t rfl ⟨E3, .inl ⟨4, hR.symm, rfl, by decide⟩⟩
  refine Br.f rfl ?_
  rw [hn] at hR
  dsimp only at hR
  obtain ⟨c0, c1, rfl, c3⟩ := num_bd hn
  obtain ⟨hl, rfl⟩ := Int.eq_ofNat_of_zero_le a0
  obtain ⟨hd, rfl⟩ := Int.eq_ofNat_of_zero_le b0
  obtain ⟨hc, rfl⟩ := Int.eq_ofNat_of_zero_le c0
  simp only [Int.toNat_natCast] at hR
  refine (Hn.start w3).nw fun w4 H => ?_
  simp only [List.nil_append] at H
  have H : Hn w3 w4 [(w3.heap.size, ints (ordI order), 3)] := H
  obtain ⟨w5, hrun, hw5⟩ := elI.make (zs := [.int .i64 0]) rfl w4 19 (by omega) (by omega)
  refine ⟨_, w5, hrun, ?_⟩
  have H : Hn w3 w5 [(w3.heap.size, ints (ordI order), 3), (w4.heap.size, ints (List.replicate 19 0), 3)] := by
    have hlt := H.lt 0 rfl
    rw [hw5, flat_zero]
    exact (H.keep ((Ext.refl _ _).alloc _)).push (Blk.new _ _ _) H.size (by simp; omega)
  generalize hR19 : lens19 s (order.take (hc + 4)) (List.replicate 19 0) (p + 5 + 5 + 4) = R19
  rw [hR19] at hR
  refine ⟨fun n st w6 => ∃ (i : Nat) (l : List Int) (q : Nat), st = ((q : Int), (i : Int)) ∧ i ≤ hc + 4 ∧ n = hc + 4 - i ∧ l.length = 19 ∧ q ≤ 8 * s.size ∧ Hn w3 w6 [(w3.heap.size, ints (ordI order), 3), (w4.heap.size, ints l, 3)] ∧ lens19 s ((order.take (hc + 4)).drop i) l q = R19, hc + 4, ⟨0, _, _, rfl, by omega, rfl, by simp, by omega, H, hR19⟩, ?_⟩
  rintro n st w6 ⟨i, l, q, rfl, hi, rfl, hl19, hq, H, hres⟩
  unfold S49L1
  dsimp only
  rw [i64_id (n := (hc : Int) + 4) (by omega)]
  have E6 := E3.tr H.ext
  refine Br.dec (fun q3 => ?_) fun q3 => ?_
  · have hol := order_lt i (by omega)
    have hdrop : (order.take (hc + 4)).drop i = order.getD i 0 :: (order.take (hc + 4)).drop (i + 1) := by
      have hlen : (order.take (hc + 4)).length = hc + 4 := by rw [List.length_take]; show min (hc + 4) 19 = _; omega
      rw [List.drop_eq_getElem_cons (by omega)]
      congr 1
      rw [List.getElem_take, List.getD_eq_getElem?_getD, List.getElem?_eq_getElem (by show i < 19; omega)]
      rfl
    rw [hdrop] at hres
    unfold lens19 at hres
    refine (r_number (n := 3) (by omega) hs hq w6).mono ?_
    rintro x q e w7 ⟨hn, e7⟩
    rcases hn with ⟨p7, hn, rfl, rfl⟩ | ⟨hn, rfl⟩
    rotate_left
    · rw [hn] at hres
      rw [← hres] at hR
      exact Br.t rfl ⟨E6.tr e7, .inl ⟨4, hR.symm, rfl, by decide⟩⟩
    refine Br.f rfl ?_
    rw [hn] at hres
    dsimp only at hres
    obtain ⟨x0, x1, rfl, x3⟩ := num_bd hn
    have H := H.keep e7
    refine ⟨by omega, by show (i : Int) < ((19 : Nat) : Int); omega, Nn.of ?_⟩
    simp only [add_lit, Int.toNat_natCast, Nat.mul_one, Nat.zero_add]
    refine H.ld 0 rfl (x := ((order.getD i 0 : Nat) : Int)) (by rw [ints_get (by rw [ordI_len]; show i < 19; omega), ordI_get]) ⟨by omega, by show ((order.getD i 0 : Nat) : Int) < ((19 : Nat) : Int); omega, Nn.of ?_⟩
    simp only [add_lit, Int.toNat_natCast, Nat.mul_one, Nat.zero_add]
    refine H.st 1 rfl (by rw [ints_len]; omega) fun w8 H => ?_
    simp only [List.set_cons_zero, List.set_cons_succ] at H
    rw [ints_set] at H
    exact ⟨hc + 4 - (i + 1), by omega, i + 1, _, _, by rw [i64_id (by omega)]; rfl, by omega, rfl, by rw [List.length_set]; exact hl19, x3, H, hres⟩
  · have hi4 : i = hc + 4 := by omega
    subst hi4
    have hd0 : (order.take (hc + 4)).drop (hc + 4) = [] := List.drop_eq_nil_of_le (by rw [List.length_take]; omega)
    rw [hd0] at hres
    have hres : Except.ok (l, q) = R19 := hres
    rw [← hres] at hR
    dsimp only at hR
    have hvl : IV w6 ⟨some ⟨w4.heap.size, 0, none⟩, 19, 19⟩ l := IV.blk (H.get 1 rfl) hl19.symm
    refine (r_chk hvl).mono ?_
    rintro r w6 ⟨rfl, rfl⟩
    refine Br.ne (fun h7 => ?_) fun h7 => ?_
    · rw [if_pos h7] at hR
      exact ⟨E6, .inl ⟨_, hR.symm, rfl, h7⟩⟩
    rw [if_neg (fun hh => hh h7)] at hR
    rw [i64_id (n := (hl : Int) + 257) (by omega), i64_id (n := (hl : Int) + 257 + (hd : Int)) (by omega), i64_id (n := (hl : Int) + 257 + (hd : Int) + 1) (by omega), show (hl : Int) + 257 + (hd : Int) + 1 = ((hl + 257 + (hd + 1) : Nat) : Int) by omega]
    refine (r_all hvl (chk_lok h7) hl19 hs hq (many := hl + 257 + (hd + 1)) (by omega)).mono ?_
    rintro r q e w8 ⟨e8, h8⟩
    have E8 := E6.tr e8
    rcases h8 with ⟨l2, q2, h8, rfl, rfl, hv2, hcap2, own2⟩ | ⟨y, h8, rfl, hy⟩
    rotate_left
    · rw [h8] at hR
      exact Br.t (by simpa using hy) ⟨E8, .inl ⟨_, hR.symm, rfl, hy⟩⟩
    refine Br.f rfl ?_
    rw [h8] at hR
    dsimp only at hR
    obtain ⟨f1, f2, f3⟩ := lensF_ok _ _ _ hq (Nat.zero_le _) h8
    have hln := hv2.1
    rw [show (hl : Int) + 257 = ((hl + 257 : Nat) : Int) by omega, Int.toNat_natCast]
    have z6 := E6.size
    have hvd := (hv2.drop hcap2 (d := hl + 257) (by omega)).1
    refine ⟨by omega, by omega, by omega, by omega, E8.drew, .inr ⟨l2, hl + 257, q2, rfl, rfl, f2, by omega, by omega, (hv2.take (by omega)).keep (Ext.refl _ _).drew, hvd.keep (Ext.refl _ _).drew, hR.symm, fun j hj => ?_, fun j hj => ?_⟩⟩
    · have := own2 j (take_own hj)
      show w.heap.size ≤ j ∧ j < w8.heap.size
      omega
    · have := own2 j (cut_own hj)
      show w.heap.size ≤ j ∧ j < w8.heap.size
      omega
theorem r_block {kind : Int} (h : BRow w o out) (hm : most ≤ 1048576) (hl : out.length ≤ most) (hs : s.size ≤ 1000000) (hp : p ≤ 8 * s.size) : C32 s (p : Int) kind o (most : Int) w fun x q e w1 => OutE (block s most kind out p) w w1 o x q e := by
  refine T32 _ _ _ _ _ _ _ ?_
  unfold S32
  generalize hR : block s most kind out p = R0
  unfold block at hR
  refine Br.eq (fun h3 => ?_) fun h3 => Br.eq (fun h0 => ?_) fun h0 => ?_
  · rw [if_pos h3] at hR
    exact .inr ⟨3, hR.symm, rfl, by decide, Ext.refl _ _⟩
  · rw [if_neg h3, if_pos h0] at hR
    refine (r_stored h hm hl hs hp).mono ?_
    rintro x q e w1 hx
    rw [hR] at hx
    exact hx
  rw [if_neg h3, if_neg h0] at hR
  refine (r_Fixed w).mono ?_
  rintro fa fb w1 ⟨va, vb, e1, oa, ob⟩
  have z1 := e1.size
  have H1 := h.keep e1 fun _ _ h => h
  have olt : ∀ j, o.own j → j < w.heap.size := fun j hj => h.own_lt hj
  refine Br.eq (fun h2 => ?_) fun h2 => ?_
  · rw [if_pos h2] at hR
    refine (r_lengths hs hp w1).mono ?_
    rintro a b q e w2 ⟨e2, hd⟩
    have E2 := e1.tr e2
    have z2 := E2.size
    rcases hd with ⟨y, hd, rfl, hy⟩ | ⟨l, n, q2, rfl, rfl, hq2, hn1, hn2, ha, hb, hd, owna, ownb⟩
    · rw [hd] at hR
      exact Br.t (by simpa using hy) (.inr ⟨_, hR.symm, rfl, hy, no_own E2⟩)
    refine Br.f rfl ?_
    rw [hd] at hR
    unfold dynT at hR
    have htl := take_len (l := l) n hn2
    obtain ⟨g, hg, hc⟩ := ha.get (i := 256) (by omega)
    have hlen := ha.1
    have h256 : (l.take n).getD 256 0 = l.getD 256 0 := by
      rw [List.getD_eq_getElem?_getD, List.getElem?_take_of_lt (by omega), List.getD_eq_getElem?_getD]
    rw [hg]
    refine ⟨by omega, by omega, Nn.of (Ld.mk hc ?_)⟩
    rw [h256]
    refine Br.eq (fun q3 => ?_) fun q3 => ?_
    · rw [if_pos q3] at hR
      exact .inr ⟨13, hR.symm, rfl, by decide, no_own E2⟩
    rw [if_neg q3] at hR
    refine (r_chk ha).mono ?_
    rintro r w2 ⟨rfl, rfl⟩
    refine Br.ne (fun q4 => ?_) fun q4 => ?_
    · rw [if_pos q4] at hR
      exact .inr ⟨_, hR.symm, rfl, q4, no_own E2⟩
    rw [if_neg (fun hh => hh q4)] at hR
    refine (r_chk hb).mono ?_
    rintro r w2 ⟨rfl, rfl⟩
    refine Br.ne (fun q5 => ?_) fun q5 => ?_
    · rw [if_pos q5] at hR
      exact .inr ⟨_, hR.symm, rfl, q5, no_own E2⟩
    rw [if_neg (fun hh => hh q5)] at hR
    refine (r_signs (H1.keep e2 fun _ _ h => h) hm hl hs hq2 ha (chk_lok q4) (fun j hj => ⟨fun e => ?_, (owna j hj).2⟩) hb (chk_lok q5) (fun j hj => ⟨fun e => ?_, (ownb j hj).2⟩)).mono ?_
    · have := owna j hj; have := olt j e; omega
    · have := ownb j hj; have := olt j e; omega
    · rintro x q e w3 hx
      dsimp only at hR
      rw [hR] at hx
      exact hx.pre E2
  · rw [if_neg h2] at hR
    refine (r_signs H1 hm hl hs hp va (chk_lok chk_fixL) (fun j hj => ⟨fun e => ?_, (oa j hj).2⟩) vb (chk_lok chk_fixD) (fun j hj => ⟨fun e => ?_, (ob j hj).2⟩)).mono ?_
    · have := oa j hj; have := olt j e; omega
    · have := ob j hj; have := olt j e; omega
    · rintro x q e w3 hx
      rw [hR] at hx
      exact hx.pre e1
theorem r_All (hs : s.size ≤ 1000000) (m : Int) (w : World) : C16 s m w fun d n e w1 => (d, n, e) = allR s m ∧ Ext (fun _ => False) w w1 := by
  refine T16 _ _ _ _ ?_
  unfold S16
  refine Br.dec (fun h1 => ⟨by unfold allR; rw [if_pos h1], Ext.refl _ _⟩) fun h1 => ?_
  have hmost : (if 1048576 < m then (1048576 : Int) else m) = (((min m 1048576).toNat : Nat) : Int) := by
    split <;> omega
  have hmb : (min m 1048576).toNat ≤ 1048576 := by omega
  have hall : allR s m = match allF s (min m 1048576).toNat (8 * s.size + 1) [] 0 with
      | .error e => (⟨#[]⟩, 0, e)
      | .ok (o, n) => (⟨o.toArray⟩, (n : Int), 0) := by
    unfold allR
    rw [if_neg (by omega)]
    cases allF s (min m 1048576).toNat (8 * s.size + 1) [] 0 <;> rfl
  generalize (min m 1048576).toNat = mm at *
  generalize hRR : allF s mm (8 * s.size + 1) [] 0 = R0 at hall
  refine ⟨fun n st w7 => ∃ (out1 : List UInt8) (o1 : Slc) (q : Nat), st = (o1, (q : Int)) ∧ BRow w7 o1 out1 ∧ out1.length ≤ mm ∧ q ≤ 8 * s.size ∧ (∀ j, o1.own j → w.heap.size ≤ j) ∧ Ext (fun _ => False) w w7 ∧ 8 * s.size < q + n ∧ allF s mm n out1 q = R0, 8 * s.size + 1, ⟨[], ⟨none, 0, 0⟩, 0, rfl, BRow.nil _, Nat.zero_le _, Nat.zero_le _, nil_own _, Ext.refl _ _, by omega, hRR⟩, ?_⟩
  rintro n st w1 ⟨out1, o1, q, rfl, H1, hl1, hq, own1, e1, hfu, hres⟩
  unfold S16L1
  dsimp only
  obtain ⟨n, rfl⟩ : ∃ n', n = n' + 1 := ⟨n - 1, by omega⟩
  unfold allF at hres
  refine (r_number (n := 1) (by omega) hs hq w1).mono ?_
  rintro last q e w2 ⟨hn, e2⟩
  have E2 := e1.tr e2
  rcases hn with ⟨q2, hn, rfl, rfl⟩ | ⟨hn, rfl⟩
  rotate_left
  · rw [hn] at hres
    exact Br.t rfl ⟨by rw [hall, ← hres], E2⟩
  refine Br.f rfl ?_
  rw [hn] at hres
  dsimp only at hres
  obtain ⟨a0, a1, rfl, a3⟩ := num_bd hn
  refine (r_number (n := 2) (by omega) hs (by omega) w2).mono ?_
  rintro kind q e w3 ⟨hn, e3⟩
  have E3 := E2.tr e3
  rcases hn with ⟨q3, hn, rfl, rfl⟩ | ⟨hn, rfl⟩
  rotate_left
  · rw [hn] at hres
    exact Br.t rfl ⟨by rw [hall, ← hres], E3⟩
  refine Br.f rfl ?_
  rw [hn] at hres
  dsimp only at hres
  obtain ⟨b0, b1, rfl, b3⟩ := num_bd hn
  rw [hmost]
  refine (r_block (kind := kind) ((H1.keep e2 fun _ _ h => h).keep e3 fun _ _ h => h) hmb hl1 hs b3).mono ?_
  rintro x q e w4 hx
  rcases hx with ⟨out4, q4, hb, rfl, rfl, H4, e4, own4⟩ | ⟨y, hb, rfl, hy, e4⟩
  rotate_left
  · rw [hb] at hres
    exact Br.t (by simpa using hy) ⟨by rw [hall, ← hres], new_ext E3 own1 e4⟩
  refine Br.f rfl ?_
  rw [hb] at hres
  dsimp only at hres
  obtain ⟨c1, c2, c3⟩ := block_ok b3 hl1 hb
  have E4 := new_ext E3 own1 e4
  refine Br.eq (fun h5 => ?_) fun h5 => ?_
  · rw [if_pos h5] at hres
    refine ⟨_, _, str_row H4, ?_, E4⟩
    rw [hall, ← hres]
    dsimp only
    rw [i64_id (n := (q4 : Int) + 7) (by omega), tdiv_id (by omega), i64_id (by omega)]
    congr 2
  · rw [if_neg h5] at hres
    exact ⟨n, by omega, out4, x, q4, rfl, H4, c3, c2, new_own E3 own1 own4, E4, by omega, hres⟩
end
end Inf
end Go.Proofs.YtjkoafjnmkchdaaGreatDoor

/- No laws here. -/

/- Inflate: lives; InflateTells and InflateCovers: the walks. Conditions: the laid variables. -/
namespace Go.Proofs.YtjkoafjnmkchdaaGreatDoor
namespace Inf
open Sh Bit
set_option linter.unusedVariables false
set_option linter.unusedSimpArgs false
set_option maxRecDepth 100000
set_option maxHeartbeats 2000000
theorem lv1 : allR ⟨#[1, 2, 0, 253, 255, 97, 98]⟩ 10 = (⟨#[97, 98]⟩, 7, 0) := by decide +kernel
theorem lv2 : allR ⟨#[75, 4, 0]⟩ 1 = (⟨#[97]⟩, 3, 0) := by decide +kernel
theorem lv3 : allR ⟨#[75, 4, 0]⟩ 0 = (⟨#[]⟩, 0, 5) := by decide +kernel
theorem lv4 : allR ⟨#[7]⟩ 10 = (⟨#[]⟩, 0, 3) := by decide +kernel
theorem lv5 : allR ⟨#[]⟩ 10 = (⟨#[]⟩, 0, 4) := by decide +kernel
theorem lv6 : allR ⟨#[1, 2, 0, 253, 254, 97, 98]⟩ 10 = (⟨#[]⟩, 0, 3) := by decide +kernel
theorem lv7 : allR ⟨#[]⟩ (-1) = (⟨#[]⟩, 0, 1) := by decide +kernel
attribute [local irreducible] Ld St Nw Nn Lt LdS
section
variable {w : World} {N : Nat}
theorem Laid.no {N : Nat} {w w' : World} (h : Laid N w) (he : Ext (fun _ => False) w w') : Laid N w' := h.keep he fun _ e => e.elim
end
end Inf
end Go.Proofs.YtjkoafjnmkchdaaGreatDoor

/- Inflate: a prefix is read alike, or ends too soon; plain laws. No condition. -/
namespace Go.Proofs.YtjkoafjnmkchdaaGreatDoor
namespace Inf
open Sh Bit
set_option linter.unusedVariables false
set_option linter.unusedSimpArgs false
set_option maxRecDepth 4000
set_option maxHeartbeats 1000000
/-- r is a prefix of t. -/
def Pre (r t : ByteArray) : Prop := ∃ m : List UInt8, t.data.toList = r.data.toList ++ m
theorem Pre.refl (t : ByteArray) : Pre t t := ⟨[], by simp⟩
theorem Pre.size {r t : ByteArray} (h : Pre r t) : r.size ≤ t.size := by
  obtain ⟨m, h⟩ := h
  rw [size_list, size_list, h, List.length_append]
  omega
theorem byt_l (s : ByteArray) (j : Nat) : byt s j = ((s.data.toList.getD j 0).toNat : Int) := by rw [← bAt_byt, bAt_list]
theorem Pre.byt {r t : ByteArray} (h : Pre r t) {j : Nat} (hj : j < r.size) : byt r j = byt t j := by
  obtain ⟨m, h⟩ := h
  rw [size_list] at hj
  rw [byt_l, byt_l, h, List.getD_eq_getElem?_getD, List.getD_eq_getElem?_getD, List.getElem?_append_left hj]
theorem Pre.bt {r t : ByteArray} (h : Pre r t) {p : Nat} (hp : p < 8 * r.size) : bt r 1 p = bt t 1 p := by
  unfold Bit.bt
  rw [h.byt (by omega)]
theorem Pre.tk {r t : ByteArray} (h : Pre r t) (p : Nat) : ∀ n, p + n ≤ 8 * r.size → tk r 1 p n = tk t 1 p n
  | 0, _ => rfl
  | n + 1, hn => by
    have ih := h.tk p n (by omega)
    have hb := h.bt (p := p + n) (by omega)
    show (if (1 : Int) = 1 then Bit.tk r 1 p n + Bit.bt r 1 (p + n) * 2 ^ n else _) = (if (1 : Int) = 1 then Bit.tk t 1 p n + Bit.bt t 1 (p + n) * 2 ^ n else _)
    rw [if_pos rfl, if_pos rfl, ih, hb]
theorem Pre.extract {r t : ByteArray} (h : Pre r t) {a b : Nat} (hb : b ≤ r.size) : (r.extract a b).data.toList = (t.extract a b).data.toList := by
  obtain ⟨m, h⟩ := h
  rw [size_list] at hb
  rw [extract_list, extract_list, h]
  by_cases ha : a ≤ r.data.toList.length
  · rw [List.drop_append_of_le_length ha, List.take_append_of_le_length (by rw [List.length_drop]; omega)]
  · rw [show b - a = 0 by omega, List.take_zero, List.take_zero]
/-- What a prefix answers, next to the whole: B bits are there. -/
structure Rel {α : Type} (B p : Nat) (R T : Except Int (α × Nat)) : Prop where
  t : ∀ x q, T = .ok (x, q) → p ≤ q ∧ ((q ≤ B ∧ R = .ok (x, q)) ∨ (B < q ∧ R = .error 4))
  r : ∀ x q, R = .ok (x, q) → T = .ok (x, q) ∧ q ≤ B
/-- A reading that respects prefixes. -/
def Good {α : Type} (t : ByteArray) (p : Nat) (A : ByteArray → Except Int (α × Nat)) : Prop := ∀ r, Pre r t → p ≤ 8 * r.size → Rel (8 * r.size) p (A r) (A t)
def bnd {α β : Type} (a : Except Int (α × Nat)) (f : α → Nat → Except Int (β × Nat)) : Except Int (β × Nat) := match a with
  | .error e => .error e
  | .ok (x, q) => f x q
theorem Good.bnd {α β : Type} {t : ByteArray} {p : Nat} {A : ByteArray → Except Int (α × Nat)} {f : ByteArray → α → Nat → Except Int (β × Nat)} (h : Good t p A) (k : ∀ x q, (∃ r, A r = .ok (x, q)) → p ≤ q → Good t q (fun r => f r x q)) : Good t p (fun r => Inf.bnd (A r) (f r)) := by
  intro r hr hp
  show Rel (8 * r.size) p (Inf.bnd (A r) (f r)) (Inf.bnd (A t) (f t))
  have hA := h r hr hp
  have hz := hr.size
  constructor
  · intro y q' hy
    cases hT : A t with
    | error e => rw [hT] at hy; cases hy
    | ok z =>
      obtain ⟨x, q⟩ := z
      rw [hT] at hy
      have hy : f t x q = .ok (y, q') := hy
      obtain ⟨h1, h2⟩ := hA.t x q hT
      have hqt : q ≤ 8 * t.size := by
        rcases ((h t (Pre.refl t) (by omega)).t x q hT).2 with e | e
        · exact e.1
        · rw [e.2] at hT; cases hT
      have hmono := ((k x q ⟨t, hT⟩ h1) t (Pre.refl t) hqt).t y q' hy
      rcases h2 with ⟨e1, e2⟩ | ⟨e1, e2⟩
      · obtain ⟨g1, g2⟩ := ((k x q ⟨t, hT⟩ h1) r hr e1).t y q' hy
        refine ⟨by omega, ?_⟩
        show (_ ∧ Inf.bnd (A r) (f r) = _) ∨ (_ ∧ Inf.bnd (A r) (f r) = _)
        rw [e2]
        exact g2
      · refine ⟨by omega, .inr ⟨by omega, ?_⟩⟩
        show Inf.bnd (A r) (f r) = _
        rw [e2]
        rfl
  · intro y q' hy
    cases hR : A r with
    | error e => rw [hR] at hy; cases hy
    | ok z =>
      obtain ⟨x, q⟩ := z
      rw [hR] at hy
      have hy : f r x q = .ok (y, q') := hy
      obtain ⟨h1, h2⟩ := hA.r x q hR
      obtain ⟨h3, _⟩ := hA.t x q h1
      have := ((k x q ⟨r, hR⟩ h3) r hr h2).r y q' hy
      refine ⟨?_, this.2⟩
      show Inf.bnd (A t) (f t) = _
      rw [h1]
      exact this.1
theorem Good.ok {α : Type} (t : ByteArray) (p : Nat) (x : α) : Good t p (fun _ => .ok (x, p)) := fun r hr hp => ⟨fun y q h => by cases h; exact ⟨Nat.le_refl _, .inl ⟨hp, rfl⟩⟩, fun y q h => by cases h; exact ⟨rfl, hp⟩⟩
theorem Good.er {α : Type} (t : ByteArray) (p : Nat) (e : Int) : Good (α := α) t p (fun _ => .error e) := fun r hr hp => ⟨fun y q h => (by cases h), fun y q h => (by cases h)⟩
theorem Good.ite {α : Type} {t : ByteArray} {p : Nat} {c : Prop} [Decidable c] {A B : ByteArray → Except Int (α × Nat)} (h1 : c → Good t p A) (h2 : ¬ c → Good t p B) : Good t p (fun r => if c then A r else B r) := by
  by_cases h : c
  · simpa only [if_pos h] using h1 h
  · simpa only [if_neg h] using h2 h
theorem Good.eq {α : Type} {t : ByteArray} {p : Nat} {A B : ByteArray → Except Int (α × Nat)} (h : Good t p A) (e : ∀ r, p ≤ 8 * r.size → B r = A r) : Good t p B := fun r hr hp => by
  have := h r hr hp
  rw [← e r hp, ← e t (by have := hr.size; omega)] at this
  exact this
theorem g_num (t : ByteArray) (p n : Nat) : Good t p (fun r => num r p n) := fun r hr hp => by
  show Rel (8 * r.size) p (num r p n) (num t p n)
  have hz := hr.size
  constructor
  · intro v q h
    obtain ⟨rfl, rfl, h3⟩ := num_ok h
    refine ⟨by omega, ?_⟩
    unfold num
    by_cases hb : p + n ≤ 8 * r.size
    · exact .inl ⟨hb, by rw [if_pos hb, hr.tk p n hb]⟩
    · exact .inr ⟨by omega, by rw [if_neg hb]⟩
  · intro v q h
    obtain ⟨rfl, rfl, h3⟩ := num_ok h
    refine ⟨?_, h3⟩
    unfold num
    rw [if_pos (by omega), hr.tk p n h3]
theorem g_sgo (t : ByteArray) (lens : List Int) : ∀ (k n : Nat) (c f : Int) (p : Nat), Good t p (fun r => sgo lens r k n c f p)
  | 0, n, c, f, p => Good.er t p 13
  | k + 1, n, c, f, p => by
    have h : Good t p (fun r => bnd (num r p 1) fun v q => if 2 * c + v - 2 * f < (cnt lens n : Int) then .ok ((idxs lens n).getD (2 * c + v - 2 * f).toNat 0, q) else sgo lens r k (n + 1) (2 * c + v) (2 * f + (cnt lens n : Int)) q) :=
      (g_num t p 1).bnd fun v q _ _ => Good.ite (fun _ => Good.ok t q _) fun _ => g_sgo t lens k (n + 1) _ _ q
    refine h.eq fun r hp => ?_
    conv => lhs; unfold sgo
    by_cases hb : 8 * r.size ≤ p
    · rw [if_pos hb]
      have e : num r p 1 = .error 4 := by unfold num; rw [if_neg (by omega)]
      rw [e]
      rfl
    · rw [if_neg hb]
      have htk : tk r 1 p 1 = bt r 1 p := by
        show (if (1 : Int) = 1 then tk r 1 p 0 + bt r 1 (p + 0) * 2 ^ 0 else _) = _
        rw [if_pos rfl, Nat.add_zero]
        show (0 : Int) + bt r 1 p * 1 = _
        omega
      have e : num r p 1 = .ok (bt r 1 p, p + 1) := by unfold num; rw [if_pos (by omega), htk]
      rw [e]
      rfl
theorem g_sym (t : ByteArray) (lens : List Int) (p : Nat) : Good t p (fun r => sym lens r p) := g_sgo t lens _ _ _ _ p
theorem g_lens19 (t : ByteArray) : ∀ (os : List Nat) (l : List Int) (p : Nat), Good t p (fun r => lens19 r os l p)
  | [], l, p => Good.ok t p l
  | o :: os, l, p => by
    have h : Good t p (fun r => bnd (num r p 3) fun v q => lens19 r os (l.set o v) q) := (g_num t p 3).bnd fun v q _ _ => g_lens19 t os _ q
    refine h.eq fun r _ => ?_
    conv => lhs; unfold lens19
    cases num r p 3 <;> rfl
theorem g_lensF (t : ByteArray) (lens : List Int) (many : Nat) : ∀ (k : Nat) (l : List Int) (p : Nat), Good t p (fun r => lensF lens r many k l p)
  | 0, l, p => Good.er t p 0
  | k + 1, l, p => by
    have h : Good t p (fun r => if many ≤ l.length then .ok (l, p) else bnd (sym lens r p) fun sg p1 => if sg < 16 then lensF lens r many k (l ++ [(sg : Int)]) p1 else if sg = 16 ∧ l.length = 0 then .error 3 else
        bnd (num r p1 (repB sg)) fun v p2 => if many < l.length + (repL sg + v.toNat) then .error 3 else lensF lens r many k (l ++ List.replicate (repL sg + v.toNat) (if sg = 16 then l.getD (l.length - 1) 0 else 0)) p2) :=
      Good.ite (fun _ => Good.ok t p _) fun _ => (g_sym t lens p).bnd fun sg p1 _ _ => Good.ite (fun _ => g_lensF t lens many k _ _) fun _ => Good.ite (fun _ => Good.er t _ _) fun _ =>
        (g_num t p1 _).bnd fun v p2 _ _ => Good.ite (fun _ => Good.er t _ _) fun _ => g_lensF t lens many k _ _
    refine h.eq fun r _ => ?_
    conv => lhs; unfold lensF
    split
    · rfl
    · cases sym lens r p with
      | error e => rfl
      | ok z =>
        obtain ⟨sg, p1⟩ := z
        dsimp only [bnd]
        split
        · rfl
        · split
          · rfl
          · cases num r p1 (repB sg) <;> rfl
theorem g_stored (t : ByteArray) (p : Nat) (out : List UInt8) (most : Nat) : Good t p (fun r => stored r p out most) := by
  have h : Good t ((p + 7) / 8 * 8) (fun r => bnd (num r ((p + 7) / 8 * 8) 16) fun n p1 => bnd (num r p1 16) fun m p2 => if m ≠ 65535 - n then .error 3 else if ¬ out.length + n.toNat ≤ most then .error 5 else if ¬ p2 / 8 + n.toNat ≤ r.size then .error 4 else .ok (out ++ (r.extract (p2 / 8) (p2 / 8 + n.toNat)).data.toList, p2 + 8 * n.toNat)) := by
    refine (g_num t _ 16).bnd fun n p1 h1 _ => (g_num t p1 16).bnd fun m p2 h2 _ => Good.ite (fun _ => Good.er t _ _) fun _ => Good.ite (fun _ => Good.er t _ _) fun _ => ?_
    obtain ⟨r1, h1⟩ := h1
    obtain ⟨r2, h2⟩ := h2
    obtain ⟨_, rfl, _⟩ := num_ok h1
    obtain ⟨_, rfl, _⟩ := num_ok h2
    intro r hr hp
    have hz := hr.size
    constructor
    · intro x q hx
      dsimp only at hx ⊢
      split at hx
      · cases hx
      · rename_i hsz
        cases hx
        refine ⟨by omega, ?_⟩
        by_cases hb : ((p + 7) / 8 * 8 + 16 + 16) / 8 + n.toNat ≤ r.size
        · exact .inl ⟨by omega, by rw [if_neg (fun hh => hh hb), hr.extract hb]⟩
        · exact .inr ⟨by omega, by rw [if_pos hb]⟩
    · intro x q hx
      dsimp only at hx ⊢
      split at hx
      · cases hx
      · rename_i hsz
        cases hx
        have hb : ((p + 7) / 8 * 8 + 16 + 16) / 8 + n.toNat ≤ r.size := Classical.not_not.1 hsz
        exact ⟨by rw [if_neg (by omega), hr.extract hb], by omega⟩
  have h' : Good t ((p + 7) / 8 * 8) (fun r => stored r p out most) := h.eq fun r _ => by
    conv => lhs; unfold stored
    cases num r ((p + 7) / 8 * 8) 16 with
    | error e => rfl
    | ok z =>
      obtain ⟨n, p1⟩ := z
      dsimp only [bnd]
      cases num r p1 16 <;> rfl
  intro r hr hp
  have := h' r hr (by omega)
  exact ⟨fun x q hx => ⟨by have := (this.t x q hx).1; omega, (this.t x q hx).2⟩, this.r⟩
/-- A triple, as a pair with a position. -/
def dynP (s : ByteArray) (p : Nat) : Except Int ((List Int × List Int) × Nat) := match dyn s p with
  | .error e => .error e
  | .ok (a, b, q) => .ok ((a, b), q)
theorem g_dyn (t : ByteArray) (p : Nat) : Good t p (fun r => dynP r p) := by
  have h : Good t p (fun r => bnd (num r p 5) fun hl p1 => if 29 < hl then .error 3 else bnd (num r p1 5) fun hd p2 => if 29 < hd then .error 3 else bnd (num r p2 4) fun hc p3 => bnd (lens19 r (order.take (hc.toNat + 4)) (List.replicate 19 0) p3) fun l19 p4 =>
      if chk l19 ≠ 0 then .error (chk l19) else bnd (lensF l19 r (hl.toNat + 257 + (hd.toNat + 1)) (hl.toNat + 257 + (hd.toNat + 1) + 1) [] p4) fun l p5 => if l.getD 256 0 = 0 then .error 13 else if chk (l.take (hl.toNat + 257)) ≠ 0 then .error (chk (l.take (hl.toNat + 257)))
        else if chk (l.drop (hl.toNat + 257)) ≠ 0 then .error (chk (l.drop (hl.toNat + 257))) else .ok ((l.take (hl.toNat + 257), l.drop (hl.toNat + 257)), p5)) :=
    (g_num t p 5).bnd fun hl p1 _ _ => Good.ite (fun _ => Good.er t _ _) fun _ => (g_num t p1 5).bnd fun hd p2 _ _ => Good.ite (fun _ => Good.er t _ _) fun _ => (g_num t p2 4).bnd fun hc p3 _ _ => (g_lens19 t _ _ p3).bnd fun l19 p4 _ _ =>
      Good.ite (fun _ => Good.er t _ _) fun _ => (g_lensF t _ _ _ _ p4).bnd fun l p5 _ _ => Good.ite (fun _ => Good.er t _ _) fun _ => Good.ite (fun _ => Good.er t _ _) fun _ => Good.ite (fun _ => Good.er t _ _) fun _ => Good.ok t _ _
  refine h.eq fun r _ => ?_
  unfold dynP dyn
  cases num r p 5 with
  | error e => rfl
  | ok z =>
    obtain ⟨hl, p1⟩ := z
    dsimp only [bnd]
    by_cases c1 : 29 < hl
    · rw [if_pos c1, if_pos c1]
    · rw [if_neg c1, if_neg c1]
      cases num r p1 5 with
      | error e => rfl
      | ok z =>
        obtain ⟨hd, p2⟩ := z
        dsimp only
        by_cases c2 : 29 < hd
        · rw [if_pos c2, if_pos c2]
        · rw [if_neg c2, if_neg c2]
          cases num r p2 4 with
          | error e => rfl
          | ok z =>
            obtain ⟨hc, p3⟩ := z
            dsimp only
            cases lens19 r (order.take (hc.toNat + 4)) (List.replicate 19 0) p3 with
            | error e => rfl
            | ok z =>
              obtain ⟨l19, p4⟩ := z
              dsimp only
              by_cases c3 : chk l19 ≠ 0
              · rw [if_pos c3, if_pos c3]
              · rw [if_neg c3, if_neg c3]
                cases lensF l19 r (hl.toNat + 257 + (hd.toNat + 1)) (hl.toNat + 257 + (hd.toNat + 1) + 1) [] p4 with
                | error e => rfl
                | ok z =>
                  obtain ⟨l, p5⟩ := z
                  dsimp only
                  by_cases c4 : l.getD 256 0 = 0
                  · rw [if_pos c4, if_pos c4]
                  · rw [if_neg c4, if_neg c4]
                    by_cases c5 : chk (l.take (hl.toNat + 257)) ≠ 0
                    · rw [if_pos c5, if_pos c5]
                    · rw [if_neg c5, if_neg c5]
                      by_cases c6 : chk (l.drop (hl.toNat + 257)) ≠ 0
                      · rw [if_pos c6, if_pos c6]
                      · rw [if_neg c6, if_neg c6]
theorem g_copied (t : ByteArray) (far : List Int) (most sg : Nat) (out : List UInt8) (p : Nat) : Good t p (fun r => copied r far most sg out p) := by
  have h : Good t p (fun r => if 285 < sg then .error 13 else bnd (num r p (moreL (sg - 257))) fun v p1 => bnd (sym far r p1) fun d p2 => if 29 < d then .error 13 else bnd (num r p2 (moreD d)) fun x p3 => if out.length < baseD d + x.toNat then .error 14 else if most < out.length + (firstL (sg - 257) + v.toNat) then .error 5
      else .ok (copy out (baseD d + x.toNat) (firstL (sg - 257) + v.toNat), p3)) :=
    Good.ite (fun _ => Good.er t _ _) fun _ => (g_num t p _).bnd fun v p1 _ _ => (g_sym t far p1).bnd fun d p2 _ _ => Good.ite (fun _ => Good.er t _ _) fun _ => (g_num t p2 _).bnd fun x p3 _ _ => Good.ite (fun _ => Good.er t _ _) fun _ => Good.ite (fun _ => Good.er t _ _) fun _ => Good.ok t _ _
  refine h.eq fun r _ => ?_
  unfold copied
  by_cases c1 : 285 < sg
  · rw [if_pos c1, if_pos c1]
  · rw [if_neg c1, if_neg c1]
    cases num r p (moreL (sg - 257)) with
    | error e => rfl
    | ok z =>
      obtain ⟨v, p1⟩ := z
      dsimp only [bnd]
      cases sym far r p1 with
      | error e => rfl
      | ok z =>
        obtain ⟨d, p2⟩ := z
        dsimp only
        by_cases c2 : 29 < d
        · rw [if_pos c2, if_pos c2]
        · rw [if_neg c2, if_neg c2]
          cases num r p2 (moreD d) <;> rfl
theorem g_signs (t : ByteArray) (near far : List Int) (most : Nat) : ∀ (n : Nat) (K : ByteArray → Nat) (out : List UInt8) (p : Nat), 8 * t.size < p + n → (∀ r, 8 * r.size < p + K r) → Good t p (fun r => signsF r near far most (K r) out p)
  | 0, K, out, p, h, _ => fun r hr hp => by have := hr.size; omega
  | n + 1, K, out, p, h, hK => by
    have g : Good t p (fun r => bnd (sym near r p) fun sg p1 => if sg = 256 then .ok (out, p1) else if 256 < sg then bnd (copied r far most sg out p1) fun o q => signsF r near far most (K r - 1) o q else if most ≤ out.length then .error 5 else signsF r near far most (K r - 1) (out ++ [UInt8.ofNat sg]) p1) := by
      refine (g_sym t near p).bnd fun sg p1 hx _ => Good.ite (fun _ => Good.ok t _ _) fun _ => Good.ite (fun _ => ?_) fun _ => Good.ite (fun _ => Good.er t _ _) fun _ => ?_
      · obtain ⟨r0, hx⟩ := hx
        have h1 := (sym_ok hx).1
        refine (g_copied t far most sg out p1).bnd fun o q hq _ => ?_
        obtain ⟨r1, hq⟩ := hq
        have h2 := (copied_ok hq).1
        exact g_signs t near far most n (fun r => K r - 1) o q (by omega) fun r => by have := hK r; omega
      · obtain ⟨r0, hx⟩ := hx
        have h1 := (sym_ok hx).1
        exact g_signs t near far most n (fun r => K r - 1) _ p1 (by omega) fun r => by have := hK r; omega
    refine g.eq fun r hp => ?_
    obtain ⟨m, hm⟩ : ∃ m, K r = m + 1 := ⟨K r - 1, by have := hK r; omega⟩
    rw [hm, Nat.add_sub_cancel]
    conv => lhs; unfold signsF
    cases sym near r p with
    | error e => rfl
    | ok z =>
      obtain ⟨sg, p1⟩ := z
      dsimp only [bnd]
      by_cases c1 : sg = 256
      · rw [if_pos c1, if_pos c1]
      · rw [if_neg c1, if_neg c1]
        by_cases c2 : 256 < sg
        · rw [if_pos c2, if_pos c2]
          cases copied r far most sg out p1 <;> rfl
        · rw [if_neg c2, if_neg c2]
theorem g_block (t : ByteArray) (most : Nat) (kind : Int) (out : List UInt8) (p : Nat) : Good t p (fun r => block r most kind out p) := by
  have g : Good t p (fun r => if kind = 3 then .error 3 else if kind = 0 then stored r p out most else if kind = 2 then bnd (dynP r p) fun ab q => signsF r ab.1 ab.2 most (8 * r.size + 1) out q else signsF r fixL fixD most (8 * r.size + 1) out p) :=
    Good.ite (fun _ => Good.er t _ _) fun _ => Good.ite (fun _ => g_stored t p out most) fun _ => Good.ite (fun _ => (g_dyn t p).bnd fun ab q _ _ => g_signs t _ _ most (8 * t.size + 1) (fun r => 8 * r.size + 1) out q (by omega) fun r => by omega) fun _ => g_signs t _ _ most (8 * t.size + 1) (fun r => 8 * r.size + 1) out p (by omega) fun r => by omega
  refine g.eq fun r _ => ?_
  unfold block dynP
  by_cases c1 : kind = 3
  · rw [if_pos c1, if_pos c1]
  · rw [if_neg c1, if_neg c1]
    by_cases c2 : kind = 0
    · rw [if_pos c2, if_pos c2]
    · rw [if_neg c2, if_neg c2]
      by_cases c3 : kind = 2
      · rw [if_pos c3, if_pos c3]
        cases dyn r p <;> rfl
      · rw [if_neg c3, if_neg c3]
/-- Block after block: the position in bits. -/
def allQ (s : ByteArray) (most : Nat) : Nat → List UInt8 → Nat → Except Int (List UInt8 × Nat)
  | 0, _, _ => .error 0
  | k + 1, out, p => bnd (num s p 1) fun last p1 => bnd (num s p1 2) fun kind p2 => bnd (block s most kind out p2) fun o q => if last = 1 then .ok (o, q) else allQ s most k o q
theorem allF_Q (s : ByteArray) (most : Nat) : ∀ (k : Nat) (out : List UInt8) (p : Nat), allF s most k out p = match allQ s most k out p with
    | .error e => .error e
    | .ok (o, q) => .ok (o, (q + 7) / 8)
  | 0, _, _ => rfl
  | k + 1, out, p => by
    conv => lhs; unfold allF
    conv => rhs; unfold allQ
    cases num s p 1 with
    | error e => rfl
    | ok z =>
      obtain ⟨last, p1⟩ := z
      dsimp only [bnd]
      cases num s p1 2 with
      | error e => rfl
      | ok z =>
        obtain ⟨kind, p2⟩ := z
        dsimp only
        cases block s most kind out p2 with
        | error e => rfl
        | ok z =>
          obtain ⟨o, q⟩ := z
          dsimp only
          by_cases c : last = 1
          · rw [if_pos c, if_pos c]
          · rw [if_neg c, if_neg c]
            exact allF_Q s most k o q
theorem g_all (t : ByteArray) (most : Nat) : ∀ (n : Nat) (K : ByteArray → Nat) (out : List UInt8) (p : Nat), 8 * t.size < p + n → (∀ r, 8 * r.size < p + K r) → Good t p (fun r => allQ r most (K r) out p)
  | 0, K, out, p, h, _ => fun r hr hp => by have := hr.size; omega
  | n + 1, K, out, p, h, hK => by
    have g : Good t p (fun r => bnd (num r p 1) fun last p1 => bnd (num r p1 2) fun kind p2 => bnd (block r most kind out p2) fun o q => if last = 1 then .ok (o, q) else allQ r most (K r - 1) o q) := by
      refine (g_num t p 1).bnd fun last p1 h1 _ => (g_num t p1 2).bnd fun kind p2 h2 _ => (g_block t most kind out p2).bnd fun o q _ hq => Good.ite (fun _ => Good.ok t _ _) fun _ => ?_
      obtain ⟨r1, h1⟩ := h1
      obtain ⟨r2, h2⟩ := h2
      obtain ⟨_, rfl, _⟩ := num_ok h1
      obtain ⟨_, rfl, _⟩ := num_ok h2
      exact g_all t most n (fun r => K r - 1) o q (by omega) fun r => by have := hK r; omega
    refine g.eq fun r hp => ?_
    obtain ⟨m, hm⟩ : ∃ m, K r = m + 1 := ⟨K r - 1, by have := hK r; omega⟩
    rw [hm, Nat.add_sub_cancel]
    rfl
end Inf
end Go.Proofs.YtjkoafjnmkchdaaGreatDoor

/- Inflate: more room does not matter; errors are errors; InflateEnds. Condition: the laid variables. -/
namespace Go.Proofs.YtjkoafjnmkchdaaGreatDoor
namespace Inf
open Sh Bit
set_option linter.unusedVariables false
set_option linter.unusedSimpArgs false
set_option maxRecDepth 4000
set_option maxHeartbeats 1000000
section
variable {s : ByteArray} {m m' : Nat} (hm : m ≤ m')
theorem m_stored {p : Nat} {out : List UInt8} {r : List UInt8 × Nat} (hm : m ≤ m') (h : stored s p out m = .ok r) : stored s p out m' = .ok r := by
  unfold stored at h ⊢
  cases h1 : num s ((p + 7) / 8 * 8) 16 with
  | error e => rw [h1] at h; cases h
  | ok z =>
    obtain ⟨n, p1⟩ := z
    rw [h1] at h
    dsimp only at h ⊢
    cases h2 : num s p1 16 with
    | error e => rw [h2] at h; cases h
    | ok z =>
      obtain ⟨k, p2⟩ := z
      rw [h2] at h
      dsimp only at h ⊢
      by_cases c1 : k ≠ 65535 - n
      · rw [if_pos c1] at h; cases h
      · rw [if_neg c1] at h ⊢
        by_cases c2 : ¬ out.length + n.toNat ≤ m
        · rw [if_pos c2] at h; cases h
        · rw [if_neg c2] at h
          rw [if_neg (by omega)]
          exact h
theorem m_copied {far : List Int} {sg p : Nat} {out : List UInt8} {r : List UInt8 × Nat} (hm : m ≤ m') (h : copied s far m sg out p = .ok r) : copied s far m' sg out p = .ok r := by
  unfold copied at h ⊢
  by_cases c1 : 285 < sg
  · rw [if_pos c1] at h; cases h
  · rw [if_neg c1] at h ⊢
    cases h1 : num s p (moreL (sg - 257)) with
    | error e => rw [h1] at h; cases h
    | ok z =>
      obtain ⟨v, p1⟩ := z
      rw [h1] at h
      dsimp only at h ⊢
      cases h2 : sym far s p1 with
      | error e => rw [h2] at h; cases h
      | ok z =>
        obtain ⟨d, p2⟩ := z
        rw [h2] at h
        dsimp only at h ⊢
        by_cases c2 : 29 < d
        · rw [if_pos c2] at h; cases h
        · rw [if_neg c2] at h ⊢
          cases h3 : num s p2 (moreD d) with
          | error e => rw [h3] at h; cases h
          | ok z =>
            obtain ⟨x, p3⟩ := z
            rw [h3] at h
            dsimp only at h ⊢
            by_cases c3 : out.length < baseD d + x.toNat
            · rw [if_pos c3] at h; cases h
            · rw [if_neg c3] at h ⊢
              by_cases c4 : m < out.length + (firstL (sg - 257) + v.toNat)
              · rw [if_pos c4] at h; cases h
              · rw [if_neg c4] at h
                rw [if_neg (by omega)]
                exact h
theorem m_signs {near far : List Int} {r : List UInt8 × Nat} (hm : m ≤ m') : ∀ (k : Nat) (out : List UInt8) (p : Nat), signsF s near far m k out p = .ok r → signsF s near far m' k out p = .ok r
  | 0, _, _, h => by cases h
  | k + 1, out, p, h => by
    unfold signsF at h ⊢
    cases h1 : sym near s p with
    | error e => rw [h1] at h; cases h
    | ok z =>
      obtain ⟨sg, p1⟩ := z
      rw [h1] at h
      dsimp only at h ⊢
      by_cases c1 : sg = 256
      · rw [if_pos c1] at h ⊢; exact h
      · rw [if_neg c1] at h ⊢
        by_cases c2 : 256 < sg
        · rw [if_pos c2] at h ⊢
          cases h2 : copied s far m sg out p1 with
          | error e => rw [h2] at h; cases h
          | ok z =>
            obtain ⟨o, q⟩ := z
            rw [h2] at h
            rw [m_copied hm h2]
            exact m_signs hm k _ _ h
        · rw [if_neg c2] at h ⊢
          by_cases c3 : m ≤ out.length
          · rw [if_pos c3] at h; cases h
          · rw [if_neg c3] at h
            rw [if_neg (by omega)]
            exact m_signs hm k _ _ h
theorem m_block {kind : Int} {p : Nat} {out : List UInt8} {r : List UInt8 × Nat} (hm : m ≤ m') (h : block s m kind out p = .ok r) : block s m' kind out p = .ok r := by
  unfold block at h ⊢
  by_cases c1 : kind = 3
  · rw [if_pos c1] at h; cases h
  · rw [if_neg c1] at h ⊢
    by_cases c2 : kind = 0
    · rw [if_pos c2] at h ⊢; exact m_stored hm h
    · rw [if_neg c2] at h ⊢
      by_cases c3 : kind = 2
      · rw [if_pos c3] at h ⊢
        cases h1 : dyn s p with
        | error e => rw [h1] at h; cases h
        | ok z =>
          obtain ⟨a, b, q⟩ := z
          rw [h1] at h
          exact m_signs hm _ _ _ h
      · rw [if_neg c3] at h ⊢
        exact m_signs hm _ _ _ h
theorem m_all {r : List UInt8 × Nat} (hm : m ≤ m') : ∀ (k : Nat) (out : List UInt8) (p : Nat), allQ s m k out p = .ok r → allQ s m' k out p = .ok r
  | 0, _, _, h => by cases h
  | k + 1, out, p, h => by
    unfold allQ at h ⊢
    cases h1 : num s p 1 with
    | error e => rw [h1] at h; cases h
    | ok z =>
      obtain ⟨last, p1⟩ := z
      rw [h1] at h
      dsimp only [bnd] at h ⊢
      cases h2 : num s p1 2 with
      | error e => rw [h2] at h; cases h
      | ok z =>
        obtain ⟨kind, p2⟩ := z
        rw [h2] at h
        dsimp only at h ⊢
        cases h3 : block s m kind out p2 with
        | error e => rw [h3] at h; cases h
        | ok z =>
          obtain ⟨o, q⟩ := z
          rw [h3] at h
          rw [m_block hm h3]
          dsimp only at h ⊢
          by_cases c : last = 1
          · rw [if_pos c] at h ⊢; exact h
          · rw [if_neg c] at h ⊢
            exact m_all hm k _ _ h
/-! ### Errors are errors -/
theorem num_er {p n : Nat} {e : Int} (h : num s p n = .error e) : e = 4 := by
  unfold num at h
  split at h
  · cases h
  · cases h; rfl
theorem sgo_er {lens : List Int} {e : Int} : ∀ (k n : Nat) (c f : Int) (p : Nat), sgo lens s k n c f p = .error e → e = 4 ∨ e = 13
  | 0, n, c, f, p, h => by cases h; exact .inr rfl
  | k + 1, n, c, f, p, h => by
    unfold sgo at h
    split at h
    · cases h; exact .inl rfl
    · split at h
      · cases h
      · exact sgo_er k _ _ _ _ h
theorem sym_er {lens : List Int} {e : Int} {p : Nat} (h : sym lens s p = .error e) : e ≠ 0 := by
  have := sgo_er _ _ _ _ _ h
  omega
theorem stored_er {e : Int} {p : Nat} {out : List UInt8} (h : stored s p out m = .error e) : e ≠ 0 := by
  unfold stored at h
  cases h1 : num s ((p + 7) / 8 * 8) 16 with
  | error x => rw [h1] at h; cases h; have := num_er h1; omega
  | ok z =>
    obtain ⟨n, p1⟩ := z
    rw [h1] at h
    dsimp only at h
    cases h2 : num s p1 16 with
    | error x => rw [h2] at h; cases h; have := num_er h2; omega
    | ok z =>
      obtain ⟨k, p2⟩ := z
      rw [h2] at h
      dsimp only at h
      split at h
      · cases h; decide
      · split at h
        · cases h; decide
        · split at h
          · cases h; decide
          · cases h
theorem copied_er {far : List Int} {sg p : Nat} {out : List UInt8} {e : Int} (h : copied s far m sg out p = .error e) : e ≠ 0 := by
  unfold copied at h
  split at h
  · cases h; decide
  · cases h1 : num s p (moreL (sg - 257)) with
    | error x => rw [h1] at h; cases h; have := num_er h1; omega
    | ok z =>
      obtain ⟨v, p1⟩ := z
      rw [h1] at h
      dsimp only at h
      cases h2 : sym far s p1 with
      | error x => rw [h2] at h; cases h; exact sym_er h2
      | ok z =>
        obtain ⟨d, p2⟩ := z
        rw [h2] at h
        dsimp only at h
        split at h
        · cases h; decide
        · cases h3 : num s p2 (moreD d) with
          | error x => rw [h3] at h; cases h; have := num_er h3; omega
          | ok z =>
            obtain ⟨x, p3⟩ := z
            rw [h3] at h
            dsimp only at h
            split at h
            · cases h; decide
            · split at h
              · cases h; decide
              · cases h
theorem signs_er {near far : List Int} {e : Int} : ∀ (k : Nat) (out : List UInt8) (p : Nat), p ≤ 8 * s.size → 8 * s.size < p + k → signsF s near far m k out p = .error e → e ≠ 0
  | 0, _, _, hp, hk, h => by omega
  | k + 1, out, p, hp, hk, h => by
    unfold signsF at h
    cases h1 : sym near s p with
    | error x => rw [h1] at h; cases h; exact sym_er h1
    | ok z =>
      obtain ⟨sg, p1⟩ := z
      rw [h1] at h
      dsimp only at h
      obtain ⟨g1, g2, _⟩ := sym_ok h1
      split at h
      · cases h
      · split at h
        · cases h2 : copied s far m sg out p1 with
          | error x => rw [h2] at h; cases h; exact copied_er h2
          | ok z =>
            obtain ⟨o, q⟩ := z
            rw [h2] at h
            obtain ⟨c1, c2, _⟩ := copied_ok h2
            exact signs_er k o q c2 (by omega) h
        · split at h
          · cases h; decide
          · exact signs_er k _ p1 g2 (by omega) h
theorem lens19_er {e : Int} : ∀ (os : List Nat) (l : List Int) (p : Nat), lens19 s os l p = .error e → e ≠ 0
  | [], l, p, h => by cases h
  | o :: os, l, p, h => by
    unfold lens19 at h
    cases h1 : num s p 3 with
    | error x => rw [h1] at h; cases h; have := num_er h1; omega
    | ok z => rw [h1] at h; exact lens19_er os _ _ h
theorem lensF_er {lens : List Int} {many : Nat} {e : Int} : ∀ (k : Nat) (l : List Int) (p : Nat), many < l.length + k → l.length ≤ many → lensF lens s many k l p = .error e → e ≠ 0
  | 0, l, p, hk, hl, h => by omega
  | k + 1, l, p, hk, hl, h => by
    unfold lensF at h
    split at h
    · cases h
    · cases h1 : sym lens s p with
      | error x => rw [h1] at h; cases h; exact sym_er h1
      | ok z =>
        obtain ⟨sg, p1⟩ := z
        rw [h1] at h
        dsimp only at h
        split at h
        · exact lensF_er k _ _ (by rw [List.length_append]; simp; omega) (by rw [List.length_append]; simp; omega) h
        · split at h
          · cases h; decide
          · cases h2 : num s p1 (repB sg) with
            | error x => rw [h2] at h; cases h; have := num_er h2; omega
            | ok z =>
              obtain ⟨v, p2⟩ := z
              rw [h2] at h
              dsimp only at h
              have hL : 3 ≤ repL sg := by unfold repL; split <;> omega
              split at h
              · cases h; decide
              · exact lensF_er k _ _ (by rw [List.length_append, List.length_replicate]; omega) (by rw [List.length_append, List.length_replicate]; omega) h
theorem dyn_er {p : Nat} {e : Int} (h : dyn s p = .error e) : e ≠ 0 := by
  unfold dyn at h
  cases h1 : num s p 5 with
  | error x => rw [h1] at h; cases h; have := num_er h1; omega
  | ok z =>
    obtain ⟨hl, p1⟩ := z
    rw [h1] at h
    dsimp only at h
    split at h
    · cases h; decide
    · cases h2 : num s p1 5 with
      | error x => rw [h2] at h; cases h; have := num_er h2; omega
      | ok z =>
        obtain ⟨hd, p2⟩ := z
        rw [h2] at h
        dsimp only at h
        split at h
        · cases h; decide
        · cases h3 : num s p2 4 with
          | error x => rw [h3] at h; cases h; have := num_er h3; omega
          | ok z =>
            obtain ⟨hc, p3⟩ := z
            rw [h3] at h
            dsimp only at h
            cases h4 : lens19 s (order.take (hc.toNat + 4)) (List.replicate 19 0) p3 with
            | error x => rw [h4] at h; cases h; exact lens19_er _ _ _ h4
            | ok z =>
              obtain ⟨l19, p4⟩ := z
              rw [h4] at h
              dsimp only at h
              split at h
              · rename_i hc; cases h; exact hc
              · cases h5 : lensF l19 s (hl.toNat + 257 + (hd.toNat + 1)) (hl.toNat + 257 + (hd.toNat + 1) + 1) [] p4 with
                | error x => rw [h5] at h; cases h; exact lensF_er _ _ _ (by simp) (Nat.zero_le _) h5
                | ok z =>
                  obtain ⟨l, p5⟩ := z
                  rw [h5] at h
                  dsimp only at h
                  split at h
                  · cases h; decide
                  · split at h
                    · rename_i hc; cases h; exact hc
                    · split at h
                      · rename_i hc; cases h; exact hc
                      · cases h
theorem block_er {kind : Int} {p : Nat} {out : List UInt8} {e : Int} (hp : p ≤ 8 * s.size) (h : block s m kind out p = .error e) : e ≠ 0 := by
  unfold block at h
  split at h
  · cases h; decide
  · split at h
    · exact stored_er h
    · split at h
      · cases h1 : dyn s p with
        | error x => rw [h1] at h; cases h; exact dyn_er h1
        | ok z =>
          obtain ⟨a, b, q⟩ := z
          rw [h1] at h
          exact signs_er _ _ _ (dyn_ok hp h1).2 (by omega) h
      · exact signs_er _ _ _ hp (by omega) h
theorem all_er {e : Int} : ∀ (k : Nat) (out : List UInt8) (p : Nat), out.length ≤ m → p ≤ 8 * s.size → 8 * s.size < p + k → allQ s m k out p = .error e → e ≠ 0
  | 0, _, _, _, hp, hk, h => by omega
  | k + 1, out, p, ho, hp, hk, h => by
    unfold allQ at h
    cases h1 : num s p 1 with
    | error x => rw [h1] at h; cases h; have := num_er h1; omega
    | ok z =>
      obtain ⟨last, p1⟩ := z
      rw [h1] at h
      dsimp only [bnd] at h
      obtain ⟨_, _, rfl, a3⟩ := num_bd h1
      cases h2 : num s (p + 1) 2 with
      | error x => rw [h2] at h; cases h; have := num_er h2; omega
      | ok z =>
        obtain ⟨kind, p2⟩ := z
        rw [h2] at h
        dsimp only at h
        obtain ⟨_, _, rfl, b3⟩ := num_bd h2
        cases h3 : block s m kind out (p + 1 + 2) with
        | error x => rw [h3] at h; cases h; exact block_er b3 h3
        | ok z =>
          obtain ⟨o, q⟩ := z
          rw [h3] at h
          dsimp only at h
          obtain ⟨c1, c2, c3⟩ := block_ok b3 ho h3
          split at h
          · cases h
          · exact all_er k o q c3 c2 (by omega) h
theorem all_ok {o : List UInt8} {q : Nat} : ∀ (k : Nat) (out : List UInt8) (p : Nat), out.length ≤ m → p ≤ 8 * s.size → allQ s m k out p = .ok (o, q) → p < q ∧ q ≤ 8 * s.size ∧ o.length ≤ m
  | 0, _, _, _, _, h => by cases h
  | k + 1, out, p, ho, hp, h => by
    unfold allQ at h
    cases h1 : num s p 1 with
    | error x => rw [h1] at h; cases h
    | ok z =>
      obtain ⟨last, p1⟩ := z
      rw [h1] at h
      dsimp only [bnd] at h
      obtain ⟨_, _, rfl, a3⟩ := num_bd h1
      cases h2 : num s (p + 1) 2 with
      | error x => rw [h2] at h; cases h
      | ok z =>
        obtain ⟨kind, p2⟩ := z
        rw [h2] at h
        dsimp only at h
        obtain ⟨_, _, rfl, b3⟩ := num_bd h2
        cases h3 : block s m kind out (p + 1 + 2) with
        | error x => rw [h3] at h; cases h
        | ok z =>
          obtain ⟨o2, q2⟩ := z
          rw [h3] at h
          dsimp only at h
          obtain ⟨c1, c2, c3⟩ := block_ok b3 ho h3
          split at h
          · cases h; exact ⟨by omega, c2, c3⟩
          · obtain ⟨d1, d2, d3⟩ := all_ok k o2 q2 c3 c2 h
            exact ⟨by omega, d2, d3⟩
end
theorem allR_Q {s : ByteArray} {most : Int} (h : 0 ≤ most) : allR s most = match allQ s (min most 1048576).toNat (8 * s.size + 1) [] 0 with
    | .error e => (⟨#[]⟩, 0, e)
    | .ok (o, q) => (⟨o.toArray⟩, (((q + 7) / 8 : Nat) : Int), 0) := by
  unfold allR
  rw [if_neg (by omega), allF_Q]
  cases allQ s (min most 1048576).toNat (8 * s.size + 1) [] 0 <;> rfl
theorem allR_er {s : ByteArray} {most : Int} {d : ByteArray} {n e : Int} (h : (d, n, e) = allR s most) (he : e ≠ 0) : d = ⟨#[]⟩ ∧ n = 0 := by
  by_cases hm : most < 0
  · unfold allR at h
    rw [if_pos hm] at h
    cases h
    exact ⟨rfl, rfl⟩
  · rw [allR_Q (by omega)] at h
    cases hq : allQ s (min most 1048576).toNat (8 * s.size + 1) [] 0 with
    | error x => rw [hq] at h; cases h; exact ⟨rfl, rfl⟩
    | ok z => rw [hq] at h; cases h; exact absurd rfl he
/-- What follows does not matter, and what is cut off is missed. -/
theorem ends_plain {s : ByteArray} {most : Int} {d : ByteArray} {n : Int} (h : (d, n, 0) = allR s most) : ∃ u : Nat, n = (u : Int) ∧ 1 ≤ u ∧ u ≤ s.size ∧ (d.size : Int) ≤ most ∧
    (∀ (more : ByteArray) (b : Int), 0 ≤ b → allR (s.extract 0 u ++ more) (most + b) = (d, n, 0)) ∧ allR (s.extract 0 (u - 1)) most = (⟨#[]⟩, 0, 4) := by
  by_cases hm : most < 0
  · unfold allR at h
    rw [if_pos hm] at h
    cases h
  have hm0 : 0 ≤ most := by omega
  rw [allR_Q hm0] at h
  cases hq : allQ s (min most 1048576).toNat (8 * s.size + 1) [] 0 with
  | error x =>
    rw [hq] at h
    cases h
    exact absurd rfl (all_er _ _ _ (Nat.zero_le _) (Nat.zero_le _) (by omega) hq)
  | ok z =>
    obtain ⟨o, q⟩ := z
    rw [hq] at h
    obtain ⟨h1, h2⟩ := Prod.mk.inj h
    obtain ⟨h2, _⟩ := Prod.mk.inj h2
    obtain ⟨a1, a2, a3⟩ := all_ok _ _ _ (Nat.zero_le _) (Nat.zero_le _) hq
    have pre : ∀ u, u ≤ s.size → Pre (s.extract 0 u) s ∧ (s.extract 0 u).size = u := fun u hu => by
      refine ⟨⟨s.data.toList.drop u, ?_⟩, by rw [ByteArray.size_extract]; omega⟩
      rw [extract_list, List.drop_zero, Nat.sub_zero, List.take_append_drop]
    have K : ∀ r : ByteArray, 8 * r.size < 0 + (8 * r.size + 1) := fun r => by omega
    have hG := g_all s (min most 1048576).toNat (8 * s.size + 1) (fun r => 8 * r.size + 1) [] 0 (by omega) K
    have hu : (q + 7) / 8 ≤ s.size := by omega
    refine ⟨(q + 7) / 8, h2, by omega, hu, ?_, fun more b hb => ?_, ?_⟩
    · rw [h1]
      show ((o.toArray.size : Nat) : Int) ≤ most
      rw [List.size_toArray]
      omega
    · obtain ⟨p1, p2⟩ := pre _ hu
      have hR : allQ (s.extract 0 ((q + 7) / 8)) (min most 1048576).toNat (8 * (s.extract 0 ((q + 7) / 8)).size + 1) [] 0 = .ok (o, q) := by
        rcases ((hG _ p1 (Nat.zero_le _)).t o q hq).2 with e | e
        · exact e.2
        · omega
      have p3 : Pre (s.extract 0 ((q + 7) / 8)) (s.extract 0 ((q + 7) / 8) ++ more) := ⟨more.data.toList, by rw [ByteArray.data_append, Array.toList_append]⟩
      have hG2 := g_all (s.extract 0 ((q + 7) / 8) ++ more) (min most 1048576).toNat (8 * (s.extract 0 ((q + 7) / 8) ++ more).size + 1) (fun r => 8 * r.size + 1) [] 0 (by omega) K
      have hT := ((hG2 _ p3 (Nat.zero_le _)).r o q hR).1
      have hT2 := m_all (m' := (min (most + b) 1048576).toNat) (by omega) _ _ _ hT
      rw [allR_Q (by omega), hT2, h1, h2]
    · obtain ⟨p1, p2⟩ := pre ((q + 7) / 8 - 1) (by omega)
      rw [allR_Q hm0]
      rcases ((hG _ p1 (Nat.zero_le _)).t o q hq).2 with e | e
      · omega
      · have e2 := e.2
        dsimp only at e2
        rw [e2]
attribute [local irreducible] Ld St Nw Nn Lt LdS
end Inf
end Go.Proofs.YtjkoafjnmkchdaaGreatDoor

/- Numbers written bit by bit: plain laws, no program in sight. No condition. -/
namespace Go.Proofs.YtjkoafjnmkchdaaGreatDoor
namespace Bit
open Sh
set_option linter.unusedVariables false

/-- Where the next bit goes in its byte. -/
def pl (way : Int) (used : Nat) : Nat := if way = 1 then used else 7 - used
def grow (st : List UInt8 × Nat) : List UInt8 := if st.2 = 0 then st.1 ++ [0] else st.1
def lastN (l : List UInt8) : Nat := (l.getD (l.length - 1) 0).toNat
def addLast (l : List UInt8) (v : Nat) : List UInt8 := l.set (l.length - 1) (UInt8.ofNat (lastN l + v))
/-- What is written (the bytes; how many bits of the last are used), after one more bit. -/
def oneS (way : Int) (st : List UInt8 × Nat) (b : Nat) : List UInt8 × Nat := (addLast (grow st) (b * 2 ^ pl way st.2), (st.2 + 1) % 8)
/-- What stands in the bits that are not used yet: nothing. -/
structure WOK (way : Int) (st : List UInt8 × Nat) : Prop where
  lt : st.2 < 8
  ne : st.2 ≠ 0 → st.1 ≠ []
  low : st.2 ≠ 0 → way = 1 → lastN st.1 < 2 ^ st.2
  high : st.2 ≠ 0 → way ≠ 1 → ∃ k, lastN st.1 = k * 2 ^ (8 - st.2)
theorem WOK.zero (way : Int) (l : List UInt8) : WOK way (l, 0) := ⟨by omega, fun h => absurd rfl h, fun h => absurd rfl h, fun h => absurd rfl h⟩
theorem grow_ne {way : Int} {st : List UInt8 × Nat} (h : WOK way st) : grow st ≠ [] := by
  unfold grow
  split
  · simp
  · rename_i h0; exact h.ne h0
theorem lastN_lt (l : List UInt8) : lastN l < 256 := UInt8.toNat_lt _
theorem lastN_push (l : List UInt8) : lastN (l ++ [0]) = 0 := by simp [lastN]
theorem grow_low {st : List UInt8 × Nat} (h : WOK 1 st) : lastN (grow st) < 2 ^ st.2 := by
  unfold grow
  split
  · rename_i h0; rw [lastN_push, h0]; decide
  · rename_i h0; exact h.low h0 rfl
theorem grow_high {way : Int} {st : List UInt8 × Nat} (h : WOK way st) (hw : way ≠ 1) : ∃ k, lastN (grow st) = k * 2 ^ (8 - st.2) := by
  unfold grow
  split
  · exact ⟨0, by rw [lastN_push]; simp⟩
  · rename_i h0; exact h.high h0 hw
/-- The new byte is below 256, and or-ing is adding. -/
theorem place_new {way : Int} {st : List UInt8 × Nat} (h : WOK way st) {b : Nat} (hb : b ≤ 1) :
    lastN (grow st) + b * 2 ^ pl way st.2 < 256 ∧ lastN (grow st) ||| b * 2 ^ pl way st.2 = lastN (grow st) + b * 2 ^ pl way st.2 ∧ b * 2 ^ pl way st.2 < 256 := by
  have hlt := h.lt
  have h1 : b * 2 ^ pl way st.2 ≤ 1 * 2 ^ pl way st.2 := Nat.mul_le_mul_right _ hb
  by_cases hw : way = 1
  · subst hw
    have hx := grow_low h
    have hp : pl 1 st.2 = st.2 := by simp [pl]
    rw [hp] at h1 ⊢
    have h8 : 2 ^ (st.2 + 1) ≤ 2 ^ 8 := Nat.pow_le_pow_right (by decide) (by omega)
    rw [Nat.pow_succ] at h8
    exact ⟨by omega, or_shift hx, by omega⟩
  · obtain ⟨k, hk⟩ := grow_high h hw
    have hp : pl way st.2 = 7 - st.2 := by simp [pl, hw]
    have h256 := lastN_lt (grow st)
    rw [hp] at h1 ⊢
    have e8 : 8 - st.2 = 7 - st.2 + 1 := by omega
    have h8 : 2 ^ (8 - st.2) = 2 * 2 ^ (7 - st.2) := by rw [e8, Nat.pow_succ]; omega
    have e256 : 256 = 2 ^ (8 - st.2) * 2 ^ st.2 := by rw [← Nat.pow_add, show 8 - st.2 + st.2 = 8 by omega]
    have hk' : k < 2 ^ st.2 := by
      rw [hk, e256, Nat.mul_comm (2 ^ (8 - st.2))] at h256
      exact Nat.lt_of_mul_lt_mul_right h256
    have hsum : (k + 1) * 2 ^ (8 - st.2) ≤ 256 := by
      rw [e256, Nat.mul_comm (2 ^ (8 - st.2))]
      exact Nat.mul_le_mul_right _ hk'
    rw [Nat.add_mul] at hsum
    have hpos : 0 < 2 ^ (7 - st.2) := Nat.pow_pos (by decide)
    refine ⟨by omega, ?_, by omega⟩
    rw [hk, Nat.or_comm, or_shift (by rw [h8]; omega), Nat.add_comm]
theorem lastN_addLast {l : List UInt8} {v : Nat} (hl : l ≠ []) (hv : lastN l + v < 256) : lastN (addLast l v) = lastN l + v := by
  have : 0 < l.length := List.length_pos_iff.2 hl
  unfold lastN addLast at *
  rw [List.length_set]
  simp only [List.getD_eq_getElem?_getD, List.getElem?_set_self (show l.length - 1 < l.length by omega), Option.getD_some]
  simp only [UInt8.toNat_ofNat']
  exact Nat.mod_eq_of_lt hv
theorem WOK.one {way : Int} {st : List UInt8 × Nat} (h : WOK way st) {b : Nat} (hb : b ≤ 1) : WOK way (oneS way st b) := by
  have hn := grow_ne h
  obtain ⟨h1, _, _⟩ := place_new h hb
  have hl := lastN_addLast hn h1
  have hlt := h.lt
  have hle : b * 2 ^ pl way st.2 ≤ 1 * 2 ^ pl way st.2 := Nat.mul_le_mul_right _ hb
  refine ⟨Nat.mod_lt _ (by decide), fun _ => ?_, fun hu hw => ?_, fun hu hw => ?_⟩
  · intro e
    have : (addLast (grow st) (b * 2 ^ pl way st.2)).length = 0 := by
      show (oneS way st b).1.length = 0
      rw [e]; rfl
    unfold addLast at this
    rw [List.length_set] at this
    exact hn (List.eq_nil_of_length_eq_zero this)
  · show lastN (addLast (grow st) (b * 2 ^ pl way st.2)) < 2 ^ ((st.2 + 1) % 8)
    have hu' : (st.2 + 1) % 8 ≠ 0 := hu
    subst hw
    rw [hl, show (st.2 + 1) % 8 = st.2 + 1 by omega, Nat.pow_succ]
    have hx := grow_low h
    rw [show pl 1 st.2 = st.2 by simp [pl]] at hle ⊢
    omega
  · show ∃ k, lastN (addLast (grow st) (b * 2 ^ pl way st.2)) = k * 2 ^ (8 - (st.2 + 1) % 8)
    have hu' : (st.2 + 1) % 8 ≠ 0 := hu
    obtain ⟨k, hk⟩ := grow_high h hw
    rw [hl, hk, show (st.2 + 1) % 8 = st.2 + 1 by omega, show pl way st.2 = 7 - st.2 by simp [pl, hw], show 8 - (st.2 + 1) = 7 - st.2 by omega, show 8 - st.2 = 7 - st.2 + 1 by omega, Nat.pow_succ]
    exact ⟨k * 2 + b, by rw [Nat.add_mul, Nat.mul_assoc, Nat.mul_comm 2]⟩
/-- Bit i of the n that a number has, in the order of writing. -/
def vbit (way : Int) (v n i : Nat) : Nat := if way = 1 then v / 2 ^ i % 2 else v / 2 ^ (n - 1 - i) % 2
theorem vbit_le (way : Int) (v n i : Nat) : vbit way v n i ≤ 1 := by unfold vbit; split <;> omega
/-- After i of the n bits. -/
def putS (way : Int) (v n : Nat) (st : List UInt8 × Nat) : Nat → List UInt8 × Nat
  | 0 => st
  | i + 1 => oneS way (putS way v n st i) (vbit way v n i)
theorem WOK.put {way : Int} {st : List UInt8 × Nat} (h : WOK way st) (v n : Nat) : ∀ i, WOK way (putS way v n st i)
  | 0 => h
  | i + 1 => (h.put v n i).one (vbit_le _ _ _ _)
theorem grow_len (st : List UInt8 × Nat) : (grow st).length ≤ st.1.length + 1 := by unfold grow; split <;> simp
theorem oneS_len (way : Int) (st : List UInt8 × Nat) (b : Nat) : (oneS way st b).1.length = (grow st).length := by unfold oneS addLast; simp
theorem putS_len (way : Int) (v n : Nat) (st : List UInt8 × Nat) : ∀ i, (putS way v n st i).1.length ≤ st.1.length + i
  | 0 => Nat.le_refl _
  | i + 1 => by
    have := putS_len way v n st i
    have h2 := grow_len (putS way v n st i)
    show (oneS way _ _).1.length ≤ _
    rw [oneS_len]
    omega
/-- What Low and High of a writer answer: the error, what is written now, the order. -/
def putR (way : Int) (st : List UInt8 × Nat) (v n w' : Int) : Int × (List UInt8 × Nat) × Int :=
  if n < 0 ∨ 24 < n ∨ v < 0 ∨ 2 ^ n.toNat ≤ v ∨ (way ≠ 0 ∧ way ≠ w') then (1, st, way)
  else (0, putS w' v.toNat n.toNat st n.toNat, if 0 < n then w' else way)
theorem putR_arg {way : Int} {st : List UInt8 × Nat} {v n w' : Int} (h : n < 0 ∨ 24 < n ∨ v < 0 ∨ 2 ^ n.toNat ≤ v ∨ (way ≠ 0 ∧ way ≠ w')) : putR way st v n w' = (1, st, way) := if_pos h
theorem putR_ok {way : Int} {st : List UInt8 × Nat} {v n w' : Int} (h : ¬ (n < 0 ∨ 24 < n ∨ v < 0 ∨ 2 ^ n.toNat ≤ v ∨ (way ≠ 0 ∧ way ≠ w'))) :
    putR way st v n w' = (0, putS w' v.toNat n.toNat st n.toNat, if 0 < n then w' else way) := if_neg h
/-- What holds of a writer between calls. -/
structure WInv (way : Int) (st : List UInt8 × Nat) : Prop where
  ok : WOK way st
  none : way = 0 → st.2 = 0
theorem WInv.to {way : Int} {st : List UInt8 × Nat} (h : WInv way st) {w' : Int} (hn : ¬ (way ≠ 0 ∧ way ≠ w')) : WOK w' st := by
  by_cases hw : way = 0
  · obtain ⟨l, u⟩ := st
    have : u = 0 := h.none hw
    subst this
    exact WOK.zero _ _
  · have : way = w' := by
      by_cases e : way = w'
      · exact e
      · exact absurd ⟨hw, e⟩ hn
    exact this ▸ h.ok
theorem WInv.zero (l : List UInt8) : WInv 0 (l, 0) := ⟨WOK.zero _ _, fun _ => rfl⟩
theorem WInv.put {way : Int} {st : List UInt8 × Nat} (h : WInv way st) (v n : Int) {w' : Int} (hw : w' ≠ 0) : WInv (putR way st v n w').2.2 (putR way st v n w').2.1 := by
  by_cases hc : n < 0 ∨ 24 < n ∨ v < 0 ∨ 2 ^ n.toNat ≤ v ∨ (way ≠ 0 ∧ way ≠ w')
  · rw [putR_arg hc]; exact h
  · rw [putR_ok hc]
    dsimp only
    split
    · exact ⟨(h.to (by omega)).put _ _ _, fun e => absurd e hw⟩
    · have : n.toNat = 0 := by omega
      rw [this]
      exact h
theorem putR_len (way : Int) (st : List UInt8 × Nat) (v n w' : Int) : (putR way st v n w').2.1.1.length ≤ st.1.length + 24 := by
  unfold putR
  split
  · dsimp only; omega
  · dsimp only
    have := putS_len w' v.toNat n.toNat st n.toNat
    omega
theorem vbit_low (v i : Nat) (hv : v < 16777216) : iand .i64 (Int.fdiv (v : Int) (2 ^ i)) 1 = ((v / 2 ^ i % 2 : Nat) : Int) := by
  have h := @ediv_pow_bd (v : Int) i (by omega)
  rw [fdiv_pow, iand_one h.1 (by omega)]
  simp
end Bit
end Go.Proofs.YtjkoafjnmkchdaaGreatDoor
