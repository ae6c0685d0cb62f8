/- Inflate: InflateCopies. Condition: the laid variables. -/
import Derived.Test.YtapgacggllbhiaaDoorInY
import Derived.Test.YtapgacggllbhiaaDoorInW
import Derived.Test.YtapgacggllbhiaaDoorApM
namespace Go.Proofs.YtapgacggllbhiaaDoor
namespace Inf
open Sh Bit
set_option linter.unusedVariables false
set_option linter.unusedSimpArgs false
set_option maxRecDepth 4000
set_option maxHeartbeats 2000000
/-- A list of pairs. -/
def PV (w : World) (s : Slc) (L : List (Int × Int)) : Prop := s.len = L.length ∧ ∀ i q, L[i]? = some q → ∃ a, s.p = some a ∧ w.cell? (a.add (i * 2)) = some (.int .i64 q.1) ∧ w.cell? ((a.add (i * 2)).add 1) = some (.int .i64 q.2)
theorem PV.keep {w w' : World} {s : Slc} {L : List (Int × Int)} (h : PV w s L) (he : Ext (fun _ => False) w w') : PV w' s L := ⟨h.1, fun i q hq => by
  obtain ⟨a, h1, h2, h3⟩ := h.2 i q hq
  exact ⟨a, h1, he.cell_same h2, he.cell_same h3⟩⟩
/-- What the walk carries: two tables, a writer. -/
structure CW (w0 w : World) (h l1 h1 b1 l2 h2 b2 wb : Nat) (ws : Slc) (st : WS) : Prop where
  near : TB w l1 h1 b1 fixL
  far : TB w l2 h2 b2 fixD
  wr : WrB w wb ws 1 st
  up : ∀ j, fp wb ws j → h ≤ j
  ext : Ext (fun _ => False) w0 w
  b1 : h1 ≤ h
  b2 : h2 ≤ h
  b0 : w0.heap.size ≤ h
  b3 : h ≤ w.heap.size
section
variable {w0 w w1 : World} {h l1 h1 b1 l2 h2 b2 wb : Nat} {ws ws' : Slc} {st st' : WS}
theorem CW.wn (k : CW w0 w h l1 h1 b1 l2 h2 b2 wb ws st) (hw : WrB w1 wb ws' 1 st') (hn : Wn w w1 wb ws ws') : CW w0 w1 h l1 h1 b1 l2 h2 b2 wb ws' st' := by
  have z := hn.ext.size
  have := k.b1
  have := k.b2
  have := k.b0
  have := k.b3
  refine ⟨k.near.keep hn.ext fun j _ hj hf => ?_, k.far.keep hn.ext fun j _ hj hf => ?_, hw, fun j hj => ?_, k.ext.trans hn.ext (fun _ h => h) fun i hi hf => ?_, k.b1, k.b2, k.b0, by omega⟩
  · have := k.up j hf; omega
  · have := k.up j hf; omega
  · rcases hj with e | hj
    · exact k.up j (.inl e)
    · rcases hn.new j hj with e | e
      · exact k.up j (.inr e)
      · omega
  · have := k.up i hf; omega
theorem CW.other {F : Nat → Prop} (k : CW w0 w h l1 h1 b1 l2 h2 b2 wb ws st) (he : Ext F w w1) (hF : ∀ j, F j → h ≤ j ∧ ¬ fp wb ws j) : CW w0 w1 h l1 h1 b1 l2 h2 b2 wb ws st := by
  have z := he.size
  have := k.b1
  have := k.b2
  have := k.b0
  have := k.b3
  refine ⟨k.near.keep he fun j _ hj hf => ?_, k.far.keep he fun j _ hj hf => ?_, k.wr.keep he fun j hj hf => (hF j hf).2 hj, k.up, k.ext.trans he (fun _ h => h) fun i hi hf => ?_, k.b1, k.b2, k.b0, by omega⟩
  · have := (hF j hf).1; omega
  · have := (hF j hf).1; omega
  · have := (hF i hf).1; omega
theorem CW.keep (k : CW w0 w h l1 h1 b1 l2 h2 b2 wb ws st) (he : Ext (fun _ => False) w w1) : CW w0 w1 h l1 h1 b1 l2 h2 b2 wb ws st := k.other he fun _ e => e.elim
theorem CW.sep1 (k : CW w0 w h l1 h1 b1 l2 h2 b2 wb ws st) : ∀ j, fp wb ws j → j < l1 ∨ h1 ≤ j := fun j hj => by have := k.up j hj; have := k.b1; omega
theorem CW.sep2 (k : CW w0 w h l1 h1 b1 l2 h2 b2 wb ws st) : ∀ j, fp wb ws j → j < l2 ∨ h2 ≤ j := fun j hj => by have := k.up j hj; have := k.b2; omega
/-- Where the output lies. -/
def OO (h wb : Nat) (ws o : Slc) : Prop := ∀ j, o.own j → h ≤ j ∧ ¬ fp wb ws j
theorem OO.wn {o : Slc} {all : List UInt8} (k : OO h wb ws o) (hm : MRow w o all) (hn : Wn w w1 wb ws ws') : OO h wb ws' o := fun j hj => ⟨(k j hj).1, fun hf => by
  rcases hf with e | hf
  · exact (k j hj).2 (.inl e)
  · rcases hn.new j hf with e | e
    · exact (k j hj).2 (.inr e)
    · have := hm.own_lt hj; omega⟩
end
theorem copy_get (out : List UInt8) (d n : Nat) (h1 : 1 ≤ d) (h2 : d ≤ out.length) : (copy out d n)[out.length + n - d]? = some ((copy out d n).getD ((copy out d n).length - d) 0) := by
  rw [copy_len]
  have : out.length + n - d < (copy out d n).length := by rw [copy_len]; omega
  rw [List.getD_eq_getElem?_getD, List.getElem?_eq_getElem this]
  rfl
attribute [local irreducible] Ld St Nw Nn Lt LdS
theorem copies_law {w : World} {N : Nat} {cs : Slc} {L : List (Int × Int)} (hL : Laid N w) (s : ByteArray) (hv : PV w cs L) : C7 s cs w (fun r w1 => r = true ∧ Ext (fun _ => False) w w1) fun _ _ => False := by
  refine T7 _ _ _ _ _ ?_
  unfold S7
  refine (c_lives hL).mono ?_ fun _ _ h => h
  rintro r w1 ⟨rfl, e1⟩
  rw [hv.1]
  refine Br.f rfl (Br.dec (fun _ => ⟨rfl, e1⟩) fun hs => Br.dec (fun _ => ⟨rfl, e1⟩) fun h20 => ?_)
  refine (c_Fixed w1).mono ?_ fun _ _ h => h.elim
  rintro a b w2 ⟨va, vb, e2⟩
  refine (Inf.c_new va).mono ?_
  rintro r10 r11 w3 ⟨rfl, e3, _, t1⟩
  obtain ⟨b1, rfl, tA⟩ := t1 chk_fixL
  refine (Inf.c_new (vb.keep e3)).mono ?_
  rintro r13 r14 w4 ⟨rfl, e4, _, t2⟩
  obtain ⟨b2, rfl, tB⟩ := t2 chk_fixD
  refine (Bit.c_new w4).mono ?_
  rintro r16 w5 ⟨rfl, hw, e5⟩
  rw [chk_fixL, chk_fixD]
  refine Br.f rfl (Br.f rfl (Br.f rfl (Br.f rfl (Br.f rfl ?_))))
  have z3 := e3.size
  have z4 := e4.size
  have z5 := e5.size
  have E5 := e1.tr (e2.tr (e3.tr (e4.tr e5)))
  have own0 : ∀ j, ¬ (⟨none, 0, 0⟩ : Slc).own j := fun j hj => by obtain ⟨a, ha, _⟩ := hj; cases ha
  refine (c_wlow hw (WInv.zero []) (by simp) 1 1).mono ?_
  rw [show putR 0 ([], 0) 1 1 1 = (0, lw ([], 0) 1 1, 1) from put_low (way := 0) (v := 1) (n := 1) (.inl rfl) (by decide) (by omega)]
  rintro r w6 ⟨rfl, ws6, hw6, n6⟩
  have ok6 := lw_ok (WOK.zero 1 []) 1 1
  refine Br.f rfl ((c_wlow hw6 ⟨ok6, fun hh => by cases hh⟩ (by have := lw_len ([], 0) 1 1; simp at this; show (lw ([], 0) 1 1).1.length ≤ _; omega) 1 2).mono ?_)
  rw [show putR 1 (lw ([], 0) 1 1) 1 2 1 = (0, lw (lw ([], 0) 1 1) 1 2, 1) from put_low (way := 1) (v := 1) (n := 2) (.inr rfl) (by decide) (by omega)]
  rintro r w7 ⟨rfl, ws7, hw7, n7⟩
  refine Br.f rfl ?_
  have n67 := n6.trans n7
  have C7 : CW w w7 w4.heap.size w2.heap.size w3.heap.size b1 w3.heap.size w4.heap.size b2 w4.heap.size ws7 (lw (lw ([], 0) 1 1) 1 2) := by
    have z1 := e1.size
    have z2 := e2.size
    have z7 := n67.ext.size
    have hnf : ∀ j, fp w4.heap.size ⟨none, 0, 0⟩ j → w4.heap.size ≤ j := fun j hj => by
      rcases hj with e | hj
      · omega
      · exact absurd hj (own0 j)
    refine ⟨((tA.keep e4 fun _ _ _ h => h).keep e5 fun _ _ _ h => h).keep n67.ext fun j _ hj hf => ?_, (tB.keep e5 fun _ _ _ h => h).keep n67.ext fun j _ hj hf => ?_, hw7, fun j hj => ?_, E5.trans n67.ext (fun _ h => h) fun i hi hf => ?_, z4, Nat.le_refl _, by omega, by omega⟩
    · have := hnf j hf; omega
    · have := hnf j hf; omega
    · rcases hj with e | hj
      · omega
      · rcases n67.new j hj with e | e
        · exact absurd e (own0 j)
        · omega
    · have := hnf i hf; omega
  have L7 : (lw (lw ([], 0) 1 1) 1 2).1.length ≤ 3 := by
    have h1 := lw_len ([], 0) 1 1
    have h2 := lw_len (lw ([], 0) 1 1) 1 2
    simp at h1
    omega
  have cfl := chk_lok chk_fixL
  have cfd := chk_lok chk_fixD
  have nearG : ∀ g, g < 288 → ∃ n : Nat, fixL.getD g 0 = (n : Int) ∧ 0 < n := fun g hg => by
    have := fixL_get g hg
    exact ⟨(fixL.getD g 0).toNat, by omega, by omega⟩
  refine ⟨fun n st w8 => ∃ (i : Nat) (ws : Slc) (S : WS), st = (i : Int) ∧ i ≤ s.size ∧ n = s.size - i ∧ CW w w8 w4.heap.size w2.heap.size w3.heap.size b1 w3.heap.size w4.heap.size b2 w4.heap.size ws S ∧ EN S (s.data.toList.take i) ∧ S.1.length ≤ 3 + 15 * i, s.size, ⟨0, ws7, _, rfl, by omega, rfl, C7, by simpa using EN.zero, by omega⟩, ?_⟩
  rintro n st w8 ⟨i, ws, S, rfl, hi, rfl, C8, N8, L8⟩
  unfold S7L3
  have hsl : s.size = s.data.toList.length := size_list s
  refine Br.dec (fun q => ⟨by omega, by omega, ?_⟩) fun q => ?_
  · have hlt : i < s.size := by omega
    rw [bAt_list]
    have hb := (s.data.toList.getD i 0).toNat_lt
    rw [i64_id (by omega)]
    obtain ⟨n, hn, h0⟩ := nearG (s.data.toList.getD i 0).toNat (by omega)
    refine (c_write C8.near chk_fixL C8.wr ⟨N8.ok, fun hh => by cases hh⟩ (.inr rfl) (by omega) C8.sep1 (by rw [fixL_len]; omega) hn h0).mono ?_
    rintro r w9 ⟨rfl, ws9, hw9, n9⟩
    have hl9 := cw_len (st := S) cfl (s.data.toList.getD i 0).toNat
    refine Br.f rfl ⟨s.size - (i + 1), by omega, i + 1, ws9, _, by rw [i64_id (by omega)]; rfl, by omega, rfl, C8.wn hw9 n9, ?_, by omega⟩
    have := N8.lit (b := s.data.toList.getD i 0)
    rw [List.take_add_one]
    have e : s.data.toList[i]?.toList = [s.data.toList.getD i 0] := by
      rw [List.getD_eq_getElem?_getD, List.getElem?_eq_getElem (by omega)]
      rfl
    rw [e]
    exact this
  have : i = s.size := by omega
  subst this
  rw [hsl, List.take_length] at N8
  obtain ⟨o, w9, hrun, hM, e9, own9⟩ := bytes_strM w8 s
  refine ⟨o, w9, hrun, ?_⟩
  have C9 := C8.keep e9
  have O9 : OO w4.heap.size w4.heap.size ws o := fun j hj => ⟨by have := own9 j hj; have := C8.b3; omega, fun hf => by have := own9 j hj; have := C8.wr.lt j hf; omega⟩
  refine ⟨fun n st w10 => ∃ (j : Nat) (o : Slc) (all : List UInt8) (ws : Slc) (S : WS), st = (o, (j : Int)) ∧ j ≤ L.length ∧ n = L.length - j ∧ CW w w10 w4.heap.size w2.heap.size w3.heap.size b1 w3.heap.size w4.heap.size b2 w4.heap.size ws S ∧ EN S all ∧ S.1.length ≤ 3003 + 50 * j ∧ MRow w10 o all ∧ OO w4.heap.size w4.heap.size ws o ∧ all.length ≤ 200 + 258 * j, L.length,
    ⟨0, o, _, ws, S, rfl, by omega, rfl, C9, N8, by omega, hM, O9, by omega⟩, ?_⟩
  rintro n st w10 ⟨j, o, all, ws, S, rfl, hj, rfl, C10, N10, L10, M10, O10, A10⟩
  unfold S7L2
  dsimp only
  rw [hv.1]
  have hol : o.len = all.length := M10.1
  refine Br.dec (fun q => ⟨by omega, by omega, ?_⟩) fun q => ?_
  · have hjl : j < L.length := by omega
    obtain ⟨p, hp, k1, k2⟩ := (hv.keep C10.ext).2 j L[j] (List.getElem?_eq_getElem hjl)
    rw [hp, Int.toNat_natCast]
    refine Nn.of (Ld.mk k1 (Ld.mk k2 ?_))
    generalize L[j].1 = c0
    generalize L[j].2 = c1
    refine (Hn.start w10).nw fun w11 H => ?_
    simp only [List.nil_append] at H
    iterate 2 (refine H.st 0 rfl (by simp) fun _ H => ?_; simp only [List.nil_append, List.cons_append, List.set_cons_zero, List.set_cons_succ, Nat.zero_add] at H)
    have E13 := H.ext
    have hB := H.get 0 rfl
    rename_i w13
    have C13 := C10.keep E13
    have M13 := M10.keep E13 fun _ _ h => h
    iterate 1 refine H.ld 0 rfl rfl ?_
    refine Br.dec (fun _ => ⟨rfl, C13.ext⟩) fun g1 => ?_
    iterate 1 refine H.ld 0 rfl rfl ?_
    refine Br.dec (fun _ => ⟨rfl, C13.ext⟩) fun g2 => ?_
    iterate 1 refine H.ld 0 rfl rfl ?_
    refine Br.dec (fun _ => ⟨rfl, C13.ext⟩) fun g3 => ?_
    iterate 1 refine H.ld 0 rfl rfl ?_
    rw [hol]
    refine Br.dec (fun _ => ⟨rfl, C13.ext⟩) fun g4 => ?_
    iterate 1 refine H.ld 0 rfl rfl ?_
    obtain ⟨n, rfl⟩ := Int.eq_ofNat_of_zero_le (show 0 ≤ c0 by omega)
    obtain ⟨D, rfl⟩ := Int.eq_ofNat_of_zero_le (show 0 ≤ c1 by omega)
    obtain ⟨k0, kl, kv1, kv2⟩ := len_cover n (by omega) 28 (Nat.le_refl _) (by have : baseL 28 = 259 := by decide +kernel
                                                                               omega)
    obtain ⟨d0, dl, dv1, dv2⟩ := far_cover D (by omega) 30 (by have : baseD 30 = 32769 := by decide +kernel
                                                               omega)
    refine (c_sized C13.near C13.wr N10.ok (by omega) C13.sep1 (by omega) kv1 kv2).mono ?_
    rintro r w14 ⟨rfl, ws14, k, x, hk28, hx, hkx, hw14, n14⟩
    have C14 := C13.wn hw14 n14
    have M14 := M13.keep n14.ext fun j hj hf => (O10 j hj).2 hf
    have O14 := O10.wn M13 n14
    have hbf : ¬ fp w4.heap.size ws w10.heap.size := fun hf => by have := C10.wr.lt _ hf; omega
    have hB14 := n14.ext.blk hB hbf
    have okS := lw_ok (cw_ok (lens := fixL) N10.ok (257 + k)) x (moreL k)
    have lS1 := cw_len (st := S) cfl (257 + k)
    have lS2 := lw_len (cw fixL S (257 + k)) x (moreL k)
    have hml : moreL k ≤ 5 := by unfold moreL; split <;> omega
    refine Br.f rfl ?_
    simp only [add_lit, Nat.zero_add]
    refine Ld.of hB14 (o := 1) (x := (D : Int)) rfl ?_
    refine (c_backed C14.far C14.wr okS (by omega) C14.sep2 (by omega) dv1 dv2).mono ?_
    rintro r w15 ⟨rfl, ws15, d, y, hd29, hy, hdy, hw15, n15⟩
    have C15 := C14.wn hw15 n15
    have M15 := M14.keep n15.ext fun j hj hf => (O14 j hj).2 hf
    have O15 := O14.wn M14 n15
    have hbf15 : ¬ fp w4.heap.size ws14 w10.heap.size := fun hf => by
      rcases hf with e | hf
      · exact hbf (.inl e)
      · rcases n14.new _ hf with e | e
        · exact hbf (.inr e)
        · have := hB.lt; omega
    have hB15 := n15.ext.blk hB14 hbf15
    have lS3 := cw_len (st := lw (cw fixL S (257 + k)) x (moreL k)) cfd d
    have lS4 := lw_len (cw fixD (lw (cw fixL S (257 + k)) x (moreL k)) d) y (moreD d)
    have hmd : moreD d ≤ 14 := by unfold moreD; omega
    have N15 := N10.cpy hk28 hx hd29 hy (by omega)
    rw [hkx, hdy] at N15
    refine Br.f rfl ?_
    have hb10 := hB15.lt
    refine ⟨fun m st w16 => ∃ (t : Nat) (o : Slc), st = (o, (t : Int)) ∧ t ≤ n ∧ m = n - t ∧ CW w w16 w4.heap.size w2.heap.size w3.heap.size b1 w3.heap.size w4.heap.size b2 w4.heap.size ws15 _ ∧ MRow w16 o (copy all D t) ∧ OO w4.heap.size w4.heap.size ws15 o ∧ Blk w16 w10.heap.size #[.int .i64 (n : Int), .int .i64 (D : Int)] 45 ∧ ¬ o.own w10.heap.size, n, ⟨0, o, rfl, by omega, rfl, C15, M15, O15, hB15, fun hh => by have := M10.own_lt hh; omega⟩, ?_⟩
    rintro m st w16 ⟨t, o, rfl, ht, rfl, C16, M16, O16, B16, NO⟩
    unfold S7L1
    dsimp only
    have hl16 : o.len = all.length + t := by rw [M16.1, copy_len]
    refine Ld.of B16 (o := 0) (x := (n : Int)) rfl (Br.dec (fun q1 => ?_) fun q1 => ?_)
    · simp only [add_lit, Nat.zero_add]
      refine Ld.of B16 (o := 1) (x := (D : Int)) rfl ?_
      rw [hl16, i64_id (by omega), show ((all.length + t : Nat) : Int) - (D : Int) = ((all.length + t - D : Nat) : Int) by omega]
      obtain ⟨g, hg, hc⟩ := M16.toR.get (copy_get all D t (by omega) (by omega))
      rw [hg]
      refine ⟨by omega, by omega, Nn.of ?_⟩
      simp only [add_lit, Int.toNat_natCast, Nat.mul_one, Nat.zero_add]
      refine Ld.mk hc (Nw.of ?_)
      have e17 : Ext (fun _ => False) w16 (w16.alloc (.cells #[.int .u8 (((copy all D t).getD ((copy all D t).length - D) 0).toNat : Int)] 5)) := (Ext.refl _ _).alloc _
      obtain ⟨o2, w18, hrun, M18, e18, own18⟩ := app_oneM (ty := 34) (M16.keep e17 fun _ _ h => h) (Blk.new w16 _ _) (by rw [copy_len]; omega)
      refine ⟨o2, w18, hrun, n - (t + 1), by omega, t + 1, o2, by rw [i64_id (by omega)]; rfl, by omega, rfl, (C16.keep e17).other e18 fun j hj => O16 j hj, M18, fun j hj => ?_, (e18.blk (e17.blk B16 fun h => h) NO), fun hh => ?_⟩
      · rcases own18 j hj with hh | hh
        · exact O16 j hh
        · have z17 := e17.size
          exact ⟨by have := C16.b3; omega, fun hf => by have := C16.wr.lt j hf; omega⟩
      · rcases own18 _ hh with hh | hh
        · exact NO hh
        · have := B16.lt; have z17 := e17.size; omega
    · have : t = n := by omega
      subst this
      exact ⟨L.length - (j + 1), by omega, j + 1, o, _, ws15, _, by rw [i64_id (by omega)]; rfl, by omega, rfl, C16, N15, by omega, M16, O16, by rw [copy_len]; omega⟩
  · obtain ⟨n, hn, h0⟩ := nearG 256 (by omega)
    refine (c_write C10.near chk_fixL C10.wr ⟨N10.ok, fun hh => by cases hh⟩ (.inr rfl) (by omega) C10.sep1 (g := 256) (by rw [fixL_len]; omega) hn h0).mono ?_
    rintro r w11 ⟨rfl, ws11, hw11, n11⟩
    have C11 := C10.wn hw11 n11
    have M11 := M10.keep n11.ext fun j hj hf => (O10 j hj).2 hf
    have O11 := O10.wn M10 n11
    have hl11 := cw_len (st := S) cfl 256
    refine Br.f rfl ((c_walign hw11).mono ?_)
    rintro w12 ⟨hw12, e12⟩
    have M12 := M11.keep e12 fun j hj hf => (O11 j hj).2 (.inl hf)
    have E12 : Ext (fun _ => False) w w12 := C11.ext.trans e12 (fun _ h => h) fun i hi hf => by have := C11.up i (.inl hf); have := C11.b0; omega
    refine (c_wtext hw12 (by show (cw fixL S 256).1.length ≤ _; omega)).mono ?_
    rintro T w13 ⟨rfl, e13⟩
    have E13 := E12.tr e13
    obtain ⟨F1, F2⟩ := N10.fin rfl (by omega)
    have hsz : (⟨(cw fixL S 256).1.toArray⟩ : ByteArray).size = (cw fixL S 256).1.length := by show (cw fixL S 256).1.toArray.size = _; simp
    rw [hol]
    refine (c_All (N := N) (by show (⟨(cw fixL S 256).1.toArray⟩ : ByteArray).size ≤ _; omega) (hL.no E13) _).mono ?_
    rintro d n1 x1 w14 ⟨g1, e14⟩
    rw [show (((cw fixL S 256).1, 0) : WS).1 = (cw fixL S 256).1 from rfl] at g1
    rw [F1] at g1
    obtain ⟨q1, g1⟩ := Prod.mk.inj g1
    obtain ⟨q2, q3⟩ := Prod.mk.inj g1
    subst q1
    subst q2
    subst q3
    have E14 := E13.tr e14
    rw [i64_id (n := ((all.length : Nat) : Int) - 1) (by omega)]
    refine (c_All (N := N) (by show (⟨(cw fixL S 256).1.toArray⟩ : ByteArray).size ≤ _; omega) (hL.no E14) _).mono ?_
    rintro d2 n2 x2 w15 ⟨g2, e15⟩
    have E15 := E14.tr e15
    refine ⟨_, _, str_rrow (((M12.keep e13 fun _ _ h => h).keep e14 fun _ _ h => h).keep e15 fun _ _ h => h).toR, ?_⟩
    refine Br.t (by simp) (Br.t (by rw [hsz]; simp) (Br.t rfl (Br.eq (fun q0 => ?_) fun q0 => ?_)))
    · have h0 : all.length = 0 := by omega
      have : allR ⟨(cw fixL S 256).1.toArray⟩ (((all.length : Nat) : Int) - 1) = (⟨#[]⟩, 0, 1) := by
        unfold allR
        rw [if_pos (by omega)]
      have g2' := g2.trans this
      obtain ⟨_, g2'⟩ := Prod.mk.inj g2'
      obtain ⟨_, rfl⟩ := Prod.mk.inj g2'
      exact Br.t rfl ⟨rfl, E15⟩
    · have g2' := g2.trans (F2 (by omega))
      obtain ⟨_, g2'⟩ := Prod.mk.inj g2'
      obtain ⟨_, rfl⟩ := Prod.mk.inj g2'
      exact Br.t (by simp; omega) ⟨rfl, E15⟩
/-! ### The argument -/
theorem undPair : Tryd.prog.underlying 45 = some (.array 2 3) := by kernel_rfl
theorem undInt : Tryd.prog.underlying 3 = some (.int .i64) := by kernel_rfl
theorem undPairs : Tryd.prog.underlying 37 = some (.slice 45) := by kernel_rfl
theorem pair_rd {w : World} {n : Nat} {cs : List Value} (hl : cs.length = 2) (hn : RdC Tryd.prog w n 45 cs) : ∃ o : Int × Int, cs = [.int .i64 o.1, .int .i64 o.2] := by
  obtain ⟨c0, c1, rfl⟩ : ∃ c0 c1, cs = [c0, c1] := by
    match cs, hl with
    | [c0, c1], _ => exact ⟨c0, c1, rfl⟩
  obtain ⟨x0, rfl, _⟩ := leaf_int (k := 8) (i := 0) (u := 3) (by kernel_rfl) undInt hn rfl
  obtain ⟨x1, rfl, _⟩ := leaf_int (k := 8) (i := 1) (u := 3) (by kernel_rfl) undInt hn rfl
  exact ⟨(x0, x1), rfl⟩
theorem pairs_arg {H : Type} {enc : TypeId × Value → H} {W : World} {spare : Nat → Bool} {held : Bool} {v : Value} {d : DataW H} {ps : List MemPlace} {rr : Reach} {b0 : Nat}
    (h0 : Value.okWide Tryd.prog W rr b0 37 v) (h : DataW.Trod enc Tryd.prog W 0 spare held 37 v d ps) : ∃ (s : Slc) (L : List (Int × Int)), v = Slc.v s ∧ PV W s L := by
  obtain ⟨n, hn⟩ := rdC_arg_slice undPairs h0 h
  obtain ⟨s, L, e, l5, m5, g5⟩ := rdC_slice' (Q := fun (o : Int × Int) cs => cs = [.int .i64 o.1, .int .i64 o.2]) undPairs (show Tryd.prog.cellsOf 45 = 2 by kernel_rfl) hn fun m cs' hl h => pair_rd hl h
  refine ⟨s, L, by simpa using e, l5, fun i q hq => ?_⟩
  obtain ⟨a, cs', ha, hc, rfl⟩ := g5 i q hq
  refine ⟨a, ha, ?_, ?_⟩
  · have := hc 0 (by omega)
    rw [Nat.add_zero] at this
    exact this
  · have := hc 1 (by omega)
    rw [add_add']
    exact this
end Inf
end Go.Proofs.YtapgacggllbhiaaDoor
