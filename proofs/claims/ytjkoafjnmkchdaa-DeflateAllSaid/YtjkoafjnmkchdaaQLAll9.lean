/- Deflate: a block with its own codes. Conditions: sizes. -/
import Derived.Test.YtjkoafjnmkchdaaQLAll8
import Derived.Test.YtjkoafjnmkchdaaQLAll6
import Derived.Test.YtjkoafjnmkchdaaQLAll7
import Derived.Test.YtjkoafjnmkchdaaQLAll3
import Derived.Test.YtjkoafjnmkchdaaQLAll4
namespace Go.Proofs.Ytjkoafjnmkchdaa
namespace Inf
open Sh Bit
set_option linter.unusedVariables false
set_option linter.unusedSimpArgs false
set_option maxRecDepth 4000
set_option maxHeartbeats 2000000
attribute [local irreducible] Ld St Nw Nn Lt LdS
theorem why_zero {c : List Int} {m : Nat} (h : c.length ≤ 288) (hm : 1 ≤ m ∧ m ≤ 15) (hc : ∀ i, i < c.length → 0 ≤ c.getD i 0 ∧ c.getD i 0 ≤ 2147483647) (h2 : c.length ≤ 2 ^ m) : Pm.why c (m : Int) = 0 := by
  rw [Srt.why_rest h (by omega) hc, if_neg]
  rw [Int.toNat_natCast, ← Pm.lv_srt]
  have := Pm.lv_len c c.length
  omega
/-- Lengths of counted signs. -/
theorem c_len {w : World} {s : Slc} {c : List Int} (h : IV w s c) (hl : c.length ≤ 288) {m : Nat} (hm : 1 ≤ m ∧ m ≤ 15) (hc : ∀ i, i < c.length → 0 ≤ c.getD i 0 ∧ c.getD i 0 ≤ 2147483647) (h2 : c.length ≤ 2 ^ m) :
    C45 s (m : Int) w (fun r e w1 => Ext (fun _ => False) w w1 ∧ ∃ l, IV w1 r l ∧ r.len ≤ r.cap ∧ l.length = c.length ∧ chk l = 0 ∧ (∀ i, 0 ≤ l.getD i 0 ∧ l.getD i 0 ≤ (m : Int)) ∧ ∀ i, 0 < c.getD i 0 → 0 < l.getD i 0) fun _ _ => False := by
  refine (Srt.c_lengthsC h).mono ?_ fun _ _ h => h
  rintro r e w1 ⟨_, he, _, h4⟩
  obtain ⟨l, a, b, d⟩ := h4 (why_zero hl hm hc h2)
  have out : ∀ i, ¬ i < c.length → l.getD i 0 = 0 ∧ c.getD i 0 = 0 := fun i hi => by
    have := b.len
    exact ⟨by rw [List.getD_eq_getElem?_getD, List.getElem?_eq_none (by omega)]; rfl, by rw [List.getD_eq_getElem?_getD, List.getElem?_eq_none (by omega)]; rfl⟩
  refine ⟨he, l, a, d, b.len, b.chk, fun i => ?_, fun i hi => ?_⟩
  · by_cases hi : i < c.length
    · have := b.most i hi
      rw [Int.toNat_natCast] at this
      exact ⟨this.1, this.2.1⟩
    · rw [(out i hi).1]; omega
  · by_cases hi2 : i < c.length
    · have := b.most i hi2
      have h3 := this.2.2
      have h1 := this.1
      rcases Int.lt_or_le 0 (l.getD i 0) with h | h
      · exact h
      · have := h3.1 (by omega)
        omega
    · have := (out i hi2).2
      omega
theorem FitM.ok {many : Nat} : ∀ (M : List Mk) (acc : List Int), FitM many M acc → ∀ m ∈ M, m.ok
  | [], _, _, m, hm => by cases hm
  | q :: M, acc, h, m, hm => by
    obtain ⟨h1, _, _, h4⟩ := h
    rcases List.mem_cons.1 hm with rfl | hm
    · exact h1
    · exact FitM.ok M _ h4 m hm
/-- The order as the program holds it. -/
theorem c_places (w : World) : C48 w fun r w1 => r = (16, 17, 18, 0, 8, 7, 9, 6, 10, 5, 11, 4, 12, 3, 13, 2, 14, 1, 15) ∧ Ext (fun _ => False) w w1 := by
  refine T48 _ _ ?_
  unfold S48
  refine (Hn.start w).nw fun w2 H => ?_
  simp only [List.nil_append] at H
  iterate 19 (refine H.st 0 rfl (by simp) fun _ H => ?_; simp only [List.nil_append, List.cons_append, List.set_cons_zero, List.set_cons_succ, Nat.zero_add] at H)
  iterate 19 refine H.ld 0 rfl rfl ?_
  exact ⟨rfl, H.ext⟩
theorem ord_at {i : Nat} (h : i < 19) : (#[.int .i64 16, .int .i64 17, .int .i64 18, .int .i64 0, .int .i64 8, .int .i64 7, .int .i64 9, .int .i64 6, .int .i64 10, .int .i64 5, .int .i64 11, .int .i64 4, .int .i64 12, .int .i64 3, .int .i64 13, .int .i64 2, .int .i64 14, .int .i64 1, .int .i64 15] : Array Value)[i]? = some (.int .i64 ((order.getD i 0 : Nat) : Int)) := by
  have e : (#[.int .i64 16, .int .i64 17, .int .i64 18, .int .i64 0, .int .i64 8, .int .i64 7, .int .i64 9, .int .i64 6, .int .i64 10, .int .i64 5, .int .i64 11, .int .i64 4, .int .i64 12, .int .i64 3, .int .i64 13, .int .i64 2, .int .i64 14, .int .i64 1, .int .i64 15] : Array Value) = (ints (ordI order)).toArray := rfl
  rw [e, List.getElem?_toArray, ints_get (by rw [ordI_len]; exact h), ordI_get]
/-- The marks are counted. -/
theorem own_marks {w : World} {r29 x31 r20 r22 s : Slc} {vw10 : World} {M : List Mk} (hM : MV w r29 M) (hl : M.length ≤ 1000) (hok : ∀ m ∈ M, m.1 < 19) {g : Nat} {R : ByteArray → World → Prop} (hx : x31 = ⟨some ⟨g, 0, none⟩, 19, 19⟩) {w32 : World} (H : Hn w w32 [(g, ints (List.replicate 19 0), 3)])
    (k : ∀ w' cm, Hn w w' [(g, ints cm, 3)] → cm.length = 19 → (∀ j, 0 ≤ cm.getD j 0 ∧ cm.getD j 0 ≤ 2147483647) → (∀ m ∈ M, 0 < cm.getD m.1 0) → C45 x31 7 w' (fun r65 r66 vw67 =>
      C42 r65 vw67 fun r68 r69 vw70 =>
        C48 vw70 fun r82 vw83 =>
          Lp (σ := Slc × Int) (S24L3 s vw10 r20 r22 r29 r65 r68 r82 R) ((⟨none, 0, 0⟩ : Slc), 0) vw83) fun _ _ => False) :
    Lp (σ := Int) (S24L4 s vw10 r20 r22 r29 x31 R fun _ _ => False) 0 w32 := by
  subst hx
  refine ⟨fun m i' w4 => ∃ (i : Nat) (cm : List Int), i' = (i : Int) ∧ i ≤ M.length ∧ m = M.length - i ∧ Hn w w4 [(g, ints cm, 3)] ∧ cm.length = 19 ∧ (∀ j, 0 ≤ cm.getD j 0 ∧ cm.getD j 0 ≤ (i : Int)) ∧ ∀ q ∈ M.take i, 0 < cm.getD q.1 0, M.length, ⟨0, _, rfl, Nat.zero_le _, rfl, H, List.length_replicate, fun j => by rw [rep_get]; omega, fun q hq => by cases hq⟩, ?_⟩
  rintro m i' w4 ⟨i, cm, rfl, hi, rfl, H, hcl, hcb, hcp⟩
  unfold S24L4
  rw [hM.1]
  dsimp only
  refine Br.dec (fun q => ?_) fun q => ?_
  · have hil : i < M.length := by omega
    have hio : M[i]? = some M[i] := List.getElem?_eq_getElem hil
    have hmk := hok M[i] (List.getElem_mem hil)
    have htk : M.take (i + 1) = M.take i ++ [M[i]] := by rw [List.take_add_one, hio]; rfl
    obtain ⟨a, ha, c0, c1, c2⟩ := (hM.keep H.ext).get hio
    generalize M[i] = mk at *
    rw [ha]
    refine ⟨by omega, by omega, Nn.of ?_⟩
    rw [Int.toNat_natCast]
    refine Ld.mk (x := (mk.1 : Int)) c0 (Ld.mk (x := (mk.2.1 : Int)) c1 (Ld.mk (x := (mk.2.2 : Int)) c2 ?_))
    refine H.nw fun w5 H => ?_
    simp only [List.cons_append, List.nil_append] at H
    iterate 3 (refine H.st 1 rfl (by simp) fun _ H => ?_; simp only [List.nil_append, List.cons_append, List.set_cons_zero, List.set_cons_succ, Nat.zero_add] at H)
    iterate 1 refine H.ld 1 rfl rfl ?_
    have hb := hcb mk.1
    refine ⟨by omega, by omega, Nn.of ?_⟩
    simp only [add_lit, Int.toNat_natCast, Nat.mul_one, Nat.zero_add]
    refine H.ld 0 rfl (ints_get (by omega)) ?_
    refine ⟨by omega, by omega, Nn.of ?_⟩
    simp only [add_lit, Int.toNat_natCast, Nat.mul_one, Nat.zero_add]
    rw [i64_id (n := cm.getD mk.1 0 + 1) (by omega)]
    refine H.st 0 rfl (by rw [ints_len]; omega) fun w9 H => ?_
    simp only [List.set_cons_zero, List.set_cons_succ] at H
    rw [ints_set] at H
    have H := Hn.left (L := [_]) (M := [_]) H
    have hg := fun j => inc_get (c := cm) (o := mk.1) (by omega) j
    refine ⟨M.length - (i + 1), by omega, i + 1, inc cm mk.1, by rw [i64_id (by omega)]; rfl, by omega, rfl, H, by rw [inc_len]; exact hcl, fun j => by have := hcb j; rw [hg]; split <;> omega, fun q hq => ?_⟩
    rw [htk] at hq
    rw [hg]
    rcases List.mem_append.1 hq with hq | hq
    · have := hcp q hq
      split <;> omega
    · rw [List.mem_singleton.1 hq, if_pos rfl]
      omega
  · have : i = M.length := by omega
    subst this
    rw [List.take_length] at hcp
    exact k w4 cm H hcl (fun j => by have := hcb j; omega) hcp
end Inf
end Go.Proofs.Ytjkoafjnmkchdaa

/- Deflate: a block with its own codes, the whole. Conditions: sizes. -/
namespace Go.Proofs.Ytjkoafjnmkchdaa
namespace Inf
open Sh Bit
set_option linter.unusedVariables false
set_option linter.unusedSimpArgs false
set_option maxRecDepth 4000
set_option maxHeartbeats 4000000
attribute [local irreducible] Ld St Nw Nn Lt LdS
theorem marksF_len (l : List Int) : ∀ (k i : Nat), (marksF l k i).length ≤ 2 * k
  | 0, i => Nat.le_refl _
  | k + 1, i => by
    unfold marksF
    split
    · simp
    · rename_i h
      have h1 := (markAt_bd l (i := i) (by omega)).2.2
      have h2 := marksF_len l k (i + (markAt l i).2)
      rw [List.length_append]
      omega
theorem repB_le (s : Nat) : repB s ≤ 7 := by
  unfold repB
  split
  · decide
  · split <;> decide
theorem PW.base {wA w : World} {wb : Nat} {ws : Slc} {way : Int} {st : WS} (h : PW wA w wA.heap.size wb ws way st) : Ext (fun _ => False) wA w :=
  (Ext.refl _ _).trans h.ext (fun _ h => h) fun j hj e => by omega
theorem Own.bds (o : Own) (ha : ∀ i, 0 ≤ o.a.getD i 0 ∧ o.a.getD i 0 ≤ 15) (hb : ∀ i, 0 ≤ o.b.getD i 0 ∧ o.b.getD i 0 ≤ 15) (i : Nat) : 0 ≤ o.all.getD i 0 ∧ o.all.getD i 0 ≤ 15 := by
  unfold Own.all
  rw [List.getD_eq_getElem?_getD]
  by_cases hi : i < (o.a.take o.na).length
  · rw [List.getElem?_append_left hi, ← List.getD_eq_getElem?_getD, o.ta.take]
    exact ha i
  · rw [List.getElem?_append_right (by omega), ← List.getD_eq_getElem?_getD, o.tb.take]
    exact hb _
/-- foliant/deflate.own -/
theorem c_own {w : World} {s : Slc} {l : List Prt} (hP : PV w s (l.map rawP)) (hl : l.length ≤ 1048576) (hf : Fit l []) : C24 s w (fun r w1 => ∃ o : Own, o.ok ∧ (∀ p ∈ l, Has o.a o.b p) ∧ r = ⟨(o.T l).toArray⟩ ∧ Ext (fun _ => False) w w1) fun _ _ => False := by
  have hoks := Fit.ok hf
  refine T24 _ _ _ _ ?_
  unfold S24
  refine (c_countP hP hl hoks).mono ?_
  rintro r2 r3 w4 ⟨ca, cb, Ia, Ib, CI, e4⟩
  have hla := CI.la
  have hlb := CI.lb
  refine (c_len Ia (m := 15) (by omega) (by decide) (fun i _ => by have := CI.ba i; omega) (by rw [hla]; decide)).mono ?_ fun _ _ h => h
  rintro r5 r6 w7 ⟨e7, la, Ia, capa, lla, ca0, ba, posa⟩
  refine (c_len (Ib.keep e7) (m := 15) (by omega) (by decide) (fun i _ => by have := CI.bb i; omega) (by rw [hlb]; decide)).mono ?_ fun _ _ h => h
  rintro r8 r9 w10 ⟨e10, lb, Ib, capb, llb, cb0, bb, posb⟩
  have Ia := Ia.keep e10
  have lla : la.length = 286 := by rw [lla, hla]
  have llb : lb.length = 30 := by rw [llb, hlb]
  have E10 := (e4.tr e7).tr e10
  refine (Hn.start w10).nw' fun w11 H e11 => ?_
  simp only [List.nil_append] at H
  have z11 : w10.heap.size < w11.heap.size := H.lt 0 rfl
  refine (c_new (Ia.keep e11)).mono ?_
  rintro r12 r13 w14 ⟨rfl, e14, _, h14⟩
  obtain ⟨t1, rfl, T1⟩ := h14 ca0
  have H := H.keep e14
  refine H.st' 0 rfl (by simp) fun w15 H e15 => ?_
  simp only [List.set_cons_zero, List.set_cons_succ] at H
  have T1 := T1.keep e15 fun j h1 h2 e => by omega
  refine (c_new (Ib.keep H.ext)).mono ?_
  rintro r16 r17 w18 ⟨rfl, e18, _, h18⟩
  obtain ⟨t2, rfl, T2⟩ := h18 cb0
  have H := H.keep e18
  have T1 := T1.keep e18 fun _ _ _ h => h
  have z14 := e14.size
  have z15 := e15.size
  have z18 := e18.size
  refine H.st' 0 rfl (by simp) fun w19 H e19 => ?_
  simp only [List.set_cons_zero, List.set_cons_succ] at H
  have T1 := T1.keep e19 fun j h1 h2 e => by have e : j = w10.heap.size := e; omega
  have T2 := T2.keep e19 fun j h1 h2 e => by have e : j = w10.heap.size := e; omega
  have z19 := e19.size
  have E19 := E10.tr H.ext
  have Ia19 := Ia.keep H.ext
  have Ib19 := Ib.keep H.ext
  have pB := H.get 0 rfl
  refine (c_cut Ia19 capa (by omega) 257 (by omega)).mono ?_
  rintro r20 w21 ⟨Ia20, len20, hw⟩
  replace hw := hw.symm
  subst hw
  refine (c_cut Ib19 capb (by omega) 1 (by omega)).mono ?_
  rintro r22 w21 ⟨Ib22, len22, hw⟩
  replace hw := hw.symm
  subst hw
  -- the lengths, joined
  refine Nw.of ?_
  have e24 := (Ext.refl (fun _ => False) w19).alloc (.cells #[] 3)
  have R0 : Row (w19.alloc (.cells #[] 3)) ⟨some ⟨w19.heap.size, 0, none⟩, 0, 0⟩ 3 1 [] := Row.new w19 #[] 3 1 0 rfl
  have m1 := cutN_spec la 257 la.length
  have m2 := cutN_spec lb 1 lb.length
  obtain ⟨x25, w26, hrun, R25, len25, e26, own25⟩ := elI.app0 (ty := 72) (by decide) R0 rfl (Ia20.keep e24).2 (ints_one _) (by rw [len20]; omega) (by rw [len20]; omega)
  refine ⟨x25, w26, hrun, ?_⟩
  have E26 := (e24.tr e26)
  have z24 := e24.size
  have z26 := e26.size
  obtain ⟨x27, w28, hrun, R27, len27, e28, own27⟩ := elI.app (ty := 72) R25 (Ib22.keep E26).2 (ints_one _) (by rw [len25, len20, len22]; omega) (by rw [len25, len20, len22]; omega)
  refine ⟨x27, w28, hrun, ?_⟩
  have E28 : Ext (fun _ => False) w19 w28 := E26.trans e28 (fun _ h => h) fun j hj e => by
    rcases own25 j e with ⟨a, ha, hb⟩ | e
    · cases ha
      have hb : w19.heap.size = j := hb
      omega
    · omega
  rw [← ints_app] at R27
  -- what is chosen, but for the code of lengths
  have hall : ∀ lc, (Own.mk la lb lc).all = la.take (cutN la 257 la.length) ++ lb.take (cutN lb 1 lb.length) := fun _ => rfl
  have hallb := (Own.mk la lb []).bds ba bb
  rw [← hall []] at R27
  have hlen : (Own.mk la lb []).all.length ≤ 316 := by rw [hall, List.length_append, List.length_take, List.length_take]; omega
  refine (c_marks (IV.row R27) (by omega) hallb).mono ?_
  rintro r29 w30 ⟨hM, e30⟩
  have hML : (marksS (Own.mk la lb []).all).length ≤ 1000 := by
    have := marksF_len (Own.mk la lb []).all (Own.mk la lb []).all.length 0
    have e : marksS (Own.mk la lb []).all = marksF (Own.mk la lb []).all (Own.mk la lb []).all.length 0 := rfl
    rw [e]
    omega
  have hMok := FitM.ok _ _ (marksS_fit hallb).1
  obtain ⟨w32, hrun, hw32⟩ := elI.make (zs := [.int .i64 0]) rfl w30 19 (by omega) (by omega)
  refine ⟨_, w32, hrun, ?_⟩
  rw [flat_zero] at hw32
  have H32 : Hn w30 w32 [(w30.heap.size, ints (List.replicate 19 0), 3)] := by
    rw [hw32]
    exact ((Hn.start w30).keep ((Ext.refl _ _).alloc _)).push (Blk.new _ _ _) (Nat.le_refl _) (by simp)
  have E30 := E19.tr (E28.tr e30)
  have F30 := E28.tr e30
  generalize hMS : marksS (Own.mk la lb []).all = M at *
  refine own_marks hM hML (fun m hm => (hMok m hm).1) rfl H32 fun w33 cm H33 cml cmb cmp => ?_
  refine (c_len (IV.blk (n := 19) (H33.get 0 rfl) cml.symm) (m := 7) (by omega) (by decide) (fun i _ => cmb i) (by rw [cml]; decide)).mono ?_ fun _ _ h => h
  rintro r65 r66 w67 ⟨e67, lc, Ic, capc, llc, cc0, bc, posc⟩
  have llc : lc.length = 19 := by rw [llc, cml]
  refine (c_new Ic).mono ?_
  rintro r68 r69 w70 ⟨rfl, e70, _, h70⟩
  obtain ⟨t3, rfl, T3⟩ := h70 cc0
  refine (c_places w70).mono ?_
  rintro r82 w83 ⟨rfl, e83⟩
  have Ic83 := (Ic.keep e70).keep e83
  have E83 : Ext (fun _ => False) w30 w83 := ((H33.ext.tr e67).tr e70).tr e83
  have z83 := e83.size
  have T3 := T3.keep e83 fun _ _ _ h => h
  have ho_len : (inOrd lc).length = 19 := by unfold inOrd; rw [List.length_map]; rfl
  have ho_get : ∀ i, i < 19 → (inOrd lc).getD i 0 = lc.getD (order.getD i 0) 0 := fun i hi => by
    have hol : i < order.length := hi
    unfold inOrd
    rw [List.getD_eq_getElem?_getD, List.getElem?_map, List.getElem?_eq_getElem hol, List.getD_eq_getElem?_getD (l := order), List.getElem?_eq_getElem hol]
    rfl
  refine ⟨fun m st w84 => ∃ i : Nat, st.2 = (i : Int) ∧ i ≤ 19 ∧ m = 19 - i ∧ Row w84 st.1 3 1 (ints ((inOrd lc).take i)) ∧ Ext (fun _ => False) w83 w84 ∧ ∀ j, st.1.own j → w83.heap.size ≤ j, 19, ⟨0, rfl, by decide, rfl, Row.nil _ _ _, Ext.refl _ _, fun j hj => by obtain ⟨a, ha, _⟩ := hj; cases ha⟩, ?_⟩
  rintro m ⟨sl, i'⟩ w84 ⟨i, hi', hi, rfl, R84, e84, own84⟩
  simp only at hi' R84 own84
  subst hi'
  unfold S24L3
  dsimp only
  refine Br.dec (fun q => ?_) fun q => ?_
  · have hi19 : i < 19 := by omega
    have hox : order.getD i 0 < 19 := order_u _ (by rw [List.getD_eq_getElem?_getD, List.getElem?_eq_getElem (show i < order.length from hi19)]; exact List.getElem_mem _)
    obtain ⟨a, ha, hc⟩ := (Ic83.keep e84).get (i := order.getD i 0) (by omega)
    refine ⟨by omega, by omega, ((order.getD i 0 : Nat) : Int), by rw [Int.toNat_natCast, Nat.mul_one]; exact ord_at hi19, by omega, by rw [Ic83.1]; omega, ?_⟩
    rw [ha]
    refine Nn.of ?_
    rw [Int.toNat_natCast]
    refine Ld.mk (x := lc.getD (order.getD i 0) 0) hc (Nw.of ?_)
    have e1 := (Ext.refl (fun _ => False) w84).alloc (.cells #[.int .i64 (lc.getD (order.getD i 0) 0)] 3)
    have hsl : sl.len = i := by rw [(IV.row R84).1, List.length_take]; omega
    obtain ⟨s', w', hrun, hrow, hlen', hext, hown⟩ := elI.app1 (ty := 72) (ys := [.int .i64 (lc.getD (order.getD i 0) 0)]) (R84.keep e1 fun _ _ h => h) (Blk.new w84 _ _) rfl (fun v hv => by rw [List.mem_singleton.1 hv]; rfl) (by omega) (by omega)
    have z1 := e1.size
    have z84 := e84.size
    refine ⟨s', w', hrun, 19 - (i + 1), by omega, i + 1, by rw [i64_id (by omega)]; rfl, by omega, rfl, ?_, (e84.tr e1).trans hext (fun _ h => h) fun j hj e => by have := own84 j e; omega, fun j hj => ?_⟩
    · have : (inOrd lc).take (i + 1) = (inOrd lc).take i ++ [lc.getD (order.getD i 0) 0] := by rw [← ho_get i hi19, take_one (by omega)]
      rw [this, ints_app]
      exact hrow
    · rcases hown j hj with e | e
      · exact own84 j e
      · omega
  have : i = 19 := by omega
  subst this
  have R84 : Row w84 sl 3 1 (ints (inOrd lc)) := by
    rw [List.take_of_length_le (by omega)] at R84
    exact R84
  refine (c_cut (IV.row R84) (row_cap R84) (by omega) 4 (by omega)).mono ?_
  rintro r93 wA ⟨I93, len93, rfl⟩
  -- everything is laid out: the writer
  generalize hoe : Own.mk la lb lc = o at *
  have oa : o.a = la := by rw [← hoe]
  have ob : o.b = lb := by rw [← hoe]
  have oc : o.c = lc := by rw [← hoe]
  have oall : o.all = (Own.mk la lb []).all := by rw [← hoe]; rfl
  have EA : Ext (fun _ => False) w30 wA := E83.tr e84
  have FA : Ext (fun _ => False) w19 wA := F30.tr EA
  have T1 := T1.keep FA fun _ _ _ h => h
  have T2 := T2.keep FA fun _ _ _ h => h
  have T3 := T3.keep e84 fun _ _ _ h => h
  have MA := hM.keep EA
  have pA := FA.blk pB id
  have PA := hP.keep (E19.tr FA)
  have zA := FA.size
  have zA2 := e84.size
  have zA3 := EA.size
  have hok : o.ok := ⟨by rw [oa]; exact lla, by rw [ob]; exact llb, by rw [oc]; exact llc, by rw [oa]; exact ca0, by rw [ob]; exact cb0, by rw [oc]; exact cc0, by rw [oa]; exact posa 256 CI.e, fun i => by rw [oc]; exact bc i, fun m hm => by
    rw [oall, hMS] at hm
    rw [oc]
    exact ⟨(hMok m hm).1, posc _ (cmp m hm)⟩⟩
  have hhas : ∀ p ∈ l, Has o.a o.b p := fun p hp => by
    have hs := CI.seen p (by rw [List.take_length]; exact hp)
    rw [oa, ob]
    unfold Seen at hs
    unfold Has
    rw [lla, llb]
    split
    · rename_i h0
      rw [if_pos h0] at hs
      have := p.b.toNat_lt
      exact ⟨by omega, posa _ hs⟩
    · rename_i h0
      rw [if_neg h0] at hs
      rcases hoks p hp with hh | ⟨_, q3, q4, q5, q6⟩
      · exact absurd hh.1 h0
      · have k1 := (kL_spec q3 q4).1
        have d1 := (kD_spec q5 q6).1
        exact ⟨⟨by omega, posa _ hs.1⟩, by omega, posb _ hs.2⟩
  obtain ⟨n1, n2, n3, n4, n5, n6, n7⟩ := Own.sizes hok
  have na : o.na = cutN la 257 la.length := by rw [← hoe]; rfl
  have nb : o.nb = cutN lb 1 lb.length := by rw [← hoe]; rfl
  have ni : o.ni = cutN (inOrd lc) 4 (inOrd lc).length := by rw [← hoe]; rfl
  rw [← na] at len20
  rw [← nb] at len22
  rw [← ni] at len93 I93
  rw [len20, len22, len93]
  refine (Bit.c_new wA).mono ?_
  rintro r95 w96 ⟨rfl, W, e96⟩
  have P96 : PW wA w96 wA.heap.size wA.heap.size ⟨none, 0, 0⟩ 0 ([], 0) := ⟨W, WInv.zero _, .inl rfl, (fun j hj => by
    rcases hj with e | ⟨a, ha, _⟩
    · omega
    · cases ha), e96.size, e96.mono fun _ _ h => h.elim⟩
  have g0 : ∀ (st : WS) (v n k : Nat), st.1.length ≤ k → (lw st v n).1.length ≤ k + n := fun st v n k h => by have := lw_len st v n; omega
  refine (P96.low (by simp) 1 1 (by decide) (by decide) (.inl (by decide))).mono ?_
  rintro _ w98 ⟨s98, P98, _⟩
  have l98 := g0 ([], 0) 1 1 0 (by simp)
  refine (P98.low (by omega) 2 2 (by decide) (by decide) (.inl (by decide))).mono ?_
  rintro _ w100 ⟨s100, P100, _⟩
  have l100 := g0 _ 2 2 _ l98
  rw [i64_id (n := ((o.na : Nat) : Int) - 257) (by omega), show ((o.na : Nat) : Int) - 257 = ((o.na - 257 : Nat) : Int) by omega, i64_id (n := ((o.nb : Nat) : Int) - 1) (by omega), show ((o.nb : Nat) : Int) - 1 = ((o.nb - 1 : Nat) : Int) by omega, i64_id (n := ((o.ni : Nat) : Int) - 4) (by omega), show ((o.ni : Nat) : Int) - 4 = ((o.ni - 4 : Nat) : Int) by omega]
  refine (P100.low (by omega) (o.na - 257) 5 (by show _ < 32; omega) (by decide) (.inl (by decide))).mono ?_
  rintro _ w102 ⟨s102, P102, _⟩
  have l102 := g0 _ (o.na - 257) 5 _ l100
  refine (P102.low (by omega) (o.nb - 1) 5 (by show _ < 32; omega) (by decide) (.inl (by decide))).mono ?_
  rintro _ w104 ⟨s104, P104, _⟩
  have l104 := g0 _ (o.nb - 1) 5 _ l102
  refine (P104.low (by omega) (o.ni - 4) 4 (by show _ < 16; omega) (by decide) (.inl (by decide))).mono ?_
  rintro _ w106 ⟨s106, P106, _⟩
  have l106 := g0 _ (o.ni - 4) 4 _ l104
  have P106 : PW wA w106 wA.heap.size wA.heap.size s106 1 o.st1 := P106
  have l106 : o.st1.1.length ≤ 17 := l106
  have hoil : ∀ i, i < o.ni → (order.take o.ni)[i]? = some (order.getD i 0) := fun i hi => by
    rw [List.getElem?_take, if_pos hi, List.getElem?_eq_getElem (show i < order.length by show i < 19; omega), List.getD_eq_getElem?_getD, List.getElem?_eq_getElem (show i < order.length by show i < 19; omega)]
    rfl
  have holen : (order.take o.ni).length = o.ni := by rw [List.length_take]; show min o.ni 19 = _; omega
  refine ⟨fun m i' w3 => ∃ (i : Nat) (ws : Slc), i' = (i : Int) ∧ i ≤ o.ni ∧ m = o.ni - i ∧ PW wA w3 wA.heap.size wA.heap.size ws 1 (((order.take o.ni).take i).foldl (wO lc) o.st1) ∧ (((order.take o.ni).take i).foldl (wO lc) o.st1).1.length ≤ 17 + 3 * i, o.ni, ⟨0, s106, rfl, Nat.zero_le _, rfl, P106, l106⟩, ?_⟩
  rintro m i' w3 ⟨i, ws, rfl, hi, rfl, P3, l3⟩
  unfold S24L2
  rw [len93]
  refine Br.dec (fun q => ?_) fun q => ?_
  · have hin : i < o.ni := by omega
    obtain ⟨a, ha, hc⟩ := (I93.keep P3.base).get (i := i) (by rw [List.length_take]; omega)
    rw [take_get hin, ho_get i (by omega)] at hc
    have b7 := bc (order.getD i 0)
    rw [ha]
    refine ⟨by omega, by omega, Nn.of ?_⟩
    rw [Int.toNat_natCast]
    refine Ld.mk (x := lc.getD (order.getD i 0) 0) hc ?_
    have hv : ((lc.getD (order.getD i 0) 0).toNat : Int) = lc.getD (order.getD i 0) 0 := by omega
    have hstep : ((order.take o.ni).take (i + 1)).foldl (wO lc) o.st1 = lw (((order.take o.ni).take i).foldl (wO lc) o.st1) (lc.getD (order.getD i 0) 0).toNat 3 := by
      rw [List.take_add_one, hoil i hin, List.foldl_append]
      rfl
    rw [← hv]
    refine (P3.low (by omega) (lc.getD (order.getD i 0) 0).toNat 3 (by show _ < 8; omega) (by decide) (.inl (by decide))).mono ?_
    rintro _ w5 ⟨s5, P5, _⟩
    have l5 := g0 _ (lc.getD (order.getD i 0) 0).toNat 3 _ l3
    rw [← hstep] at P5 l5
    exact ⟨o.ni - (i + 1), by omega, i + 1, s5, by rw [i64_id (by omega)]; rfl, by omega, rfl, P5, by omega⟩
  have : i = o.ni := by omega
  subst this
  rw [List.take_of_length_le (by omega)] at P3 l3
  have hst2 : (order.take o.ni).foldl (wO lc) o.st1 = o.st2 := by rw [← oc]; rfl
  rw [hst2] at P3 l3
  have hkc := chk_lok cc0
  have hM3 : ∀ st (m : Mk), m ∈ M → (wM lc st m).1.length ≤ st.1.length + 22 := fun st m hm => by
    have h1 := cw_len (st := st) hkc m.1
    have h2 := lw_len (cw lc st m.1) m.2.1 m.2.2
    have h3 := (hMok m hm).2.2
    have h4 := repB_le m.1
    unfold wM
    split at h3 <;> omega
  refine ⟨fun m i' w5 => ∃ (i : Nat) (ws : Slc), i' = (i : Int) ∧ i ≤ M.length ∧ m = M.length - i ∧ PW wA w5 wA.heap.size wA.heap.size ws 1 ((M.take i).foldl (wM lc) o.st2) ∧ ((M.take i).foldl (wM lc) o.st2).1.length ≤ 17 + 3 * o.ni + 22 * i, M.length, ⟨0, ws, rfl, Nat.zero_le _, rfl, P3, l3⟩, ?_⟩
  rintro m i' w5 ⟨i, ws5, rfl, hi, rfl, P5, l5⟩
  unfold S24L1
  rw [MA.1]
  refine Br.dec (fun q => ?_) fun q => ?_
  · have hin : i < M.length := by omega
    have hio : M[i]? = some M[i] := List.getElem?_eq_getElem hin
    have hmem := List.getElem_mem hin
    have hmok := hMok _ hmem
    have hpos := posc _ (cmp _ hmem)
    have hl22 := hM3 ((M.take i).foldl (wM lc) o.st2) _ hmem
    have htk : (M.take (i + 1)).foldl (wM lc) o.st2 = wM lc ((M.take i).foldl (wM lc) o.st2) M[i] := by
      rw [List.take_add_one, hio, List.foldl_append]
      rfl
    obtain ⟨a, ha, c0, c1, c2⟩ := (MA.keep P5.base).get hio
    rw [← htk] at hl22
    obtain ⟨k1, k2, k3⟩ := hmok
    have k4 := repB_le M[i].1
    rw [ha]
    refine ⟨by omega, by omega, Nn.of ?_⟩
    rw [Int.toNat_natCast]
    refine Ld.mk (x := (M[i].1 : Int)) c0 (Ld.mk (x := (M[i].2.1 : Int)) c1 (Ld.mk (x := (M[i].2.2 : Int)) c2 ?_))
    refine (Hn.start w5).nw fun w6 H => ?_
    simp only [List.nil_append] at H
    iterate 3 (refine H.st 0 rfl (by simp) fun _ H => ?_; simp only [List.nil_append, List.cons_append, List.set_cons_zero, List.set_cons_succ, Nat.zero_add] at H)
    rename_i w7
    have P7 := P5.keep H.ext
    have H7 : Hold w7 wA.heap.size ws5 [(w5.heap.size, [.int .i64 (M[i].1 : Int), .int .i64 (M[i].2.1 : Int), .int .i64 (M[i].2.2 : Int)], 88)] := fun p hp => by
      rw [List.mem_singleton.1 hp]
      exact ⟨H.get 0 rfl, fun hh => by have := P5.wr.lt _ hh; simp at this⟩
    refine H7.ld 0 rfl rfl ?_
    refine (P7.sign (by omega) T3 (by omega) cc0 (by rw [llc]; exact k1) hpos).mono ?_
    rintro _ w8 ⟨s8, P8, n8⟩
    have H8 := H7.call n8
    have l8 := cw_len (st := (M.take i).foldl (wM lc) o.st2) hkc M[i].1
    refine H8.ld 0 rfl rfl ?_
    refine H8.ld 0 rfl rfl ?_
    refine (P8.low (by omega) M[i].2.1 M[i].2.2 k2 (by split at k3 <;> omega) (.inr rfl)).mono ?_
    rintro _ w9 ⟨s9, P9, n9⟩
    refine ⟨M.length - (i + 1), by omega, i + 1, s9, by rw [i64_id (by omega)]; rfl, by omega, rfl, ?_, by omega⟩
    rw [htk]
    exact P9
  have : i = M.length := by omega
  subst this
  rw [List.take_length] at P5 l5
  have hst3 : M.foldl (wM lc) o.st2 = o.st3 := by rw [← oc, ← hMS, ← oall]; rfl
  rw [hst3] at P5 l5
  have bB := P5.base.blk pA id
  refine Ld.of bB rfl (Ld.of bB rfl ?_)
  have PVk := PA.keep P5.base
  refine (c_pair (wlo := wA.heap.size) (s := s) (l := l) PVk (fun hnil j hj => by have := PA.lt (by simpa using hnil) hj; exact this) hl (fun p hp => ⟨hoks p hp, hhas p hp⟩) (by rw [oa]; exact T1.keep P5.base fun _ _ _ h => h) (by rw [ob]; exact T2.keep P5.base fun _ _ _ h => h) (by omega) (by omega) hok.ca hok.cb (by rw [oa, lla]; decide) hok.a256 P5.wr P5.inv P5.way P5.lo P5.big (by omega)).mono ?_
  rintro w22 ⟨s22, P22, n22⟩
  have z1 := wPs_len (chk_lok hok.ca) (chk_lok hok.cb) l o.st3 hoks
  have z2 := cw_len (st := l.foldl (wP o.a o.b) o.st3) (chk_lok hok.ca) 256
  refine (c_wtext P22.wr (by omega)).mono ?_
  rintro r w24 ⟨rfl, e24'⟩
  refine ⟨o, hok, hhas, rfl, ?_⟩
  exact (((E19.tr FA).tr P5.base).trans P22.ext (fun _ h => h) fun j hj e => by have := (E19.tr FA).size; omega).tr e24'
end Inf
end Go.Proofs.Ytjkoafjnmkchdaa

/- Deflate: the reference writes stored blocks too. Conditions: sizes. -/
namespace Go.Proofs.Ytjkoafjnmkchdaa
namespace Inf
open Sh Bit
set_option linter.unusedVariables false
set_option linter.unusedSimpArgs false
set_option maxRecDepth 4000
set_option maxHeartbeats 1000000
attribute [local irreducible] Ld St Nw Nn Lt LdS
theorem ixor_not {c : Nat} (hc : c ≤ 65535) : ixor .i64 (-1) (c : Int) = -1 - (c : Int) := by
  have e : ixor .i64 (-1) (c : Int) = IntKind.i64.wrap (((BitVec.ofInt 64 (-1)) ^^^ BitVec.ofInt 64 (c : Int)).toNat : Int) := rfl
  rw [e, show BitVec.ofInt 64 (-1) = BitVec.allOnes 64 by decide, BitVec.allOnes_xor, BitVec.toNat_not, BitVec.ofInt_natCast, BitVec.toNat_ofNat, Nat.mod_eq_of_lt (by omega)]
  have h : ((2 ^ 64 - 1 - c : Nat) : Int) = -1 - (c : Int) + 18446744073709551616 := by omega
  rw [h]
  unfold IntKind.wrap
  simp [IntKind.bits, IntKind.signed]
  omega
theorem u8_ofNat {x : Int} {n : Nat} (h : x % 256 = (n : Int)) (hn : n < 256) : IntKind.u8.wrap x = ((UInt8.ofNat n).toNat : Int) := by
  rw [of_toNat hn]
  unfold IntKind.wrap
  simp [IntKind.bits, IntKind.signed]
  omega
/-- foliant/foliantref12.All -/
theorem r_AllS {S : ByteArray} {lv : Int} (h0 : 0 ≤ lv) (h2 : lv ≤ 2) (hs : S.size ≤ 1048576) (w : World) : C15 S lv w fun r e w1 => r = ⟨(storedT S.data.toList).toArray⟩ ∧ e = 0 ∧ Ext (fun _ => False) w w1 := by
  refine T15 _ _ _ _ ?_
  unfold S15
  refine Br.dec (fun q => absurd q (by omega)) fun _ => Br.dec (fun q => absurd q (by omega)) fun _ => Br.dec (fun q => absurd q (by omega)) fun _ => ?_
  refine ⟨fun m st w3 => ∃ (pre : List UInt8), st.1.size < m ∧ pre ++ stS m st.1.data.toList = storedT S.data.toList ∧ pre.length + 2 * st.1.size ≤ 2 * S.size ∧ BRow w3 st.2 pre ∧ Ext (fun _ => False) w w3 ∧ ∀ j, st.2.own j → w.heap.size ≤ j, S.size + 1, ⟨[], by dsimp only; omega, by rw [size_list]; rfl, by simp, BRow.nil _, Ext.refl _ _, fun j hj => by obtain ⟨a, ha, _⟩ := hj; cases ha⟩, ?_⟩
  rintro m ⟨rest, sl⟩ w3 ⟨pre, hk, hpre, hlen, hr, he, ho⟩
  simp only at hk hpre hlen hr ho
  obtain ⟨k, rfl⟩ : ∃ j, m = j + 1 := ⟨m - 1, by omega⟩
  have hrl := size_list rest
  unfold S15L1
  have fact : ∀ (f : Nat), (f = 1 ∧ rest.size ≤ 65535) ∨ (f = 0 ∧ 65535 < rest.size) → S15J1 (rest, sl) (fun s' w' => ∃ n', n' < k + 1 ∧ ∃ (pre : List UInt8), s'.1.size < n' ∧ pre ++ stS n' s'.1.data.toList = storedT S.data.toList ∧ pre.length + 2 * s'.1.size ≤ 2 * S.size ∧ BRow w' s'.2 pre ∧ Ext (fun _ => False) w w' ∧ ∀ j, s'.2.own j → w.heap.size ≤ j)
      (fun r e w1 => r = ⟨(storedT S.data.toList).toArray⟩ ∧ e = 0 ∧ Ext (fun _ => False) w w1) (f : Int) w3 := fun f hf => by
    unfold S15J1
    dsimp only
    rw [min_int]
    have hc : min rest.size 65535 ≤ 65535 := Nat.min_le_right _ _
    have hc2 : min rest.size 65535 ≤ rest.size := Nat.min_le_left _ _
    generalize hce : min rest.size 65535 = c at hc hc2 ⊢
    refine Lt.of (Lt.of (Lt.of (Lt.of ?_)))
    rw [ixor_not hc, Int.fdiv_eq_ediv_of_nonneg _ (by decide), Int.fdiv_eq_ediv_of_nonneg _ (by decide), show ((2 : Int) ^ 8) = 256 by decide]
    rw [u8_ofNat (x := (c : Int)) (n := c % 256) (by omega) (by omega), u8_ofNat (x := (c : Int) / 256) (n := c / 256) (by omega) (by omega), u8_ofNat (x := -1 - (c : Int)) (n := 255 - c % 256) (by omega) (by omega), u8_ofNat (x := (-1 - (c : Int)) / 256) (n := 255 - c / 256) (by omega) (by omega),
      show ((f : Nat) : Int) = ((UInt8.ofNat f).toNat : Int) by rw [of_toNat (by omega)]]
    refine Nw.of ?_
    have e1 := (Ext.refl (fun _ => False) w3).alloc (.cells (bcs (hd5 (UInt8.ofNat f) c)).toArray 5)
    have z3 := he.size
    have z4 := e1.size
    have hr1 := hr.keep e1 fun _ _ h => h
    have hblk : BRow (w3.alloc (.cells (bcs (hd5 (UInt8.ofNat f) c)).toArray 5)) ⟨some ⟨w3.heap.size, 0, none⟩, 5, 5⟩ (hd5 (UInt8.ofNat f) c) := ⟨rfl, .inr ⟨_, _, rfl, Blk.new w3 _ _, Nat.le_refl _, rfl, rfl⟩⟩
    obtain ⟨s1, w5, hrun, hrow, hext, hown⟩ := app_row (ty := 40) hr1 hblk (by unfold hd5; simp; omega)
    refine ⟨s1, w5, hrun, ?_⟩
    have he5 : Ext (fun _ => False) w w5 := (he.tr e1).trans hext (fun _ h => h) fun j hj e => by have := ho j e; omega
    have ho5 : ∀ j, s1.own j → w.heap.size ≤ j := fun j hj => by
      rcases hown j hj with e | e
      · exact ho j e
      · omega
    have z5 := he5.size
    have hesz : (rest.extract 0 c).size = c := by rw [ByteArray.size_extract]; omega
    refine ⟨by omega, by omega, Lt.of ?_⟩
    rw [show ((c : Int)).toNat = c by rw [Int.toNat_natCast]]
    obtain ⟨s2, w6, hrun, hrow, hext, hown⟩ := app_str (ty := 40) hrow (rest.extract 0 c) (by rw [hesz, List.length_append]; unfold hd5; simp; omega)
    refine ⟨s2, w6, hrun, ?_⟩
    have he6 : Ext (fun _ => False) w w6 := he5.trans hext (fun _ h => h) fun j hj e => by have := ho5 j e; omega
    have ho6 : ∀ j, s2.own j → w.heap.size ≤ j := fun j hj => by
      rcases hown j hj with e | e
      · exact ho5 j e
      · omega
    have e1 : (rest.extract 0 c).data.toList = rest.data.toList.take c := by rw [extract_list, List.drop_zero, Nat.sub_zero]
    have e2 : (rest.data.toList.take c).length = c := by rw [List.length_take]; omega
    have hst : pre ++ hd5 (UInt8.ofNat f) c ++ (rest.extract 0 c).data.toList = pre ++ blkS (UInt8.ofNat f) (rest.data.toList.take c) := by
      unfold blkS
      rw [e1, e2, List.append_assoc]
    rw [hst] at hrow
    have hpl : (pre ++ blkS (UInt8.ofNat f) (rest.data.toList.take c)).length = pre.length + 5 + c := by
      rw [List.length_append, blkS_len, e2]
      omega
    refine ⟨by omega, by omega, Lt.of ?_⟩
    unfold stS at hpre
    have hfn : ((UInt8.ofNat f).toNat : Int) = (f : Int) := by rw [of_toNat (by omega)]
    rw [hfn]
    refine Br.eq (fun q => ?_) fun q => ?_
    · have hf1 : f = 1 ∧ rest.size ≤ 65535 := by omega
      rw [if_pos (by omega)] at hpre
      have ec : c = rest.size := by omega
      rw [ec, hf1.1, List.take_of_length_le (by omega)] at hrow
      have hrow : BRow w6 s2 (pre ++ blkS 1 rest.data.toList) := hrow
      rw [hpre] at hrow
      exact ⟨_, w6, str_row hrow, rfl, rfl, he6⟩
    · have hf0 : f = 0 ∧ 65535 < rest.size := by omega
      rw [if_neg (by omega)] at hpre
      have ec : c = 65535 := by omega
      have esz : (rest.extract c rest.size).size = rest.size - 65535 := by rw [ByteArray.size_extract]; omega
      refine ⟨k, by omega, pre ++ blkS (UInt8.ofNat f) (rest.data.toList.take c), by rw [esz]; omega, ?_, by rw [esz, hpl]; omega, hrow, he6, ho6⟩
      rw [← hpre, extract_drop, ec, hf0.1, List.append_assoc]
      rfl
  refine ⟨fun f w4 => w4 = w3 ∧ ∃ f' : Nat, f = (f' : Int) ∧ ((f' = 1 ∧ rest.size ≤ 65535) ∨ (f' = 0 ∧ 65535 < rest.size)), ?_, ?_⟩
  · rintro f _ ⟨rfl, f', rfl, hf⟩
    exact fact f' hf
  · dsimp only
    rw [min_int]
    refine Lt.of (Br.eq (fun q => ⟨rfl, 1, rfl, .inl ⟨rfl, by omega⟩⟩) fun q => ⟨rfl, 0, rfl, .inr ⟨rfl, by omega⟩⟩)
end Inf
end Go.Proofs.Ytjkoafjnmkchdaa

/- The formulas of 4 functions of the program, written by program (gen.py); the kernel checks each. No condition. -/
namespace Go.Proofs.Ytjkoafjnmkchdaa
open Sh
set_option linter.unusedVariables false
set_option maxRecDepth 100000

def C8 (w : World) (R : Bool → World → Prop) (PR : Value → World → Prop) : Prop :=
  Calls Try.prog 8 #[] w fun e w' => (∃ r0 : Bool, e = .returned (.bool r0) ∧ R r0 w') ∨ ∃ v, e = .panicked (onePanic v) ∧ PR v w'
theorem C8.mono {w : World} {R R' : Bool → World → Prop} {PR PR' : Value → World → Prop} (h : C8 w R PR) (hr : ∀ r0 w', R r0 w' → R' r0 w') (hp : ∀ v w', PR v w' → PR' v w') : C8 w R' PR' :=
  Calls.mono h fun _ _ he => he.elim (fun ⟨r0, he, hR⟩ => .inl ⟨r0, he, hr _ _ hR⟩) fun ⟨v, he, hP⟩ => .inr ⟨v, he, hp _ _ hP⟩
def C7 (size1 : Int) (far2 : Int) (w : World) (R : Bool → World → Prop) (PR : Value → World → Prop) : Prop :=
  Calls Try.prog 7 #[.int .i64 size1, .int .i64 far2] w fun e w' => (∃ r0 : Bool, e = .returned (.bool r0) ∧ R r0 w') ∨ ∃ v, e = .panicked (onePanic v) ∧ PR v w'
theorem C7.mono {size1 : Int} {far2 : Int} {w : World} {R R' : Bool → World → Prop} {PR PR' : Value → World → Prop} (h : C7 size1 far2 w R PR) (hr : ∀ r0 w', R r0 w' → R' r0 w') (hp : ∀ v w', PR v w' → PR' v w') : C7 size1 far2 w R' PR' :=
  Calls.mono h fun _ _ he => he.elim (fun ⟨r0, he, hR⟩ => .inl ⟨r0, he, hr _ _ hR⟩) fun ⟨v, he, hP⟩ => .inr ⟨v, he, hp _ _ hP⟩
def C5 (l1 : Slc) (w : World) (R : Bool → World → Prop) (PR : Value → World → Prop) : Prop :=
  Calls Try.prog 5 #[Slc.v l1] w fun e w' => (∃ r0 : Bool, e = .returned (.bool r0) ∧ R r0 w') ∨ ∃ v, e = .panicked (onePanic v) ∧ PR v w'
theorem C5.mono {l1 : Slc} {w : World} {R R' : Bool → World → Prop} {PR PR' : Value → World → Prop} (h : C5 l1 w R PR) (hr : ∀ r0 w', R r0 w' → R' r0 w') (hp : ∀ v w', PR v w' → PR' v w') : C5 l1 w R' PR' :=
  Calls.mono h fun _ _ he => he.elim (fun ⟨r0, he, hR⟩ => .inl ⟨r0, he, hr _ _ hR⟩) fun ⟨v, he, hP⟩ => .inr ⟨v, he, hp _ _ hP⟩
def C4 (s1 : ByteArray) (w : World) (R : Bool → World → Prop) (PR : Value → World → Prop) : Prop :=
  Calls Try.prog 4 #[.string s1] w fun e w' => (∃ r0 : Bool, e = .returned (.bool r0) ∧ R r0 w') ∨ ∃ v, e = .panicked (onePanic v) ∧ PR v w'
theorem C4.mono {s1 : ByteArray} {w : World} {R R' : Bool → World → Prop} {PR PR' : Value → World → Prop} (h : C4 s1 w R PR) (hr : ∀ r0 w', R r0 w' → R' r0 w') (hp : ∀ v w', PR v w' → PR' v w') : C4 s1 w R' PR' :=
  Calls.mono h fun _ _ he => he.elim (fun ⟨r0, he, hR⟩ => .inl ⟨r0, he, hr _ _ hR⟩) fun ⟨v, he, hP⟩ => .inr ⟨v, he, hp _ _ hP⟩

/-- foliant/foliantlaw12.lives -/
def S8 (w : World) (R : Bool → World → Prop) (PR : Value → World → Prop) : Prop :=
  C11 (⟨#[97, 98, 99, 97, 98, 99, 97, 98]⟩ : ByteArray) w fun r1 vw2 =>
    Nw vw2 (.cells #[.int .u8 97, .int .i64 0, .int .i64 0, .int .u8 0, .int .i64 3, .int .i64 1] 34) fun vw3 =>
    C13 (⟨some ⟨vw2.heap.size, 0, none⟩, 2, 2⟩ : Slc) vw3 fun r4 r5 vw6 =>
      Nw vw6 (.cells #[.int .u8 0, .int .i64 3, .int .i64 1] 34) fun vw7 =>
      C13 (⟨some ⟨vw6.heap.size, 0, none⟩, 1, 1⟩ : Slc) vw7 fun r8 r9 vw10 =>
        C16 12 vw10 fun r11 r12 r13 r14 vw15 =>
          C16 258 vw15 fun r16 r17 r18 r19 vw20 =>
            C18 32768 vw20 fun r21 r22 r23 r24 vw25 =>
              C9 (⟨#[]⟩ : ByteArray) 0 vw25 (fun r26 r27 vw28 =>
                C9 (⟨#[]⟩ : ByteArray) 3 vw28 (fun r29 r30 vw31 =>
                  Br (((r1.len : Nat) : Int) == 4) (0 ≤ (3 : Int) ∧ (3 : Int) < (r1.len : Nat) ∧ Nn r1.p fun a32 =>
                    Ld vw31 (a32.add (((3 : Int)).toNat * 3)) (Value.int .u8) fun (x33 : Int) =>
                    Ld vw31 ((a32.add (((3 : Int)).toNat * 3)).add 1) (Value.int .i64) fun (x34 : Int) =>
                    Ld vw31 ((a32.add (((3 : Int)).toNat * 3)).add 2) (Value.int .i64) fun (x35 : Int) =>
                    Br ((x33 == 0) && ((x34 == 5) && ((x35 == 3) && true))) (Br (r4.toList == (⟨#[97, 97, 97, 97]⟩ : ByteArray).toList) (Br (r5 == 0) (Br (r9 == 14) (Br (r11 == 265) (Br (r12 == 1) (Br (r13 == 1) (Br (r14 == 0) (Br (r16 == 285) (Br (r19 == 0) (Br (r21 == 29) (Br (r22 == 8191) (Br (r23 == 13) (Br (r24 == 0) (Br (r26.toList == (⟨#[1, 0, 0, 255, 255]⟩ : ByteArray).toList) (Br (r27 == 0) (R (r30 == 1) vw31) (R false vw31)) (R false vw31)) (R false vw31)) (R false vw31)) (R false vw31)) (R false vw31)) (R false vw31)) (R false vw31)) (R false vw31)) (R false vw31)) (R false vw31)) (R false vw31)) (R false vw31)) (R false vw31)) (R false vw31)) (R false vw31)) (R false vw31)) PR) PR
def pl8 : Plan := (.seq (.reg .seq) (.seq (.reg .seq) (.seq (.reg .seq) (.seq (.reg .seq) (.seq (.reg .seq) (.seq (.reg .seq) (.seq (.reg .seq) (.seq (.reg .seq) (.seq (.reg .seq) (.seq (.reg .seq) .leaf))))))))))
set_option maxRecDepth 100000 in
theorem T8 (w : World) (R : Bool → World → Prop) (PR : Value → World → Prop) (h : S8 w R PR) : C8 w R PR := by
  have e : fnT Try.prog ⟨FF, MAY, PR⟩ pl8 Try.f8 [] w [(.one .bool)] (fun s w => R s w) = S8 w R PR := by kernel_rfl
  exact (fn_callsP okF okM Try.func8 (by kernel_rfl) (by kernel_rfl) (e.mpr h)).mono fun _ _ he => he.elim (fun ⟨s, he, hR⟩ => .inl ⟨s, he, hR⟩) .inr

def S7J1 (far2 : Int) (r13 : Int) (r14 : Int) (r16 : Int) (R : Bool → World → Prop) (PR : Value → World → Prop) (s26 : Unit) (vw27 : World) : Prop :=
  Br (r16 == 0) (C21 r13 r14 vw27 fun r28 r29 vw30 =>
      Br (r28 != far2) (R false vw30) (Br (r29 != 0) (R false vw30) (C8 vw30 (fun r31 vw32 =>
            R r31 vw32) PR))) (C8 vw27 (fun r33 vw34 =>
      R r33 vw34) PR)
/-- foliant/foliantlaw12.DeflateSigns -/
def S7 (size1 : Int) (far2 : Int) (w : World) (R : Bool → World → Prop) (PR : Value → World → Prop) : Prop :=
  C16 size1 w fun r3 r4 r5 r6 vw7 =>
    C17 size1 vw7 fun r8 r9 r10 r11 vw12 =>
      Br (r3 != r8) (R false vw12) (Br (r4 != r9) (R false vw12) (Br (r5 != r10) (R false vw12) (Br (r6 != r11) (R false vw12) (C18 far2 vw12 fun r13 r14 r15 r16 vw17 =>
                C19 far2 vw17 fun r18 r19 r20 r21 vw22 =>
                  Br (r13 != r18) (R false vw22) (Br (r14 != r19) (R false vw22) (Br (r15 != r20) (R false vw22) (Br (r16 != r21) (R false vw22) (Join (S7J1 far2 r13 r14 r16 R PR) fun (vJ35 : Unit → World → Prop) =>
                            Br (r6 == 0) (C20 r3 r4 vw22 fun r36 r37 vw38 =>
                                Br (r36 != size1) (R false vw38) (Br (r37 != 0) (R false vw38) (vJ35 () vw38))) (vJ35 () vw22)))))))))
def pl7 : Plan := (.seq (.reg .seq) (.seq (.reg .seq) (.seq (.reg .seq) (.seq (.seq (.reg .seq) (.cond (.seq (.reg .seq) .leaf) .leaf)) (.seq (.reg .seq) (.seq (.reg .seq) (.seq (.seq (.reg .seq) (.cond (.seq (.reg .seq) .leaf) .leaf)) (.join [] [1, 13, 14, 16] (.seq (.reg .seq) (.cond (.seq (.reg .seq) (.seq (.reg .seq) (.cond (.seq (.reg .seq) .leaf) .leaf))) .leaf)) (.seq (.seq (.reg .seq) (.cond (.seq (.reg .seq) (.seq (.reg .seq) (.cond (.seq (.reg .seq) .leaf) .leaf))) .leaf)) (.seq (.reg .seq) .leaf))))))))))
set_option maxRecDepth 100000 in
theorem T7 (size1 : Int) (far2 : Int) (w : World) (R : Bool → World → Prop) (PR : Value → World → Prop) (h : S7 size1 far2 w R PR) : C7 size1 far2 w R PR := by
  have e : fnT Try.prog ⟨FF, MAY, PR⟩ pl7 Try.f7 [.int .i64 size1, .int .i64 far2] w [(.one .bool)] (fun s w => R s w) = S7 size1 far2 w R PR := by kernel_rfl
  exact (fn_callsP okF okM Try.func7 (by kernel_rfl) (by kernel_rfl) (e.mpr h)).mono fun _ _ he => he.elim (fun ⟨s, he, hR⟩ => .inl ⟨s, he, hR⟩) .inr

def S5L1 (l1 : Slc) (R : Bool → World → Prop) (PR : Value → World → Prop) (I21 : (Slc × Int) → World → Prop) (s19 : Slc × Int) (vw20 : World) : Prop :=
  Br (decide (s19.2 < ((l1.len : Nat) : Int))) (∃ vS22 : World → Prop, vS22 vw20.drew ∧ 0 ≤ s19.2 ∧ s19.2 < (l1.len : Nat) ∧ Nn l1.p fun a23 =>
    LdS vS22 (a23.add ((s19.2).toNat * 3)) (Value.int .u8) fun (x24 : Int) =>
    0 ≤ s19.2 ∧ s19.2 < (l1.len : Nat) ∧ Nn l1.p fun a25 =>
    LdS vS22 ((a25.add ((s19.2).toNat * 3)).add 1) (Value.int .i64) fun (x26 : Int) =>
    0 ≤ s19.2 ∧ s19.2 < (l1.len : Nat) ∧ Nn l1.p fun a27 =>
    LdS vS22 ((a27.add ((s19.2).toNat * 3)).add 2) (Value.int .i64) fun (x28 : Int) =>
    Nw vw20.drew (.cells #[.int .u8 x24, .int .i64 x26, .int .i64 x28] 34) fun vw29 =>
    Rn Try.prog (Builtin.append_ #[29, 29] 29 #[Slc.v s19.1, Slc.v ((⟨some ⟨vw20.drew.heap.size, 0, none⟩, 1, 1⟩ : Slc))]) vw29 Slc.v fun (x30 : Slc) vw31 =>
    I21 (x30, IntKind.i64.wrap (s19.2 + 1)) vw31) (C13 s19.1 vw20 fun r32 r33 vw34 =>
      C14 l1 vw34 fun r35 r36 vw37 =>
        Br (r32.toList == r35.toList) (Br (r33 == r36) (C8 vw37 (fun r38 vw39 =>
              R r38 vw39) PR) (R false vw37)) (R false vw37))
/-- foliant/foliantlaw12.DeflateUnparts -/
def S5 (l1 : Slc) (w : World) (R : Bool → World → Prop) (PR : Value → World → Prop) : Prop :=
  Br (decide (((l1.len : Nat) : Int) > 100)) (C8 w (fun r4 vw5 =>
      R r4 vw5) PR) (Lp (σ := Slc × Int) (S5L1 l1 R PR) ((⟨none, 0, 0⟩ : Slc), 0) w)
def pl5 : Plan := (.seq (.reg .seq) (.seq (.seq (.reg .seq) (.cond (.seq (.reg .seq) .leaf) .leaf)) (.seq (.reg .seq) (.seq (.seq (.reg .seq) (.block (.loop [(3, (.one .slc)), (4, (.one (.int .i64)))] [0] (.seq (.seq (.reg .seq) (.cond .leaf .leaf)) (.seq (.block (.reg (.held [16] (.take 0 (.take 1 (.take 2 (.take 3 (.take 4 (.take 5 (.take 6 (.take 7 (.take 8 (.take 9 (.take 10 (.take 11 (.take 12 (.take 13 (.take 14 (.take 15 (.eff 16 (some [17]) (.eff 17 (some [18]) (.eff 18 (some []) (.take 19 .done))))))))))))))))))))))) (.reg .seq)))))) (.seq (.reg .seq) (.seq (.reg .seq) (.seq (.reg .seq) .leaf)))))))
set_option maxRecDepth 100000 in
theorem T5 (l1 : Slc) (w : World) (R : Bool → World → Prop) (PR : Value → World → Prop) (h : S5 l1 w R PR) : C5 l1 w R PR := by
  have e : fnT Try.prog ⟨FF, MAY, PR⟩ pl5 Try.f5 [Slc.v l1] w [(.one .bool)] (fun s w => R s w) = S5 l1 w R PR := by kernel_rfl
  exact (fn_callsP okF okM Try.func5 (by kernel_rfl) (by kernel_rfl) (e.mpr h)).mono fun _ _ he => he.elim (fun ⟨s, he, hR⟩ => .inl ⟨s, he, hR⟩) .inr

def S4L1 (s1 : ByteArray) (r6 : Slc) (r8 : Slc) (R : Bool → World → Prop) (PR : Value → World → Prop) (I27 : Int → World → Prop) (s25 : Int) (vw26 : World) : Prop :=
  Br (decide (s25 < ((r6.len : Nat) : Int))) (0 ≤ s25 ∧ s25 < (r6.len : Nat) ∧ Nn r6.p fun a28 =>
    Ld vw26.drew (a28.add ((s25).toNat * 3)) (Value.int .u8) fun (x29 : Int) =>
    0 ≤ s25 ∧ s25 < (r8.len : Nat) ∧ Nn r8.p fun a30 =>
    Ld vw26.drew (a30.add ((s25).toNat * 3)) (Value.int .u8) fun (x31 : Int) =>
    Br (x29 != x31) (R false vw26.drew) (0 ≤ s25 ∧ s25 < (r6.len : Nat) ∧ Nn r6.p fun a32 =>
      Ld vw26.drew ((a32.add ((s25).toNat * 3)).add 1) (Value.int .i64) fun (x33 : Int) =>
      0 ≤ s25 ∧ s25 < (r8.len : Nat) ∧ Nn r8.p fun a34 =>
      Ld vw26.drew ((a34.add ((s25).toNat * 3)).add 1) (Value.int .i64) fun (x35 : Int) =>
      Br (x33 != x35) (R false vw26.drew) (0 ≤ s25 ∧ s25 < (r6.len : Nat) ∧ Nn r6.p fun a36 =>
        Ld vw26.drew ((a36.add ((s25).toNat * 3)).add 2) (Value.int .i64) fun (x37 : Int) =>
        0 ≤ s25 ∧ s25 < (r8.len : Nat) ∧ Nn r8.p fun a38 =>
        Ld vw26.drew ((a38.add ((s25).toNat * 3)).add 2) (Value.int .i64) fun (x39 : Int) =>
        Br (x37 != x39) (R false vw26.drew) (I27 (IntKind.i64.wrap (s25 + 1)) vw26.drew)))) (C13 r6 vw26 fun r40 r41 vw42 =>
      Br (r40.toList == s1.toList) (Br (r41 == 0) (C8 vw42 (fun r43 vw44 =>
            R r43 vw44) PR) (R false vw42)) (R false vw42))
/-- foliant/foliantlaw12.DeflateParts -/
def S4 (s1 : ByteArray) (w : World) (R : Bool → World → Prop) (PR : Value → World → Prop) : Prop :=
  Br (decide ((((s1).size : Nat) : Int) > 600)) (C8 w (fun r4 vw5 =>
      R r4 vw5) PR) (C11 s1 w fun r6 vw7 =>
      C12 s1 vw7 fun r8 vw9 =>
        Br (((r6.len : Nat) : Int) != ((r8.len : Nat) : Int)) (R false vw9) (Lp (σ := Int) (S4L1 s1 r6 r8 R PR) 0 vw9))
def pl4 : Plan := (.seq (.reg .seq) (.seq (.seq (.reg .seq) (.cond (.seq (.reg .seq) .leaf) .leaf)) (.seq (.reg .seq) (.seq (.seq (.reg .seq) (.cond (.seq (.reg .seq) .leaf) .leaf)) (.seq (.seq (.reg .seq) (.block (.loop [(5, (.one (.int .i64)))] [0, 3, 4] (.seq (.seq (.reg .seq) (.cond .leaf .leaf)) (.seq (.block (.seq (.reg .still) (.cond (.seq (.reg .seq) .leaf) .leaf))) (.reg .seq)))))) (.seq (.reg .seq) (.seq (.reg .seq) .leaf)))))))
set_option maxRecDepth 100000 in
theorem T4 (s1 : ByteArray) (w : World) (R : Bool → World → Prop) (PR : Value → World → Prop) (h : S4 s1 w R PR) : C4 s1 w R PR := by
  have e : fnT Try.prog ⟨FF, MAY, PR⟩ pl4 Try.f4 [.string s1] w [(.one .bool)] (fun s w => R s w) = S4 s1 w R PR := by kernel_rfl
  exact (fn_callsP okF okM Try.func4 (by kernel_rfl) (by kernel_rfl) (e.mpr h)).mono fun _ _ he => he.elim (fun ⟨s, he, hR⟩ => .inl ⟨s, he, hR⟩) .inr

end Go.Proofs.Ytjkoafjnmkchdaa

/- The formulas of 2 functions of the program, written by program (gen.py); the kernel checks each. No condition. -/
namespace Go.Proofs.Ytjkoafjnmkchdaa
open Sh
set_option linter.unusedVariables false
set_option maxRecDepth 100000

def C6 (n1 : Int) (c2 : Int) (w : World) (R : Bool → World → Prop) (PR : Value → World → Prop) : Prop :=
  Calls Try.prog 6 #[.int .i64 n1, .int .u8 c2] w fun e w' => (∃ r0 : Bool, e = .returned (.bool r0) ∧ R r0 w') ∨ ∃ v, e = .panicked (onePanic v) ∧ PR v w'
theorem C6.mono {n1 : Int} {c2 : Int} {w : World} {R R' : Bool → World → Prop} {PR PR' : Value → World → Prop} (h : C6 n1 c2 w R PR) (hr : ∀ r0 w', R r0 w' → R' r0 w') (hp : ∀ v w', PR v w' → PR' v w') : C6 n1 c2 w R' PR' :=
  Calls.mono h fun _ _ he => he.elim (fun ⟨r0, he, hR⟩ => .inl ⟨r0, he, hr _ _ hR⟩) fun ⟨v, he, hP⟩ => .inr ⟨v, he, hp _ _ hP⟩
def C3 (s1 : ByteArray) (level2 : Int) (w : World) (R : Bool → World → Prop) (PR : Value → World → Prop) : Prop :=
  Calls Try.prog 3 #[.string s1, .int .i64 level2] w fun e w' => (∃ r0 : Bool, e = .returned (.bool r0) ∧ R r0 w') ∨ ∃ v, e = .panicked (onePanic v) ∧ PR v w'
theorem C3.mono {s1 : ByteArray} {level2 : Int} {w : World} {R R' : Bool → World → Prop} {PR PR' : Value → World → Prop} (h : C3 s1 level2 w R PR) (hr : ∀ r0 w', R r0 w' → R' r0 w') (hp : ∀ v w', PR v w' → PR' v w') : C3 s1 level2 w R' PR' :=
  Calls.mono h fun _ _ he => he.elim (fun ⟨r0, he, hR⟩ => .inl ⟨r0, he, hr _ _ hR⟩) fun ⟨v, he, hP⟩ => .inr ⟨v, he, hp _ _ hP⟩

def S6L1 (n1 : Int) (c2 : Int) (x11 : Slc) (R : Bool → World → Prop) (PR : Value → World → Prop) (I20 : Int → World → Prop) (s18 : Int) (vw19 : World) : Prop :=
  Br (decide (s18 < n1)) (0 ≤ s18 ∧ s18 < (x11.len : Nat) ∧ Nn x11.p fun a21 =>
    St vw19 (a21.add ((s18).toNat * 1)) (.int .u8 c2) fun vw22 =>
    I20 (IntKind.i64.wrap (s18 + 1)) vw22) (Rn Try.prog (convert 40 9 (Slc.v x11)) vw19 Value.string fun (x23 : ByteArray) vw24 =>
    C9 x23 0 vw24 (fun r25 r26 vw27 =>
      Rn Try.prog (convert 40 9 (Slc.v x11)) vw27 Value.string fun (x28 : ByteArray) vw29 =>
      C15 x28 0 vw29 fun r30 r31 vw32 =>
        Br (r26 == 0) (Br (r31 == 0) (Br (r25.toList == r30.toList) (C8 vw32 (fun r33 vw34 =>
                R r33 vw34) PR) (R false vw32)) (R false vw32)) (R false vw32)) PR)
/-- foliant/foliantlaw12.DeflateStored -/
def S6 (n1 : Int) (c2 : Int) (w : World) (R : Bool → World → Prop) (PR : Value → World → Prop) : Prop :=
  Br (decide (n1 < 0)) (C8 w (fun r7 vw8 =>
      R r7 vw8) PR) (Br (decide (n1 > 140000)) (C8 w (fun r9 vw10 =>
        R r9 vw10) PR) (Rn Try.prog (Instr.makeSlice 40 (.int .i64 n1) (.int .i64 n1)) w Slc.v fun (x11 : Slc) vw12 =>
      Lp (σ := Int) (S6L1 n1 c2 x11 R PR) 0 vw12))
def pl6 : Plan := (.seq (.reg .seq) (.seq (.seq (.reg .seq) (.cond (.seq (.reg .seq) .leaf) .leaf)) (.seq (.reg .seq) (.seq (.seq (.reg .seq) (.block (.loop [(6, (.one (.int .i64)))] [0, 1, 5] (.seq (.seq (.reg .seq) (.cond .leaf .leaf)) (.seq (.block (.reg .seq)) (.reg .seq)))))) (.seq (.reg .seq) (.seq (.reg .seq) (.seq (.reg .seq) .leaf)))))))
set_option maxRecDepth 100000 in
theorem T6 (n1 : Int) (c2 : Int) (w : World) (R : Bool → World → Prop) (PR : Value → World → Prop) (h : S6 n1 c2 w R PR) : C6 n1 c2 w R PR := by
  have e : fnT Try.prog ⟨FF, MAY, PR⟩ pl6 Try.f6 [.int .i64 n1, .int .u8 c2] w [(.one .bool)] (fun s w => R s w) = S6 n1 c2 w R PR := by kernel_rfl
  exact (fn_callsP okF okM Try.func6 (by kernel_rfl) (by kernel_rfl) (e.mpr h)).mono fun _ _ he => he.elim (fun ⟨s, he, hR⟩ => .inl ⟨s, he, hR⟩) .inr

/-- foliant/foliantlaw12.DeflateAll -/
def S3 (s1 : ByteArray) (level2 : Int) (w : World) (R : Bool → World → Prop) (PR : Value → World → Prop) : Prop :=
  Br (decide ((((s1).size : Nat) : Int) > 1000)) (C8 w (fun r5 vw6 =>
      R r5 vw6) PR) (C9 s1 level2 w (fun r7 r8 vw9 =>
      Br (decide (level2 < 0)) (Br (r7.toList == (⟨#[]⟩ : ByteArray).toList) (Br (r8 == 1) (C8 vw9 (fun r14 vw15 =>
              R r14 vw15) PR) (R false vw9)) (R false vw9)) (Br (decide (level2 > 2)) (Br (r7.toList == (⟨#[]⟩ : ByteArray).toList) (Br (r8 == 1) (C8 vw9 (fun r16 vw17 =>
                R r16 vw17) PR) (R false vw9)) (R false vw9)) (Br (r8 != 0) (R false vw9) (Br (level2 == 0) (Br ((((r7).size : Nat) : Int) != (IntKind.i64.wrap ((((s1).size : Nat) : Int) + 5))) (R false vw9) (Br (decide ((((r7).size : Nat) : Int) > (IntKind.i64.wrap ((((s1).size : Nat) : Int) + 21)))) (R false vw9) (C10 r7 (((s1).size : Nat) : Int) vw9 fun r18 r19 r20 vw21 =>
                    Br (r20 == 0) (Br (r18.toList == s1.toList) (Br (r19 == (((r7).size : Nat) : Int)) (C8 vw21 (fun r22 vw23 =>
                            R r22 vw23) PR) (R false vw21)) (R false vw21)) (R false vw21)))) (Br (decide ((((r7).size : Nat) : Int) > (IntKind.i64.wrap ((((s1).size : Nat) : Int) + 21)))) (R false vw9) (C10 r7 (((s1).size : Nat) : Int) vw9 fun r24 r25 r26 vw27 =>
                  Br (r26 == 0) (Br (r24.toList == s1.toList) (Br (r25 == (((r7).size : Nat) : Int)) (C8 vw27 (fun r28 vw29 =>
                          R r28 vw29) PR) (R false vw27)) (R false vw27)) (R false vw27))))))) PR)
def pl3 : Plan := (.seq (.reg .seq) (.seq (.seq (.reg .seq) (.cond (.seq (.reg .seq) .leaf) .leaf)) (.seq (.reg .seq) (.seq (.seq (.reg .seq) (.cond (.seq (.reg .seq) .leaf) .leaf)) (.seq (.seq (.reg .seq) (.cond (.seq (.reg .seq) .leaf) .leaf)) (.seq (.reg .seq) (.seq (.reg .seq) .leaf)))))))
set_option maxRecDepth 100000 in
theorem T3 (s1 : ByteArray) (level2 : Int) (w : World) (R : Bool → World → Prop) (PR : Value → World → Prop) (h : S3 s1 level2 w R PR) : C3 s1 level2 w R PR := by
  have e : fnT Try.prog ⟨FF, MAY, PR⟩ pl3 Try.f3 [.string s1, .int .i64 level2] w [(.one .bool)] (fun s w => R s w) = S3 s1 level2 w R PR := by kernel_rfl
  exact (fn_callsP okF okM Try.func3 (by kernel_rfl) (by kernel_rfl) (e.mpr h)).mono fun _ _ he => he.elim (fun ⟨s, he, hR⟩ => .inl ⟨s, he, hR⟩) .inr

end Go.Proofs.Ytjkoafjnmkchdaa

/- Deflate: the laws DeflateSigns, DeflateUnparts, DeflateParts, DeflateStored. No condition. -/
namespace Go.Proofs.Ytjkoafjnmkchdaa
namespace Inf
open Sh Bit
set_option linter.unusedVariables false
set_option linter.unusedSimpArgs false
set_option maxRecDepth 4000
set_option maxHeartbeats 1000000
/-- A slice's elements, one more than deep enough: what each is. -/
theorem rdC_slice' {P : Program} {w : World} {n k : Nat} {t e : TypeId} {cs : List Value} {α : Type} [Inhabited α] {Q : α → List Value → Prop} (hu : P.underlying t = some (.slice e)) (hk : P.cellsOf e = k) (h : RdC P w n t cs)
    (hQ : ∀ m cs', cs'.length = k → RdC P w m e cs' → ∃ q, Q q cs') : ∃ (s : Slc) (L : List α), cs = [Slc.v s] ∧ s.len = L.length ∧ L.length ≤ maxLen ∧ ∀ (i : Nat) (q : α), L[i]? = some q → ∃ a cs', s.p = some a ∧ (∀ j, j < k → w.cell? (a.add (i * k + j)) = cs'[j]?) ∧ Q q cs' := by
  obtain ⟨s, m, h1, h2⟩ := rdC_slice hu h
  rcases h2 with rfl | ⟨a, hp, g1, g2, hc⟩
  · exact ⟨_, [], h1, rfl, Nat.zero_le _, fun i q hi => by cases hi⟩
  · rw [hk] at hc
    have h' : ∀ i, ∃ q : α, i < s.len → ∃ cs', (∀ j, j < k → w.cell? (a.add (i * k + j)) = cs'[j]?) ∧ Q q cs' := fun i => by
      by_cases hi : i < s.len
      · obtain ⟨cs', hl, hc, hr⟩ := hc i hi
        obtain ⟨q, hq⟩ := hQ m cs' hl hr
        exact ⟨q, fun _ => ⟨cs', hc, hq⟩⟩
      · exact ⟨default, fun hh => absurd hh hi⟩
    refine ⟨s, (List.range s.len).map fun i => Classical.choose (h' i), h1, by simp, by simp; omega, fun i q hi => ?_⟩
    rw [List.getElem?_map] at hi
    obtain ⟨i', hi1, rfl⟩ := Option.map_eq_some_iff.1 hi
    obtain ⟨hlt, rfl⟩ := List.getElem?_eq_some_iff.1 hi1
    simp only [List.length_range] at hlt
    simp only [List.getElem_range]
    obtain ⟨cs', c1, c2⟩ := Classical.choose_spec (h' i) hlt
    exact ⟨a, cs', hp, c1, c2⟩
set_option maxRecDepth 100000 in
theorem part_rd {w : World} {n : Nat} {cs : List Value} (hl : cs.length = 3) (hn : RdC Try.prog w n 35 cs) : ∃ o : Qr, cs = prow o ∧ 0 ≤ o.1 ∧ o.1 ≤ 255 := by
  obtain ⟨c0, c1, c2, rfl⟩ : ∃ c0 c1 c2, cs = [c0, c1, c2] := by
    match cs, hl with
    | [c0, c1, c2], _ => exact ⟨c0, c1, c2, rfl⟩
  obtain ⟨x0, rfl, f0⟩ := leaf_int (k := 8) (i := 0) (u := 5) (by kernel_rfl) Try.underlying5 hn rfl
  obtain ⟨x1, rfl, f1⟩ := leaf_int (k := 8) (i := 1) (u := 3) (by kernel_rfl) Try.underlying3 hn rfl
  obtain ⟨x2, rfl, f2⟩ := leaf_int (k := 8) (i := 2) (u := 3) (by kernel_rfl) Try.underlying3 hn rfl
  exact ⟨(x0, x1, x2), rfl, wf_u8 f0⟩
theorem parts_arg {H : Type} {enc : TypeId × Value → H} {W : World} {spare : Nat → Bool} {held : Bool} {v : Value} {d : DataW H} {ps : List MemPlace} {rr : Reach} {b0 : Nat}
    (h0 : Value.okWide Try.prog W rr b0 31 v) (h : DataW.Trod enc Try.prog W 0 spare held 31 v d ps) : ∃ (s : Slc) (L : List Qr), v = Slc.v s ∧ PV W s L ∧ L.length ≤ maxLen ∧ ∀ o ∈ L, 0 ≤ o.1 ∧ o.1 ≤ 255 := by
  obtain ⟨n, hn⟩ := rdC_arg_slice Try.underlying31 h0 h
  have : Inhabited Qr := ⟨(0, 0, 0)⟩
  obtain ⟨s, L, e, l5, m5, g5⟩ := rdC_slice' (Q := fun (o : Qr) cs => cs = prow o ∧ 0 ≤ o.1 ∧ o.1 ≤ 255) Try.underlying31 (show Try.prog.cellsOf 35 = 3 by kernel_rfl) hn fun m cs' hl h => part_rd hl h
  refine ⟨s, L, by simpa using e, ⟨l5, by rw [p_len, l5], fun j v hj => ?_⟩, m5, fun o ho => ?_⟩
  · have hjl : j < L.length * 3 := by
      rw [← p_len]
      exact (List.getElem?_eq_some_iff.1 hj).1
    have hi : j / 3 < L.length := by omega
    have hjj : j = j / 3 * 3 + j % 3 := by omega
    have hLi : L[j / 3]? = some L[j / 3] := List.getElem?_eq_getElem hi
    obtain ⟨a, cs', ha, hc, rfl, _⟩ := g5 _ _ hLi
    refine ⟨a, ha, ?_⟩
    have h1 := hc (j % 3) (by omega)
    rw [hjj] at hj ⊢
    rw [p_get hLi (by omega)] at hj
    rw [h1]
    exact hj
  · obtain ⟨i, hi, rfl⟩ := List.mem_iff_getElem.1 ho
    obtain ⟨_, _, _, _, _, h⟩ := g5 i _ (List.getElem?_eq_getElem hi)
    exact h
attribute [local irreducible] Ld St Nw Nn Lt LdS
/-- foliant/deflate.All, stored. -/
theorem c_All0 {S : ByteArray} (hs : S.size ≤ 1048576) (w : World) : C9 S 0 w (fun r e w1 => r = ⟨(storedT S.data.toList).toArray⟩ ∧ e = 0 ∧ Ext (fun _ => False) w w1) (fun _ _ => False) := by
  refine T9 _ _ _ _ _ ?_
  unfold S9
  refine Br.dec (fun q => absurd q (by decide)) fun _ => Br.dec (fun q => absurd q (by decide)) fun _ => Br.dec (fun q => absurd q (by omega)) fun _ => ?_
  refine (c_stored hs w).mono ?_
  rintro r w4 ⟨rfl, he⟩
  exact Br.t rfl ⟨rfl, rfl, he⟩
theorem c_All3 (S : ByteArray) {lv : Int} (h : lv < 0 ∨ 2 < lv) (w : World) : C9 S lv w (fun r e w1 => r = ⟨#[]⟩ ∧ e = 1 ∧ Ext (fun _ => False) w w1) (fun _ _ => False) := by
  refine T9 _ _ _ _ _ ?_
  unfold S9
  exact Br.dec (fun q => ⟨rfl, rfl, Ext.refl _ _⟩) fun q1 => Br.dec (fun q => ⟨rfl, rfl, Ext.refl _ _⟩) fun q2 => absurd h (by omega)
/-- The law's checks of fixed inputs. -/
theorem lives (w : World) : C8 w (fun r w1 => r = true ∧ Ext (fun _ => False) w w1) (fun _ _ => False) := by
  refine T8 _ _ _ ?_
  unfold S8
  refine (c_Parts (S := ⟨#[97, 98, 99, 97, 98, 99, 97, 98]⟩) (by decide) w).mono ?_
  rintro r1 w2 ⟨hP, he⟩
  have eP : (partsS (⟨#[97, 98, 99, 97, 98, 99, 97, 98]⟩ : ByteArray).data.toList).map rawP = [(97, 0, 0), (98, 0, 0), (99, 0, 0), (0, 5, 3)] := by decide +kernel
  rw [eP] at hP
  refine Nw.of ?_
  have e3 := (Ext.refl (fun _ => False) w2).alloc (.cells #[.int .u8 97, .int .i64 0, .int .i64 0, .int .u8 0, .int .i64 3, .int .i64 1] 34)
  have P3 : PV (w2.alloc (.cells #[.int .u8 97, .int .i64 0, .int .i64 0, .int .u8 0, .int .i64 3, .int .i64 1] 34)) ⟨some ⟨w2.heap.size, 0, none⟩, 2, 2⟩ [(97, 0, 0), (0, 3, 1)] := ⟨rfl, VRow.of (Blk.new w2 _ _) rfl⟩
  refine (c_Unparts P3 (by decide) (by decide)).mono ?_
  rintro r4 r5 w6 ⟨h4, e6⟩
  have u1 : unR [(97, 0, 0), (0, 3, 1)] = (⟨#[97, 97, 97, 97]⟩, 0) := by decide +kernel
  rw [u1] at h4
  obtain ⟨rfl, rfl⟩ := Prod.mk.inj h4
  refine Nw.of ?_
  have e7 := (Ext.refl (fun _ => False) w6).alloc (.cells #[.int .u8 0, .int .i64 3, .int .i64 1] 34)
  have P7 : PV (w6.alloc (.cells #[.int .u8 0, .int .i64 3, .int .i64 1] 34)) ⟨some ⟨w6.heap.size, 0, none⟩, 1, 1⟩ [(0, 3, 1)] := ⟨rfl, VRow.of (Blk.new w6 _ _) rfl⟩
  refine (c_Unparts P7 (by decide) (by decide)).mono ?_
  rintro r8 r9 w10 ⟨h8, e10⟩
  have u2 : unR [(0, 3, 1)] = (⟨#[]⟩, 14) := by decide +kernel
  rw [u2] at h8
  obtain ⟨rfl, rfl⟩ := Prod.mk.inj h8
  refine (c_Sign 12 w10).mono ?_
  rintro a b c d w15 ⟨h, e15⟩
  rw [show sgnF 12 = (265, 1, 1, 0) by decide +kernel] at h
  simp only [Prod.mk.injEq] at h
  obtain ⟨rfl, rfl, rfl, rfl⟩ := h
  refine (c_Sign 258 w15).mono ?_
  rintro a b c d w20 ⟨h, e20⟩
  rw [show sgnF 258 = (285, 0, 0, 0) by decide +kernel] at h
  simp only [Prod.mk.injEq] at h
  obtain ⟨rfl, rfl, rfl, rfl⟩ := h
  refine (c_Back 32768 w20).mono ?_
  rintro a b c d w25 ⟨h, e25⟩
  rw [show bckF 32768 = (29, 8191, 13, 0) by decide +kernel] at h
  simp only [Prod.mk.injEq] at h
  obtain ⟨rfl, rfl, rfl, rfl⟩ := h
  refine (c_All0 (S := ⟨#[]⟩) (by decide) w25).mono ?_ fun _ _ h => h
  rintro r26 r27 w28 ⟨rfl, rfl, e28⟩
  refine (c_All3 (⟨#[]⟩) (lv := 3) (by decide) w28).mono ?_ fun _ _ h => h
  rintro r29 r30 w31 ⟨rfl, rfl, e31⟩
  have eA : (storedT (⟨#[]⟩ : ByteArray).data.toList) = [1, 0, 0, 255, 255] := by decide +kernel
  rw [eA]
  have hE : Ext (fun _ => False) w w31 := (((((((((he.tr e3).tr e6).tr e7).tr e10).tr e15).tr e20).tr e25).tr e28).tr e31)
  have hP31 := (((((((((hP.keep e3).keep e6).keep e7).keep e10).keep e15).keep e20).keep e25).keep e28).keep e31)
  have hl : ((r1.len : Nat) : Int) = 4 := by rw [hP31.1]; rfl
  obtain ⟨a, ha, c0, c1, c2⟩ := hP31.get (i := 3) (o := (0, 5, 3)) rfl
  rw [hl, ha]
  refine Br.t rfl ⟨by decide, by omega, Nn.of ?_⟩
  refine Ld.mk (x := 0) c0 (Ld.mk (x := 5) c1 (Ld.mk (x := 3) c2 ?_))
  refine Br.t rfl ?_
  iterate 15 refine Br.t (by first | exact beq_self_eq_true _ | decide) ?_
  exact ⟨rfl, hE⟩
theorem signs_law (a b : Int) (w : World) : C7 a b w (fun r w1 => r = true ∧ Ext (fun _ => False) w w1) (fun _ _ => False) := by
  refine T7 _ _ _ _ _ ?_
  unfold S7
  refine (c_Sign a w).mono ?_
  rintro a1 a2 a3 a4 w1 ⟨h1, e1⟩
  refine (r_Sign a w1).mono ?_
  rintro b1 b2 b3 b4 w2 ⟨h2, e2⟩
  rw [← h1] at h2
  simp only [Prod.mk.injEq] at h2
  obtain ⟨rfl, rfl, rfl, rfl⟩ := h2
  refine Br.ne (fun h => absurd rfl h) fun _ => Br.ne (fun h => absurd rfl h) fun _ => Br.ne (fun h => absurd rfl h) fun _ => Br.ne (fun h => absurd rfl h) fun _ => ?_
  refine (c_Back b w2).mono ?_
  rintro c1 c2 c3 c4 w3 ⟨h3, e3⟩
  refine (r_Back b w3).mono ?_
  rintro d1 d2 d3 d4 w4 ⟨h4, e4⟩
  rw [← h3] at h4
  simp only [Prod.mk.injEq] at h4
  obtain ⟨rfl, rfl, rfl, rfl⟩ := h4
  refine Br.ne (fun h => absurd rfl h) fun _ => Br.ne (fun h => absurd rfl h) fun _ => Br.ne (fun h => absurd rfl h) fun _ => Br.ne (fun h => absurd rfl h) fun _ => ?_
  have hE := ((e1.tr e2).tr e3).tr e4
  refine ⟨fun _ w5 => Ext (fun _ => False) w w5, ?_, ?_⟩
  · rintro _ w5 he5
    unfold S7J1
    refine Br.eq (fun q => ?_) fun q => (lives w5).mono (fun r w6 h => ⟨h.1, he5.tr h.2⟩) fun _ _ h => h
    refine (c_Far _ _ w5).mono ?_
    rintro r e w6 ⟨h, e6⟩
    have hb : ¬ (b < 1 ∨ 32768 < b) := fun hh => by
      unfold bckF at h3
      rw [if_pos hh] at h3
      have := congrArg (fun z => z.2.2.2) h3
      dsimp only at this
      omega
    have fb := far_back hb
    rw [← h3] at fb
    dsimp only at fb
    rw [fb] at h
    obtain ⟨rfl, rfl⟩ := Prod.mk.inj h
    refine Br.ne (fun h => absurd rfl h) fun _ => Br.ne (fun h => absurd rfl h) fun _ => ?_
    exact (lives w6).mono (fun r w7 h => ⟨h.1, (he5.tr e6).tr h.2⟩) fun _ _ h => h
  · refine Br.eq (fun q => ?_) fun q => hE
    refine (c_Size _ _ w4).mono ?_
    rintro r e w6 ⟨h, e6⟩
    have hb : ¬ (a < 3 ∨ 258 < a) := fun hh => by
      unfold sgnF at h1
      rw [if_pos hh] at h1
      have := congrArg (fun z => z.2.2.2) h1
      dsimp only at this
      omega
    have fb := size_back hb
    rw [← h1] at fb
    dsimp only at fb
    rw [fb] at h
    obtain ⟨rfl, rfl⟩ := Prod.mk.inj h
    refine Br.ne (fun h => absurd rfl h) fun _ => Br.ne (fun h => absurd rfl h) fun _ => hE.tr e6
theorem unparts_law {s : Slc} {L : List Qr} {w : World} (h : PV w s L) (hm : L.length ≤ maxLen) (hw : ∀ q ∈ L, 0 ≤ q.1 ∧ q.1 ≤ 255) : C5 s w (fun r w1 => r = true ∧ Ext (fun _ => False) w w1) (fun _ _ => False) := by
  refine T5 _ _ _ _ ?_
  unfold S5
  rw [h.1]
  refine Br.dec (fun _ => lives w) fun hlen => ?_
  refine ⟨fun m st w3 => ∃ i : Nat, st.2 = (i : Int) ∧ i ≤ L.length ∧ m = L.length - i ∧ Row w3 st.1 34 3 ((L.take i).flatMap prow) ∧ Ext (fun _ => False) w w3 ∧ ∀ j, st.1.own j → w.heap.size ≤ j, L.length, ⟨0, rfl, Nat.zero_le _, rfl, Row.nil _ _ _, Ext.refl _ _, fun j hj => by obtain ⟨a, ha, _⟩ := hj; cases ha⟩, ?_⟩
  rintro m ⟨sl, i'⟩ w3 ⟨i, hi', hi, rfl, hr, he, ho⟩
  simp only at hi' hr ho
  subst hi'
  unfold S5L1
  dsimp only
  rw [h.1]
  refine Br.dec (fun q => ?_) fun q => ?_
  · have hil : i < L.length := by omega
    obtain ⟨⟨b, n, f⟩, hio, hmem, _⟩ := drop_at hil
    refine ⟨fun w' => PV w' s L, (h.keep he).keep (Ext.refl _ _).drew, by omega, by omega, ?_⟩
    obtain ⟨a, ha, _⟩ := (h.keep he).get hio
    have g : ∀ w', PV w' s L → w'.cell? (a.add (i * 3)) = some (.int .u8 b) ∧ w'.cell? ((a.add (i * 3)).add 1) = some (.int .i64 n) ∧ w'.cell? ((a.add (i * 3)).add 2) = some (.int .i64 f) := fun w' hw' => by
      obtain ⟨a', ha', c⟩ := hw'.get hio
      rw [ha] at ha'
      cases ha'
      exact c
    rw [ha, Int.toNat_natCast]
    refine Nn.of (LdS.mk (x := b) (fun w' hw' => (g w' hw').1) ⟨by omega, by omega, Nn.of (LdS.mk (x := n) (fun w' hw' => (g w' hw').2.1) ⟨by omega, by omega, Nn.of (LdS.mk (x := f) (fun w' hw' => (g w' hw').2.2) ?_)⟩)⟩)
    have hd := (Ext.refl (fun _ => False) w3).drew
    refine pushP elP (D := L.take i) (hr.keep hd fun _ _ h => h) (by rw [List.length_take]; omega) (b, n, f) fun s' w' r1 r2 r3 => ?_
    have z := he.size
    refine ⟨L.length - (i + 1), by omega, i + 1, by rw [i64_id (by omega)]; rfl, by omega, rfl, ?_, (he.tr hd).trans r2 (fun _ h => h) fun j hj e => by have := ho j e; omega, fun j hj => ?_⟩
    · rw [List.take_add_one, hio]
      exact r1
    · rcases r3 j hj with e | e
      · exact ho j e
      · exact Nat.le_trans z e
  · have : i = L.length := by omega
    subst this
    rw [List.take_length] at hr
    refine (c_Unparts (row_pv hr) hw (by omega)).mono ?_
    rintro x1 x2 w4 ⟨h4, e4⟩
    refine (r_Unparts ((h.keep he).keep e4) hw (by omega)).mono ?_
    rintro y1 y2 w5 ⟨h5, e5⟩
    rw [← h4] at h5
    obtain ⟨rfl, rfl⟩ := Prod.mk.inj h5
    refine Br.eq (fun _ => Br.eq (fun _ => ?_) fun h => absurd rfl h) fun h => absurd rfl h
    exact (lives w5).mono (fun r w6 h => ⟨h.1, ((he.tr e4).tr e5).tr h.2⟩) fun _ _ h => h
theorem partsS_back (s : List UInt8) (h : s.length ≤ 1048576) : unR ((partsS s).map rawP) = (⟨s.toArray⟩, 0) := by
  obtain ⟨a, b⟩ := partsS_fit s
  unfold unR
  rw [unQ_fit _ _ a (by rw [b]; exact h), b]
theorem partsQ_wf (s : List UInt8) : ∀ q ∈ (partsS s).map rawP, 0 ≤ q.1 ∧ q.1 ≤ 255 := fun q hq => by
  obtain ⟨p, _, rfl⟩ := List.mem_map.1 hq
  have := p.b.toNat_lt
  exact ⟨by show 0 ≤ ((p.b.toNat : Nat) : Int); omega, by show ((p.b.toNat : Nat) : Int) ≤ 255; omega⟩
theorem parts_law (S : ByteArray) (w : World) : C4 S w (fun r w1 => r = true ∧ Ext (fun _ => False) w w1) (fun _ _ => False) := by
  have hsz : S.data.toList.length = S.size := (size_list S).symm
  refine T4 _ _ _ _ ?_
  unfold S4
  refine Br.dec (fun _ => lives w) fun hlen => ?_
  refine (c_Parts (S := S) (by omega) w).mono ?_
  rintro r6 w7 ⟨P6, e7⟩
  refine (r_Parts (S := S) (by omega) w7).mono ?_
  rintro r8 w9 ⟨P8, e9⟩
  have P6 := P6.keep e9
  have hpl : (partsS S.data.toList).length ≤ S.data.toList.length := partsF_len _ _ _
  have back := partsS_back S.data.toList (by omega)
  have hwf := partsQ_wf S.data.toList
  have hl : ((partsS S.data.toList).map rawP).length ≤ 600 := by rw [List.length_map]; omega
  generalize (partsS S.data.toList).map rawP = L at P6 P8 back hwf hl
  rw [P6.1, P8.1]
  refine Br.ne (fun h => absurd rfl h) fun _ => ?_
  refine ⟨fun m st w3 => ∃ i : Nat, st = (i : Int) ∧ i ≤ L.length ∧ m = L.length - i ∧ Ext (fun _ => False) w9 w3, L.length, ⟨0, rfl, Nat.zero_le _, rfl, Ext.refl _ _⟩, ?_⟩
  rintro m st w3 ⟨i, rfl, hi, rfl, he⟩
  unfold S4L1
  rw [P6.1, P8.1]
  refine Br.dec (fun q => ?_) fun q => ?_
  · have hil : i < L.length := by omega
    obtain ⟨⟨b, n, f⟩, hio, hmem, _⟩ := drop_at hil
    obtain ⟨a, ha, c0, c1, c2⟩ := (P6.keep he.drew).get hio
    obtain ⟨a', ha', d0, d1, d2⟩ := (P8.keep he.drew).get hio
    rw [ha, ha', Int.toNat_natCast]
    refine ⟨by omega, by omega, Nn.of (Ld.mk (x := b) c0 ⟨by omega, by omega, Nn.of (Ld.mk (x := b) d0 ?_)⟩)⟩
    refine Br.ne (fun h => absurd rfl h) fun _ => ?_
    refine ⟨by omega, by omega, Nn.of (Ld.mk (x := n) c1 ⟨by omega, by omega, Nn.of (Ld.mk (x := n) d1 ?_)⟩)⟩
    refine Br.ne (fun h => absurd rfl h) fun _ => ?_
    refine ⟨by omega, by omega, Nn.of (Ld.mk (x := f) c2 ⟨by omega, by omega, Nn.of (Ld.mk (x := f) d2 ?_)⟩)⟩
    refine Br.ne (fun h => absurd rfl h) fun _ => ?_
    exact ⟨L.length - (i + 1), by omega, i + 1, by rw [i64_id (by omega)]; rfl, by omega, rfl, he.drew⟩
  · refine (c_Unparts (P6.keep he) hwf (by omega)).mono ?_
    rintro x1 x2 w4 ⟨h4, e4⟩
    rw [back] at h4
    obtain ⟨rfl, rfl⟩ := Prod.mk.inj h4
    refine Br.eq (fun _ => Br.eq (fun _ => ?_) fun h => absurd rfl h) fun h => absurd rfl h
    exact (lives w4).mono (fun r w6 h => ⟨h.1, (((e7.tr e9).tr he).tr e4).tr h.2⟩) fun _ _ h => h
end Inf
end Go.Proofs.Ytjkoafjnmkchdaa

/- Deflate: All, and the law DeflateAll. Conditions: sizes. -/
namespace Go.Proofs.Ytjkoafjnmkchdaa
namespace Inf
open Sh Bit
set_option linter.unusedVariables false
set_option linter.unusedSimpArgs false
set_option maxRecDepth 4000
set_option maxHeartbeats 1000000
attribute [local irreducible] Ld St Nw Nn Lt LdS
theorem c_cl {s : ByteArray} (hs : s.size ≤ 281474976710656) (w : World) : C25 s w fun r w1 => r = s ∧ Ext (fun _ => False) w w1 := by
  refine T25 _ _ _ ?_
  unfold S25
  exact (c_cloneS s hs w).mono fun r w1 h => h
/-- What All answers. -/
def AllR (S : ByteArray) (lv : Int) (w : World) (r : ByteArray) (e : Int) (w1 : World) : Prop :=
  e = 0 ∧ (∃ T : List UInt8, r = ⟨T.toArray⟩ ∧ Gives T S.data.toList ∧ T.length ≤ S.size + 5 ∧ (lv = 0 → T.length = S.size + 5)) ∧ Ext (fun _ => False) w w1
theorem size_mk (T : List UInt8) : (⟨T.toArray⟩ : ByteArray).size = T.length := by show T.toArray.size = _; simp
theorem c_All {S : ByteArray} (hs : S.size ≤ 65535) {lv : Int} (h0 : 0 ≤ lv) (h2 : lv ≤ 2) (w : World) : C9 S lv w (fun r e w1 => AllR S lv w r e w1) (fun _ _ => False) := by
  have hsz : S.data.toList.length = S.size := (size_list S).symm
  refine T9 _ _ _ _ _ ?_
  unfold S9
  refine Br.dec (fun q => absurd q (by omega)) fun _ => Br.dec (fun q => absurd q (by omega)) fun _ => Br.dec (fun q => absurd q (by omega)) fun _ => ?_
  refine (c_stored (S := S) (by omega) w).mono ?_
  rintro r w4 ⟨rfl, e4⟩
  rw [storedT_small (by omega)]
  have g3 := stored_gives S.data.toList (by omega)
  have l3 : (blkS 1 S.data.toList).length = S.size + 5 := by rw [blkS_len]; omega
  generalize blkS 1 S.data.toList = T3 at g3 l3
  refine Br.eq (fun q => ⟨rfl, ⟨T3, rfl, g3, by omega, fun _ => l3⟩, e4⟩) fun hlv => ?_
  refine (c_Parts (S := S) (by omega) w4).mono ?_
  rintro r5 w6 ⟨P5, e6⟩
  obtain ⟨hfit, hfold⟩ := partsS_fit S.data.toList
  have hpl : (partsS S.data.toList).length ≤ 1048576 := by
    have : (partsS S.data.toList).length ≤ S.data.toList.length := partsF_len _ _ _
    omega
  refine (c_fixed P5 hpl hfit).mono ?_ fun _ _ h => h
  rintro r w10 ⟨rfl, e10⟩
  have g9 := fixed_gives hfit
  rw [hfold] at g9
  have P10 := P5.keep e10
  have E10 := (e4.tr e6).tr e10
  generalize fixO (partsS S.data.toList) = T9 at g9
  -- the end: a copy of one of them
  have fin : ∀ (T : List UInt8) (w12 : World), Gives T S.data.toList → T.length ≤ S.size + 5 → Ext (fun _ => False) w w12 → C25 (⟨T.toArray⟩ : ByteArray) w12 fun r w13 => AllR S lv w r 0 w13 := fun T w12 g hT e => by
    refine (c_cl (by rw [size_mk]; omega) w12).mono ?_
    rintro r w13 ⟨rfl, e13⟩
    exact ⟨rfl, ⟨T, rfl, g, hT, fun h => absurd h hlv⟩, e.tr e13⟩
  rw [size_mk, size_mk]
  refine Br.dec (fun q1 => Br.eq (fun q2 => ?_) fun q2 => ?_) fun q1 => Br.eq (fun q2 => ?_) fun q2 => ?_
  · refine (c_own P10 hpl hfit).mono ?_ fun _ _ h => h
    rintro r w12 ⟨o, hok, hh, rfl, e12⟩
    have g11 := own_gives hok hfit hh
    rw [hfold] at g11
    generalize o.T (partsS S.data.toList) = T11 at g11
    rw [size_mk]
    refine Br.dec (fun q3 => ?_) fun q3 => ?_
    · exact fin T11 w12 g11 (by omega) (E10.tr e12)
    · exact fin T9 w12 g9 (by omega) (E10.tr e12)
  · exact fin T9 w10 g9 (by omega) E10
  · refine (c_own P10 hpl hfit).mono ?_ fun _ _ h => h
    rintro r w12 ⟨o, hok, hh, rfl, e12⟩
    have g11 := own_gives hok hfit hh
    rw [hfold] at g11
    generalize o.T (partsS S.data.toList) = T11 at g11
    rw [size_mk]
    refine Br.dec (fun q3 => ?_) fun q3 => ?_
    · exact fin T11 w12 g11 (by omega) (E10.tr e12)
    · exact fin T3 w12 g3 (by omega) (E10.tr e12)
  · exact fin T3 w10 g3 (by omega) E10
theorem all_law (S : ByteArray) (lv : Int) (w : World) : C3 S lv w (fun r w1 => r = true ∧ Ext (fun _ => False) w w1) (fun _ _ => False) := by
  have hsz : S.data.toList.length = S.size := (size_list S).symm
  refine T3 _ _ _ _ _ ?_
  unfold S3
  refine Br.dec (fun _ => lives w) fun hlen => ?_
  by_cases hl : lv < 0 ∨ 2 < lv
  · refine (c_All3 S hl w).mono ?_ fun _ _ h => h
    rintro r e w1 ⟨rfl, rfl, e1⟩
    have go : Br ((⟨#[]⟩ : ByteArray).toList == (⟨#[]⟩ : ByteArray).toList) (Br ((1 : Int) == 1) (C8 w1 (fun r vw15 => r = true ∧ Ext (fun _ => False) w vw15) fun _ _ => False) (false = true ∧ Ext (fun _ => False) w w1)) (false = true ∧ Ext (fun _ => False) w w1) :=
      Br.t (beq_self_eq_true _) (Br.t rfl ((lives w1).mono (fun r w2 h => ⟨h.1, e1.tr h.2⟩) fun _ _ h => h))
    exact Br.dec (fun _ => go) fun q1 => Br.dec (fun _ => go) fun q2 => absurd hl (by omega)
  · refine (c_All (S := S) (by omega) (lv := lv) (by omega) (by omega) w).mono ?_ fun _ _ h => h
    rintro r e w1 ⟨rfl, ⟨T, rfl, g, h1, h2⟩, e1⟩
    have hR := Gives.allR g (by omega) (most := ((S.size : Nat) : Int)) (by omega)
    refine Br.dec (fun q => absurd q (by omega)) fun _ => Br.dec (fun q => absurd q (by omega)) fun _ => Br.ne (fun q => absurd rfl q) fun _ => ?_
    rw [size_mk, i64_id (n := ((S.size : Nat) : Int) + 5) (by omega), i64_id (n := ((S.size : Nat) : Int) + 21) (by omega)]
    have go : C10 (⟨T.toArray⟩ : ByteArray) (((S).size : Nat) : Int) w1 fun r18 r19 r20 vw21 =>
        Br (r20 == 0) (Br (r18.toList == S.toList) (Br (r19 == ((T.length : Nat) : Int)) (C8 vw21 (fun r w2 => r = true ∧ Ext (fun _ => False) w w2) fun _ _ => False) (false = true ∧ Ext (fun _ => False) w vw21)) (false = true ∧ Ext (fun _ => False) w vw21)) (false = true ∧ Ext (fun _ => False) w vw21) := by
      refine (r_All (s := ⟨T.toArray⟩) (by rw [size_mk]; omega) _ w1).mono ?_
      rintro a b c w2 ⟨h, e2⟩
      rw [hR] at h
      simp only [Prod.mk.injEq] at h
      obtain ⟨rfl, rfl, rfl⟩ := h
      exact Br.t rfl (Br.t (by exact beq_self_eq_true _) (Br.t (beq_self_eq_true _) ((lives w2).mono (fun r w3 h => ⟨h.1, (e1.tr e2).tr h.2⟩) fun _ _ h => h)))
    refine Br.eq (fun q => ?_) fun q => ?_
    · refine Br.ne (fun hh => absurd hh (by rw [h2 q]; simp)) fun _ => Br.dec (fun hh => absurd hh (by omega)) fun _ => go
    · exact Br.dec (fun hh => absurd hh (by omega)) fun _ => go
end Inf
end Go.Proofs.Ytjkoafjnmkchdaa
