/- (*Machine).Do. Conditions: sizes; the table of spaces is laid. -/
import Derived.Test.YtjbeembbnkmpeaaDoorStI
namespace Go.Proofs.YtjbeembbnkmpeaaDoor
namespace Ste
open Sh Mat Opr
set_option linter.unusedVariables false
set_option linter.unusedSimpArgs false
set_option maxRecDepth 8000
set_option maxHeartbeats 8000000
attribute [local irreducible] Ld Sh.St Nw Nn Lt LdS LdT LdST StT
section
variable {w w' w1 w7 : World} {s sv : Slc} {l : List Int} {L K : List Ob} {b eb : Nat} {x x' : G} {D : List Int} {a d : ByteArray} {S : List P} {t : TypeId} {v0 : Value} {m m' : Mc} {q : Opn} {r : Int}
/-- What Do gives. -/
def DoR (w w1 : World) (b : Nat) (r : Int) (m : Mc) (q : Opn) : Prop := ∃ x D sv S, doF m q = (r, mc x D S) ∧ MV w1 b x D sv S ∧ Ext (· = b) w w1
/-- The same, and which blocks its slices lie in. -/
def DoRO (O : Nat → Prop) (w w1 : World) (b : Nat) (r : Int) (m : Mc) (q : Opn) : Prop := ∃ x D sv S, doF m q = (r, mc x D S) ∧ MV w1 b x D sv S ∧ Ext (· = b) w w1 ∧ ∀ j, MO x sv S j → O j ∨ w.heap.size ≤ j
/-- The result is stored, and read again. -/
theorem c_fin {R : Int → World → Prop} (hb : Blk w7 eb [v0].toArray t) (k : ∀ w8, Ext (· = eb) w7 w8 → R r w8) : Sh.St w7 ⟨eb, 0, none⟩ (.int .i64 r) fun w8 => CD112 ⟨eb, 0, none⟩ none w8 fun w9 => Ld w9 ⟨eb, 0, none⟩ (Value.int .i64) fun (y : Int) => R y w9 := by
  refine stB hb (Nat.lt_succ_self 0) fun w8 g8 e8 => T112_nil _ _ _ ?_
  unfold S112_nil
  refine Ld.mk (x := r) ?_ (k w8 e8)
  rw [g8.cell]
  rfl
theorem c_fin0 {R : Int → World → Prop} (hb : Blk w7 eb [v0].toArray t) (k : ∀ w8, Ext (· = eb) w7 w8 → R r w8) : Sh.St w7 ⟨eb, 0, none⟩ (.int .i64 r) fun w8 => Ld w8 ⟨eb, 0, none⟩ (Value.int .i64) fun (y : Int) => R y w8 := by
  refine stB hb (Nat.lt_succ_self 0) fun w8 g8 e8 => ?_
  refine Ld.mk (x := r) ?_ (k w8 e8)
  rw [g8.cell]
  rfl
theorem c_pan {R : Int → World → Prop} (w3 : World) (hb : Blk w7 w3.heap.size [v0].toArray t) (k : ∀ w8, Ext (· = w3.heap.size) w7 w8 → R r w8) : S53P w3 R (stp r) w7 := by
  unfold S53P
  refine T112_T178 _ _ _ _ ?_
  unfold S112_T178
  have hlt := hb.lt
  refine (Hn.start w7).nw fun w8 H => ?_
  simp only [List.nil_append] at H
  refine H.st 0 rfl (by simp) fun w9 H => ?_
  simp only [List.set_cons_zero, List.set_cons_succ] at H
  refine H.ld 0 rfl rfl ?_
  refine stB (H.ext.blk hb id) (Nat.lt_succ_self 0) fun w10 g10 e10 => ?_
  refine Ld.mk (x := r) ?_ (k w10 ((H.ext.mono fun _ _ e => e.elim).tr e10))
  rw [g10.cell]
  rfl
theorem DoRO.mk {O : Nat → Prop} (h : MV w7 b x D sv S) (E : Ext (· = b) w w7) (hf : doF m q = (r, mc x D S)) (he : w.heap.size ≤ eb) (ho : ∀ j, MO x sv S j → j ≠ eb) (hbl : b < w.heap.size) (e8 : Ext (· = eb) w7 w') (hO : ∀ j, MO x sv S j → O j ∨ w.heap.size ≤ j) : DoRO O w w' b r m q :=
  ⟨x, D, sv, S, hf, h.keepF e8 (by omega) ho, E.trans e8 (fun _ h => h) fun j hj e => by omega, hO⟩
theorem elG : El Tryd.prog 106 30 30 264 (.agg (Sig.cells LG zeroG).toArray) := ⟨by kernel_rfl, by kernel_rfl, by kernel_rfl, by kernel_rfl, rfl⟩
theorem G_one (x : G) : ∀ v ∈ Sig.cells LG x, v.oneCell' = true := by
  intro v hv
  obtain ⟨i, hi⟩ := List.mem_iff_getElem?.1 hv
  have hl := (List.getElem?_eq_some_iff.1 hi).1
  rw [lenG] at hl
  iterate 30
    rcases i with _ | i
    · cases hi
      rfl
  omega
theorem mc_app (x y : G) (D E : List Int) (S : List P) : mc x D (S ++ [(y, E)]) = ⟨(er x, D), (er y, E) :: (mc x D S).saved⟩ := by unfold mc; simp
theorem mc_len (x : G) (D : List Int) (S : List P) : (mc x D S).saved.length = S.length := by unfold mc; simp
theorem mc_snoc (x y : G) (D E : List Int) (S : List P) : (mc x D (S ++ [(y, E)])).saved = (er y, E) :: (mc x D S).saved := by unfold mc; simp
theorem c_doO (hs : AS w) (hb1 : b ≠ 1) (hm : MV w b x D sv S) (h : OV w s L) (hl : L.length ≤ 9223372036854775807) (hK : OV w (ob0 L).2.2.2.2.2 K) (hKl : K.length ≤ 9223372036854775807) : C53 (some ⟨b, 0, none⟩) (a, s, d) w fun r w1 => DoRO (MO x sv S) w w1 b r (mc x D S) ⟨bl a, bl d, L, K⟩ := by
  refine T53 _ (a, s, d) _ _ ?_
  unfold S53
  have hbl := hm.blk.lt
  refine (Hn.start w).nw fun w2 H => ?_
  have hs2 := H.size
  refine H.nw fun w3 H => ?_
  simp only [List.cons_append, List.nil_append] at H
  have hlt := H.lt 1 rfl
  have same : ∀ {w7 w8 : World} {r : Int}, Ext (fun _ => False) w w7 → Ext (· = w2.heap.size) w7 w8 → doF (mc x D S) ⟨bl a, bl d, L, K⟩ = (r, mc x D S) → DoRO (MO x sv S) w w8 b r (mc x D S) ⟨bl a, bl d, L, K⟩ := fun e7 e8 hf =>
    DoRO.mk (hm.keep e7) (weak e7) hf hs2 (fun j hj => by have := (hm.own j hj).2; omega) hbl e8 fun j hj => .inl hj
  show Ld _ _ _ _
  refine H.ld 0 rfl rfl ?_
  refine (c_known a _).mono ?_
  rintro r w4 ⟨rfl, e4⟩
  have H := H.keep e4
  by_cases hk : bl a ∈ known
  case neg =>
    rw [decide_eq_false hk]
    show Sh.St _ _ _ _
    exact c_fin0 (H.get 1 rfl) fun w8 e8 => same H.ext e8 (doF_unk hk)
  rw [decide_eq_true hk]
  show Ld _ _ _ _
  iterate 3 refine H.ld 0 rfl rfl ?_
  refine (c_check (hs.keep H.ext) (h.keep H.ext) hl).mono ?_
  rintro r w5 ⟨rfl, e5⟩
  have H := H.keep e5
  refine Br.ne (fun q => c_fin0 (H.get 1 rfl) fun w8 e8 => same H.ext e8 (doF_chk hk q)) fun hck => Nn.of ?_
  have hck : chkF (bl a) L (bl d) = 0 := hck
  simp only [add_lit, Nat.zero_add]
  have hm5 := hm.keep H.ext
  have hlen : sv.len = S.length := by rw [hm.sav.len, List.length_map]
  refine ldSv hm5.blk (H.ld 0 rfl rfl ?_)
  refine BrB (fun q => ?_) fun hq => BrB (fun q => ?_) fun hQ => ?_
  · have hq : bl a = [113] := q
    refine (c_must _ 6 _).mono ?_ ?_
    rotate_left
    · rintro v w6 ⟨rfl, hh, rfl⟩
      have hh := of_decide_eq_false hh
      exact c_pan w2 (H.get 1 rfl) fun w8 e8 => same H.ext e8 (doF_qE hk hck hq (by rw [mc_len]; omega))
    rintro w6 ⟨hh, rfl⟩
    have hh := of_decide_eq_true hh
    have H := H.drew
    have hm6 := hm.keep H.ext
    have hl6 := H.lt 1 rfl
    refine ⟨fun w' => Blk w' b (Sig.cells LG x ++ [Slc.v sv]).toArray 175, hm6.blk, Nn.of ?_⟩
    simp only [add_lit, Nat.zero_add]
    refine ldSSv (fun _ h => h) ?_
    have hcap := hm.sav.cap
    have hmost := hm.most
    refine ⟨by omega, by omega, by omega, by omega, Nn.of (ldSM (fun _ h => h) ?_)⟩
    refine (c_copied hm6.dash (by have := hm6.few; omega)).mono ?_
    rintro r w7 ⟨t, rfl, ho, e7⟩
    have H := H.keep e7
    have hm7 := hm6.keep e7
    refine ⟨hm7.blk, ?_⟩
    refine (Hn.start w7).nw (cs := Sig.cells LG (up10 x t)) fun w8 H8 => ?_
    have e8 := H8.ext
    have hm8 := hm7.keep e8
    refine ⟨hm8.blk, ?_⟩
    have hv := (hm8.sav.take (n := sv.len) (by rw [List.length_map]; omega)).view
    rw [List.take_of_length_le (by rw [List.length_map]; omega)] at hv
    rw [Int.toNat_natCast]
    obtain ⟨s', w9, r1, r2, r3, e9, r5⟩ := elG.full (ty := 106) (by omega) hv rfl (H8.get 0 rfl) rfl (G_one _) (by show (sv.len - 0 + 1) * 264 ≤ _; omega) (by show sv.len - 0 + 1 ≤ _; omega)
    refine ⟨s', w9, r1, Nn.of ?_⟩
    simp only [add_lit, Nat.zero_add]
    have hm9 := hm8.keep e9
    have s67 := e7.size
    have s78 := e8.size
    have s89 := e9.size
    have E9 := (H.keep (e8.tr e9)).ext
    refine stSv hm9.blk fun w10 g10 e10 => ?_
    have s910 := e10.size
    refine c_fin (e10.blk ((H.keep (e8.tr e9)).get 1 rfl) (by omega)) fun w11 e11 => ?_
    have hrow : SVd w9 s' ((S ++ [(up10 x t, D)]).map (·.1)) := SVd.row (e := 30) (by
      rw [List.map_append, gcl_app]
      show Row _ _ _ _ (gcl (S.map (·.1)) ++ (Sig.cells LG (up10 x t) ++ []))
      rw [List.append_nil]
      exact r2)
    have hown : ∀ j, MO x s' (S ++ [(up10 x t, D)]) j → MO x sv S j ∨ (w2.heap.size < j ∧ j < w9.heap.size) := by
      rintro j (hj | hj | ⟨p, hp, hj⟩)
      · exact .inl (.inl hj)
      · have := r5 j hj
        have := r2.own_lt hj
        exact .inr ⟨by omega, by omega⟩
      · rcases List.mem_append.1 hp with hp | hp
        · exact .inl (.inr (.inr ⟨p, hp, hj⟩))
        · rw [List.mem_singleton.1 hp, dsh_10] at hj
          have := ho.2 j hj
          have := ho.1.own_lt hj
          exact .inr ⟨by omega, by omega⟩
    have hnew : MV w10 b x D s' (S ++ [(up10 x t, D)]) := by
      refine ⟨g10, hm9.dash.keepF e10 fun j hj => (hm9.own j (.inl hj)).1, hm.few, hrow.keepF e10 fun j hj e => by have := r5 j hj; omega, fun p hp => ?_, fun j hj => ?_, by rw [List.length_append, List.length_singleton]; omega⟩
      · rcases List.mem_append.1 hp with hp | hp
        · exact ⟨(hm9.each p hp).1.keepF e10 fun j hj => (hm9.own j (.inr (.inr ⟨p, hp, hj⟩))).1, (hm.each p hp).2⟩
        · rw [List.mem_singleton.1 hp]
          refine ⟨?_, hm.few⟩
          show IV _ (dsh (up10 x t)) _
          rw [dsh_10]
          exact ((ho.iv.keep e8).keep e9).keepF e10 fun j hj e => by have := ho.2 j hj; omega
      · rcases hown j hj with hj | hj
        · have := hm9.own j hj
          exact ⟨this.1, by omega⟩
        · exact ⟨by omega, by omega⟩
    refine DoRO.mk hnew ((weak E9).tr e10) ?_ hs2 (fun j hj => ?_) hbl e11 fun j hj => (hown j hj).imp id fun h => by omega
    · rw [doF_q hk hck hq (by rw [mc_len]; omega), mc_app, er_10]
      rfl
    · rcases hown j hj with hj | hj
      · have := (hm.own j hj).2
        omega
      · omega
  · have hQ : bl a = [81] := q
    refine (c_must _ 29 _).mono ?_ ?_
    rotate_left
    · rintro v w6 ⟨rfl, hh, rfl⟩
      have hh := of_decide_eq_false hh
      have hS : S = [] := List.eq_nil_of_length_eq_zero (by omega)
      exact c_pan w2 (H.get 1 rfl) fun w8 e8 => same H.ext e8 (doF_QE hk hck hQ (by rw [hS]; rfl))
    rintro w6 ⟨hh, rfl⟩
    have hh := of_decide_eq_true hh
    rcases List.eq_nil_or_concat S with rfl | ⟨S', ⟨p1, p2⟩, rfl⟩
    · simp only [List.length_nil] at hlen
      omega
    rw [List.concat_eq_append] at *
    have H := H.drew
    have hm6 := hm.keep H.ext
    have hn : sv.len = S'.length + 1 := by rw [hlen]; simp
    have hmost := hm.most
    rw [List.length_append, List.length_singleton] at hmost
    have hcap := hm.sav.cap
    have hi : IntKind.i64.wrap ((sv.len : Int) - 1) = ((S'.length : Nat) : Int) := by rw [i64_id (by omega)]; omega
    rw [hi, Int.toNat_natCast]
    have hat : ((S' ++ [(p1, p2)]).map (·.1))[S'.length]? = some p1 := by simp
    refine ⟨fun w' => Blk w' b (Sig.cells LG x ++ [Slc.v sv]).toArray 175 ∧ SVd w' sv ((S' ++ [(p1, p2)]).map (·.1)), ⟨hm6.blk, hm6.sav⟩, Nn.of ?_⟩
    simp only [add_lit, Nat.zero_add]
    refine ldSSv (fun _ h => h.1) ⟨by omega, by omega, ?_⟩
    obtain ⟨g, hg, _⟩ := hm6.sav.at' (S'.length * 30 + 0) _ (by rw [gcl_get hat (by omega)]; exact at0 p1)
    rw [hg]
    refine Nn.of ?_
    rw [add_lit, Nat.zero_add]
    refine LdST.mk LG 0 p1 _ (fun w' hw j v hj => ?_) ?_
    · have hjl := (List.getElem?_eq_some_iff.1 hj).1
      rw [lenG] at hjl
      obtain ⟨g', hg', hc⟩ := hw.2.at' (S'.length * 30 + j) v (by rw [gcl_get hat hjl]; exact hj)
      rw [hg] at hg'
      cases hg'
      rw [Nat.add_zero]
      exact hc
    refine Nn.of (ldSSv (fun _ h => h.1) ⟨by omega, by omega, by omega, by omega, Nn.of ?_⟩)
    refine stM hm6.blk fun w7 g7 e7 => Nn.of (stSv g7 fun w8 g8 e8 => ?_)
    have e78 := e7.tr e8
    have s68 := e78.size
    refine c_fin (e78.blk (H.get 1 rfl) (by omega)) fun w11 e11 => ?_
    have hown : ∀ j, MO p1 (sv.cut 30 0 S'.length S'.length) S' j → MO x sv (S' ++ [(p1, p2)]) j := by
      rintro j (hj | hj | ⟨p, hp, hj⟩)
      · exact .inr (.inr ⟨(p1, p2), by simp, hj⟩)
      · exact .inr (.inl (take_own' hj))
      · exact .inr (.inr ⟨p, by simp [hp], hj⟩)
    have hnew : MV w8 b p1 p2 (sv.cut 30 0 S'.length S'.length) S' := by
      refine ⟨g8, (hm6.each (p1, p2) (by simp)).1.keepF e78 fun j hj => (hm6.own j (hown j (.inl hj))).1, (hm.each (p1, p2) (by simp)).2, ?_, fun p hp => ⟨(hm6.each p (by simp [hp])).1.keepF e78 fun j hj => (hm6.own j (hown j (.inr (.inr ⟨p, hp, hj⟩)))).1, (hm.each p (by simp [hp])).2⟩, fun j hj => ?_, by omega⟩
      · have ht := (hm6.sav.take (n := S'.length) (by simp)).keepF e78 fun j hj => (hm6.own j (.inr (.inl (take_own' hj)))).1
        have et : ((S' ++ [(p1, p2)]).map (·.1)).take S'.length = S'.map (·.1) := by
          rw [List.map_append]
          exact List.take_left' (by simp)
        rw [et] at ht
        exact ht
      · have := hm6.own j (hown j hj)
        exact ⟨this.1, by omega⟩
    refine DoRO.mk hnew ((weak H.ext).tr e78) ?_ hs2 (fun j hj => by have := (hm.own j (hown j hj)).2; omega) hbl e11 fun j hj => .inl (hown j hj)
    rw [mc_app]
    exact doF_Q hk hck hQ rfl
  · have hq : bl a ≠ [113] := hq
    have hQ : bl a ≠ [81] := hQ
    refine Nn.of (ldM hm5.blk ?_)
    refine (c_copied hm5.dash (by have := hm5.few; omega)).mono ?_
    have hl5 := H.lt 1 rfl
    rintro r w6 ⟨t, rfl, ho, e6⟩
    have H := H.keep e6
    have hl6 := H.lt 1 rfl
    refine (Hn.start w6).nw fun w7 H7 => ?_
    simp only [List.nil_append] at H7
    have s56 := e6.size
    refine stG H7 (i := 0) rfl rfl fun w8 H8 => ?_
    simp only [List.set_cons_zero, List.set_cons_succ] at H8
    have e8 := H8.ext
    have H := H.keep e8
    have hlg := H8.lt 0 rfl
    iterate 3 refine H.ld 0 rfl rfl ?_
    have hm8 := hm.keep H.ext
    have hSB : SB w8 w6.heap.size (up10 x t) D := ⟨H8.get 0 rfl, by rw [dsh_10]; exact ho.iv.keep e8, fun j hj => by
      rw [dsh_10] at hj
      have := ho.1.own_lt hj
      omega⟩
    refine (c_chg hSB (h.keep H.ext) hck (hK.keep H.ext) hKl hk hq hQ).mono ?_ ?_
    rotate_left
    · rintro v w9 ⟨e, h1, rfl, h3⟩
      rw [er_10] at h1
      exact c_pan w2 (h3.blk (H.get 1 rfl) (by omega)) fun w11 e11 => same (Ext.new H.ext h3 fun j hj => by omega) e11 (doF_er hk hck hq hQ h1)
    rintro r w9 ⟨rfl, x', D', h1, h2, h3, h4, h5⟩
    rw [er_10] at h1
    have s89 := h4.size
    show LdT _ _ _ _ _
    refine ldG h2 (Nn.of ?_)
    have hm9 : MV w9 b x D sv S := hm8.keepF h4 (by omega) fun j hj => by have := (hm.own j hj).2; omega
    refine stM hm9.blk fun w10 g10 e10 => ?_
    have s910 := e10.size
    refine c_fin (e10.blk (h4.blk (H.get 1 rfl) (by omega)) (by omega)) fun w11 e11 => ?_
    have hx : ∀ j, (dsh x').own j → w2.heap.size < j ∧ j < w9.heap.size := fun j hj => by
      rcases h5 j hj with hh | ⟨hh, hh2⟩
      · rw [dsh_10] at hh
        have := ho.2 j hh
        have := ho.1.own_lt hh
        exact ⟨by omega, by omega⟩
      · exact ⟨by omega, by omega⟩
    have hown : ∀ j, MO x' sv S j → MO x sv S j ∨ (w2.heap.size < j ∧ j < w9.heap.size) := by
      rintro j (hj | hj | hj)
      · exact .inr (hx j hj)
      · exact .inl (.inr (.inl hj))
      · exact .inl (.inr (.inr hj))
    have hnew : MV w10 b x' D' sv S := by
      refine ⟨g10, h3.keepF e10 fun j hj e => by have := hx j hj; omega, ?_, hm9.sav.keepF e10 fun j hj => (hm9.own j (.inr (.inl hj))).1, fun p hp => ⟨(hm9.each p hp).1.keepF e10 fun j hj => (hm9.own j (.inr (.inr ⟨p, hp, hj⟩))).1, (hm9.each p hp).2⟩, fun j hj => ?_, hm.most⟩
      · rcases chg_dash h1 with hd | ⟨hd, _⟩
        · have hd : D' = D := hd
          rw [hd]
          exact hm.few
        · have hd : D'.length ≤ 32 := hd
          omega
      · rcases hown j hj with hj | hj
        · have := hm9.own j hj
          exact ⟨this.1, by omega⟩
        · exact ⟨by omega, by omega⟩
    refine DoRO.mk hnew ((weak (Ext.new H.ext h4 fun j hj => by omega)).tr e10) ?_ hs2 (fun j hj => ?_) hbl e11 fun j hj => (hown j hj).imp id fun h => by omega
    · rw [doF_ok hk hck hq hQ h1]
      rfl
    · rcases hown j hj with hj | hj
      · have := (hm.own j hj).2
        omega
      · omega
theorem c_do (hs : AS w) (hb1 : b ≠ 1) (hm : MV w b x D sv S) (h : OV w s L) (hl : L.length ≤ 9223372036854775807) (hK : OV w (ob0 L).2.2.2.2.2 K) (hKl : K.length ≤ 9223372036854775807) : C53 (some ⟨b, 0, none⟩) (a, s, d) w fun r w1 => DoR w w1 b r (mc x D S) ⟨bl a, bl d, L, K⟩ := by
  refine (c_doO hs hb1 hm h hl hK hKl).mono ?_
  rintro r w1 ⟨x', D', sv', S', h1, h2, h3, _⟩
  exact ⟨x', D', sv', S', h1, h2, h3⟩
end
end Ste
end Go.Proofs.YtjbeembbnkmpeaaDoor
