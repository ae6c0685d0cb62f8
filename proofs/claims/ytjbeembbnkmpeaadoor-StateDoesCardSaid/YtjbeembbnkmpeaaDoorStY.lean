/- The reference's machine: Do. Conditions: sizes. -/
import Derived.Test.YtjbeembbnkmpeaaDoorStX
namespace Go.Proofs.YtjbeembbnkmpeaaDoor
namespace Ste
open Sh Mat Opr
set_option linter.unusedVariables false
set_option linter.unusedSimpArgs false
set_option maxRecDepth 8000
set_option maxHeartbeats 8000000
abbrev GM : Type := Int × Int × Int × Int × Int × Int × Int × Int × Int × Int × Slc × Int × Int × Int × Int × Int × Int × Int × Int × Int × Int × Int × Int × Int × Int × Int × Int × Int × ByteArray × Int × Slc
abbrev LM : List Ty1 := [.int .i64, .int .i64, .int .i64, .int .i64, .int .i64, .int .i64, .int .i64, .int .i64, .int .i64, .int .i64, .slc, .int .i64, .int .i64, .int .i64, .int .i64, .int .i64, .int .i64, .int .i64, .int .i64, .int .i64, .int .i64, .int .i64, .int .i64, .int .i64, .int .i64, .int .i64, .int .i64, .int .i64, .str, .int .i64, .slc]
def j31 (x : G) (sv : Slc) : GM := (x.1, x.2.1, x.2.2.1, x.2.2.2.1, x.2.2.2.2.1, x.2.2.2.2.2.1, x.2.2.2.2.2.2.1, x.2.2.2.2.2.2.2.1, x.2.2.2.2.2.2.2.2.1, x.2.2.2.2.2.2.2.2.2.1, x.2.2.2.2.2.2.2.2.2.2.1, x.2.2.2.2.2.2.2.2.2.2.2.1, x.2.2.2.2.2.2.2.2.2.2.2.2.1, x.2.2.2.2.2.2.2.2.2.2.2.2.2.1, x.2.2.2.2.2.2.2.2.2.2.2.2.2.2.1, x.2.2.2.2.2.2.2.2.2.2.2.2.2.2.2.1, x.2.2.2.2.2.2.2.2.2.2.2.2.2.2.2.2.1, x.2.2.2.2.2.2.2.2.2.2.2.2.2.2.2.2.2.1, x.2.2.2.2.2.2.2.2.2.2.2.2.2.2.2.2.2.2.1, x.2.2.2.2.2.2.2.2.2.2.2.2.2.2.2.2.2.2.2.1, x.2.2.2.2.2.2.2.2.2.2.2.2.2.2.2.2.2.2.2.2.1, x.2.2.2.2.2.2.2.2.2.2.2.2.2.2.2.2.2.2.2.2.2.1, x.2.2.2.2.2.2.2.2.2.2.2.2.2.2.2.2.2.2.2.2.2.2.1, x.2.2.2.2.2.2.2.2.2.2.2.2.2.2.2.2.2.2.2.2.2.2.2.1, x.2.2.2.2.2.2.2.2.2.2.2.2.2.2.2.2.2.2.2.2.2.2.2.2.1, x.2.2.2.2.2.2.2.2.2.2.2.2.2.2.2.2.2.2.2.2.2.2.2.2.2.1, x.2.2.2.2.2.2.2.2.2.2.2.2.2.2.2.2.2.2.2.2.2.2.2.2.2.2.1, x.2.2.2.2.2.2.2.2.2.2.2.2.2.2.2.2.2.2.2.2.2.2.2.2.2.2.2.1, x.2.2.2.2.2.2.2.2.2.2.2.2.2.2.2.2.2.2.2.2.2.2.2.2.2.2.2.2.1, x.2.2.2.2.2.2.2.2.2.2.2.2.2.2.2.2.2.2.2.2.2.2.2.2.2.2.2.2.2, sv)
theorem cells_M (x : G) (sv : Slc) : Sig.cells LM (j31 x sv) = Sig.cells LG x ++ [Slc.v sv] := rfl
theorem known_size : ∀ l ∈ known, l.length < 3 := by decide
theorem known_is : ∀ l ∈ known, l = [113] ∨ l = [81] ∨ l = [105] ∨ l = [114, 105] ∨ l = [103, 115] ∨ l ∈ text7 ∨ l ∈ ([[103], [71], [114, 103], [82, 71], [107], [75]] : List By) ∨ l ∈ line6 := by decide
theorem col_of {sp : Int} {L : List Ob} {l : List Int} (h : nums L = .ok l) : col sp L = if in01 l = true then .ok (sp, l.getD 0 0, l.getD 1 0, l.getD 2 0, l.getD 3 0) else .error 2 := by
  unfold col
  rw [h]
  rfl
/-- A number that is none is an error. -/
theorem bad_num {nm d : By} {L K : List Ob} {p : P} (hk : nm ∈ known) (h1 : nm ≠ [113]) (h2 : nm ≠ [81]) (h3 : nm ≠ [105]) (h4 : nm ≠ [114, 105]) (h5 : nm ≠ [103, 115]) (h6 : nm ≠ [100]) (hck : chkF nm L d = 0) (hn : nmR L = none) : chgF nm L K p = .error 2 := by
  obtain ⟨_, hlen, hfit⟩ := chk0 hck
  have all : ∀ {t : By}, takes nm = t → (∀ b ∈ t, b = 110) → nums L = .error 2 := by
    intro t ht hb
    rw [ht] at hlen hfit
    have hk : ∀ o ∈ L, o.1 = 2 ∨ o.1 = 3 := by
      intro o ho
      obtain ⟨i, hi⟩ := List.mem_iff_getElem?.1 ho
      have hlt := (List.getElem?_eq_some_iff.1 hi).1
      have hbi : t[i]? = some t[i] := List.getElem?_eq_getElem (by omega)
      have hfk : fitsK t[i] o.1 = true := by
        by_cases hh : fitsK t[i] o.1 = true
        · exact hh
        · rw [fitsT_no hbi hi (by simpa using hh)] at hfit
          cases hfit
      rw [hb _ (List.getElem_mem (by omega))] at hfk
      simpa [fitsK] using hfk
    rw [nmR_nums L hk, hn]
  have one : takes nm = [110] → num (ob0 L) = .error 2 := by
    intro ht
    have h := all ht (by decide)
    rw [ht] at hlen
    match L, hlen.symm with
    | [o], _ =>
      unfold nums at h
      show num o = _
      cases ho : num o with
      | error e =>
        rw [ho] at h
        have h' : (Except.error e : Except Int (List Int)) = .error 2 := h
        cases h'
        rfl
      | ok n =>
        rw [ho] at h
        cases h
  have ab : takes nm = [110] → abv (ob0 L) = .error 2 := fun ht => by unfold abv; rw [one ht]
  have wh : ∀ m, takes nm = [110] → whl (ob0 L) m = .error 2 := fun m ht => by unfold whl; rw [one ht]
  have co : ∀ {t : By} (sp : Int), takes nm = t → (∀ b ∈ t, b = 110) → col sp L = .error 2 := fun sp ht hb => by unfold col; rw [all ht hb]
  simp only [known, List.mem_cons, List.not_mem_nil, or_false] at hk
  rcases hk with q | q | q | q | q | q | q | q | q | q | q | q | q | q | q | q | q | q | q | q | q | q | q | q
  · exact absurd q h1
  · exact absurd q h2
  · rw [q, chg_cm, bnd_er _ (all (t := [110, 110, 110, 110, 110, 110]) (by rw [q]; decide +kernel) (by decide))]
  · rw [q, chg_w, bnd_er _ (ab (by rw [q]; decide +kernel))]
  · rw [q, chg_M, bnd_er _ (ab (by rw [q]; decide +kernel))]
  · rw [q, chg_J, bnd_er _ (wh 2 (by rw [q]; decide +kernel))]
  · rw [q, chg_j, bnd_er _ (wh 2 (by rw [q]; decide +kernel))]
  · exact absurd q h6
  · exact absurd q h3
  · exact absurd q h4
  · exact absurd q h5
  · rw [q, chg_g, bnd_er _ (co 0 (t := [110]) (by rw [q]; decide +kernel) (by decide))]
  · rw [q, chg_G, bnd_er _ (co 0 (t := [110]) (by rw [q]; decide +kernel) (by decide))]
  · rw [q, chg_rg, bnd_er _ (co 1 (t := [110, 110, 110]) (by rw [q]; decide +kernel) (by decide))]
  · rw [q, chg_RG, bnd_er _ (co 1 (t := [110, 110, 110]) (by rw [q]; decide +kernel) (by decide))]
  · rw [q, chg_k, bnd_er _ (co 2 (t := [110, 110, 110, 110]) (by rw [q]; decide +kernel) (by decide))]
  · rw [q, chg_K, bnd_er _ (co 2 (t := [110, 110, 110, 110]) (by rw [q]; decide +kernel) (by decide))]
  · rw [q, chg_Tc, bnd_er _ (one (by rw [q]; decide +kernel))]
  · rw [q, chg_Tw, bnd_er _ (one (by rw [q]; decide +kernel))]
  · rw [q, chg_Tz, bnd_er _ (one (by rw [q]; decide +kernel))]
  · rw [q, chg_TL, bnd_er _ (one (by rw [q]; decide +kernel))]
  · rw [q, chg_Ts, bnd_er _ (one (by rw [q]; decide +kernel))]
  · have ht : takes nm = [78, 110] := by rw [q]; decide +kernel
    rw [ht] at hlen hfit
    match L, hlen.symm with
    | [p', o], _ =>
      have hkk : p'.1 = 5 ∧ (o.1 = 2 ∨ o.1 = 3) := by simpa [fitsT, fitsK] using hfit
      have hv : numV o = none := by
        unfold nmR at hn
        rw [if_neg (by omega)] at hn
        unfold nmR at hn
        rw [if_pos hkk.2] at hn
        cases hv : numV o with
        | none => rfl
        | some n =>
          rw [hv] at hn
          cases hn
      rw [q, chg_Tf, bnd_er _ (show num (ob1 [p', o]) = .error 2 from by show num o = _; unfold num; rw [hv])]
  · rw [q, chg_Tr, bnd_er _ (wh 7 (by rw [q]; decide +kernel))]
/-- The reference's machine, as a value. -/
structure RV (w : World) (x : G) (D : List Int) (sv : Slc) (S : List P) : Prop where
  dash : IV w (dsh x) D
  few : D.length ≤ 100
  sav : SVd w sv (S.map (·.1))
  each : ∀ p, p ∈ S → IV w (dsh p.1) p.2 ∧ p.2.length ≤ 100
  most : S.length ≤ 28
theorem SVd.keep {w w' : World} {sv : Slc} {L : List G} (h : SVd w sv L) (he : Ext (fun _ => False) w w') : SVd w' sv L := h.keepF he fun _ _ e => e
theorem RV.keep {w w' : World} {x : G} {D : List Int} {sv : Slc} {S : List P} (h : RV w x D sv S) (he : Ext (fun _ => False) w w') : RV w' x D sv S :=
  ⟨h.dash.keep he, h.few, h.sav.keep he, fun p hp => ⟨(h.each p hp).1.keep he, (h.each p hp).2⟩, h.most⟩
theorem outM {w w' : World} {M : List (Nat × List Value × TypeId)} {b b2 : Nat} {t t2 : TypeId} {X : GM} {zs : List Value} {K : GM → World → Prop} (H : Hn w w' M) (i j : Nat) (h0 : M[i]? = some (b, Sig.cells LM X, t)) (h2 : M[j]? = some (b2, zs, t2)) (hz : zs.length = 31) (k : ∀ w'', Ext (fun _ => False) w w'' → Ext (· = b2) w' w'' → K X w'') :
    LdT w' ⟨b, 0, none⟩ 0 LM fun x => StT ⟨b2, 0, none⟩ 0 LM x w' fun w'' => LdT w'' ⟨b2, 0, none⟩ 0 LM fun z => K z w'' := by
  refine LdT.blk (pre := []) (post := []) (by rw [List.append_nil]; exact H.get i h0) rfl ?_
  refine StT.blk (pre := []) (post := []) (by rw [List.append_nil]; exact H.get j h2) rfl hz fun w7 g7 e7 => ?_
  rw [List.append_nil] at g7
  exact LdT.blk (pre := []) (post := []) (by rw [List.append_nil]; exact g7) rfl (k w7 (Ext.new H.ext e7 fun j' hj => by have := H.ge j h2; omega) e7)
end Ste
end Go.Proofs.YtjbeembbnkmpeaaDoor
/- The reference's machine: Do is doF. Conditions: sizes. -/
namespace Go.Proofs.YtjbeembbnkmpeaaDoor
namespace Ste
open Sh Mat Opr
set_option linter.unusedVariables false
set_option linter.unusedSimpArgs false
set_option maxRecDepth 8000
set_option maxHeartbeats 8000000
section
variable {w w1 w7 : World} {s n sv : Slc} {l : List Int} {L K : List Ob} {x : G} {D : List Int} {a d : ByteArray} {o : Ob} {S : List P}
attribute [local irreducible] Ld Sh.St Nw Nn LdS LdT LdST StT
/-- What the reference's Do gives. -/
def RDo (w w1 : World) (O : Nat → Prop) (m : Mc) (q : Opn) (X : GM) (e : Int) : Prop := ∃ x' D' sv' S', X = j31 x' sv' ∧ doF m q = (e, mc x' D' S') ∧ RV w1 x' D' sv' S' ∧ Ext (fun _ => False) w w1 ∧ ∀ j, MO x' sv' S' j → O j ∨ (w.heap.size ≤ j ∧ j < w1.heap.size)
theorem SVd.take2 {L : List G} (h : SVd w sv L) {n c : Nat} (hn : n ≤ L.length) (hc : n ≤ c) : SVd w (sv.cut 30 0 n c) (L.take n) := by
  refine ⟨?_, ?_, fun j v hj => ?_⟩
  · show n - 0 = _
    rw [List.length_take]
    omega
  · show n - 0 ≤ c - 0
    omega
  · have hjl : j < (gcl (L.take n)).length := (List.getElem?_eq_some_iff.1 hj).1
    rw [gcl_len, List.length_take] at hjl
    obtain ⟨g, ha, hc⟩ := h.at' j v (by
      have : gcl L = gcl (L.take n) ++ gcl (L.drop n) := by rw [← gcl_app, List.take_append_drop]
      rw [this, List.getElem?_append_left (by rw [gcl_len, List.length_take]; exact hjl)]
      exact hj)
    refine ⟨g, ?_, hc⟩
    show (if c = 0 then sv.p else sv.p.map (·.add (0 * 30))) = _
    split
    · exact ha
    · rw [ha, Nat.zero_mul]
      rfl
theorem take_own2 {n c j : Nat} (h : (sv.cut 30 0 n c).own j) : sv.own j := by
  obtain ⟨a, ha, rfl⟩ := h
  change (if c = 0 then sv.p else sv.p.map (·.add (0 * 30))) = _ at ha
  split at ha
  · exact ⟨a, ha, rfl⟩
  · cases hp : sv.p with
    | none => rw [hp] at ha; cases ha
    | some a' =>
      rw [hp] at ha
      cases ha
      exact ⟨a', hp, by rw [add_block]⟩
theorem RV.keepF {F : Nat → Prop} {w w' : World} (h : RV w x D sv S) (he : Ext F w w') (ho : ∀ j, MO x sv S j → ¬ F j) : RV w' x D sv S :=
  ⟨h.dash.keepF he fun j hj => ho j (.inl hj), h.few, h.sav.keepF he fun j hj => ho j (.inr (.inl hj)), fun p hp => ⟨(h.each p hp).1.keepF he fun j hj => ho j (.inr (.inr ⟨p, hp, hj⟩)), (h.each p hp).2⟩, h.most⟩
theorem outB {w w' : World} {b b2 : Nat} {t t2 : TypeId} {X : GM} {zs : List Value} {K : GM → World → Prop} (E : Ext (fun _ => False) w w') (h0 : Blk w' b (Sig.cells LM X).toArray t) (h2 : Blk w' b2 zs.toArray t2) (hb : w.heap.size ≤ b2) (hz : zs.length = 31) (k : ∀ w'', Ext (fun _ => False) w w'' → Ext (· = b2) w' w'' → K X w'') :
    LdT w' ⟨b, 0, none⟩ 0 LM fun x => StT ⟨b2, 0, none⟩ 0 LM x w' fun w'' => LdT w'' ⟨b2, 0, none⟩ 0 LM fun z => K z w'' := by
  refine LdT.blk (pre := []) (post := []) (by rw [List.append_nil]; exact h0) rfl ?_
  refine StT.blk (pre := []) (post := []) (by rw [List.append_nil]; exact h2) rfl hz fun w7 g7 e7 => ?_
  rw [List.append_nil] at g7
  exact LdT.blk (pre := []) (post := []) (by rw [List.append_nil]; exact g7) rfl (k w7 (Ext.new E e7 fun j' hj => by omega) e7)
theorem setTM (x : G) (c : TT) (v : Value) : ((((((((Sig.cells LG x ++ [v]).set 22 (.int .i64 c.1)).set 23 (.int .i64 c.2.1)).set 24 (.int .i64 c.2.2.1)).set 25 (.int .i64 c.2.2.2.1)).set 26 (.int .i64 c.2.2.2.2.1)).set 27 (.int .i64 c.2.2.2.2.2.1)).set 28 (.string c.2.2.2.2.2.2.1)).set 29 (.int .i64 c.2.2.2.2.2.2.2) = Sig.cells LG (upT x c) ++ [v] := rfl
theorem ltM' (x : G) (a : Value) {i : Nat} (h : i < 31) : i < (Sig.cells LG x ++ [a]).length := by rw [List.length_append, lenG]; exact h
theorem r_do (hv : RV w x D sv S) (h : OV w s L) (hl : L.length ≤ 9223372036854775807) (hK : OV w (ob0 L).2.2.2.2.2 K) : C54 (j31 x sv) (a, s, d) w fun X e w1 => RDo w w1 (MO x sv S) (mc x D S) ⟨bl a, bl d, L, K⟩ X e := by
  refine T54 (j31 x sv) (a, s, d) _ _ ?_
  unfold S54
  refine (Hn.start w).nw fun w2 H => ?_
  refine H.nw fun w3 H => ?_
  have l03 : w.heap.size < w3.heap.size := H.lt 0 rfl
  refine H.nw fun w4 H => ?_
  simp only [List.cons_append, List.nil_append, add_lit, Nat.zero_add] at H ⊢
  let base : List (Nat × List Value × TypeId) := [(w.heap.size, Sig.cells LG x ++ [Slc.v sv], 108), (w2.heap.size, [.string a, Slc.v s, .string d], 63), (w3.heap.size, Sig.cells LM (j31 zeroG nilS), 108)]
  have H : Hn w w4 base := H
  have same : ∀ {w' : World} {e : Int}, Hn w w' base → doF (mc x D S) ⟨bl a, bl d, L, K⟩ = (e, mc x D S) →
      LdT w' ⟨w.heap.size, 0, none⟩ 0 LM fun y => StT ⟨w3.heap.size, 0, none⟩ 0 LM y w' fun w'' => LdT w'' ⟨w3.heap.size, 0, none⟩ 0 LM fun z => RDo w w'' (MO x sv S) (mc x D S) ⟨bl a, bl d, L, K⟩ z e := fun {w' e} H' hd =>
    outM H' 0 2 (show base[0]? = some (w.heap.size, Sig.cells LM (j31 x sv), 108) from rfl) rfl rfl fun w'' e1 e2 => ⟨x, D, sv, S, rfl, hd, hv.keep e1, e1, fun j hj => .inl hj⟩
  have l0 := H.lt 0 rfl
  have l1 := H.lt 1 rfl
  have l2 := H.lt 2 rfl
  have hmost := hv.most
  have hlen : sv.len = S.length := by rw [hv.sav.len, List.length_map]
  refine H.ld 1 rfl rfl ?_
  refine (r_known a _).mono ?_
  rintro r w5 ⟨rfl, e5⟩
  have H := H.keep e5
  by_cases hk : bl a ∈ known
  case neg =>
    rw [decide_eq_false hk]
    exact Br.t rfl (same H (doF_unk hk))
  rw [decide_eq_true hk]
  refine Br.f rfl ?_
  iterate 3 refine H.ld 1 rfl rfl ?_
  refine (r_check (h.keep H.ext) hl).mono ?_
  rintro r w6 ⟨rfl, e6⟩
  have H := H.keep e6
  refine Br.ne (fun q => same H (doF_chk hk q)) fun hck => ?_
  have hck : chkF (bl a) L (bl d) = 0 := hck
  have l20 := H.lt 2 rfl
  have l00 := H.lt 0 rfl
  refine Join.intro (H.ld 1 rfl rfl ?_)
  refine BrB (fun q => ?_) fun hq => ?_
  · have q : bl a = [113] := q
    refine H.ld 0 rfl (atM x _) ?_
    rw [hlen]
    refine Br.dec (fun q1 => same H (doF_qE hk hck q (by rw [mc_len]; omega))) fun q1 => ?_
    have H4 := H
    have H := H.drew
    refine ⟨fun w' => Hn w w' base, H, ?_⟩
    refine LdS.of (fun w' (h' : Hn w w' base) => h'.get 0 rfl) (atM x _) ?_
    refine LdST.blk (pre := []) (post := [Slc.v sv]) (fun w' (h' : Hn w w' base) => h'.get 0 rfl) rfl ?_
    have fin : ∀ (w' : World) (s'' : Slc), Hn w w' base → Row w' s'' 30 30 (gcl (S.map (·.1)) ++ Sig.cells LG x) → (∀ j, s''.own j → w6.heap.size ≤ j) →
        Sh.St w' ⟨w.heap.size, 30, none⟩ (Slc.v s'') fun v => LdT v ⟨w.heap.size, 0, none⟩ 0 LM fun y => StT ⟨w3.heap.size, 0, none⟩ 0 LM y v fun v' => LdT v' ⟨w3.heap.size, 0, none⟩ 0 LM fun z => RDo w v' (MO x sv S) (mc x D S) ⟨bl a, bl d, L, K⟩ z 0 := by
      intro w' s'' H' hrow hown
      have E' := H'.ext
      simp only [base] at H'
      refine H'.st' 0 rfl (ltM x _) fun w8 H8 e8 => ?_
      simp only [List.set_cons_zero, List.set_cons_succ] at H8
      rw [setSv x] at H8
      refine outM H8 0 2 (show _ = some (w.heap.size, Sig.cells LM (j31 x s''), 108) from rfl) rfl rfl fun w'' e1 e2 => ⟨x, D, s'', S ++ [(x, D)], rfl, ?_, ⟨hv.dash.keep e1, hv.few, ?_, fun p hp => ?_, by rw [List.length_append, List.length_singleton]; omega⟩, e1, fun j hj => ?_⟩
      rotate_right
      · rcases hj with hj | hj | ⟨p, hp, hj⟩
        · exact .inl (.inl hj)
        · exact .inr (by have := hown j hj; have := H4.size; have := hrow.own_lt hj; have := e8.size; have := e2.size; omega)
        · rcases List.mem_append.1 hp with hp | hp
          · exact .inl (.inr (.inr ⟨p, hp, hj⟩))
          · rw [List.mem_singleton.1 hp] at hj
            exact .inl (.inl hj)
      · rw [doF_q hk hck q (by rw [mc_len]; omega), mc_app]
        rfl
      · have hr : SVd w' s'' ((S ++ [(x, D)]).map (·.1)) := SVd.row (e := 30) (by
          rw [List.map_append, gcl_app]
          show Row _ _ _ _ (gcl (S.map (·.1)) ++ (Sig.cells LG x ++ []))
          rw [List.append_nil]
          exact hrow)
        exact (hr.keepF e8 fun j hj e => by have e : j = w.heap.size := e; have := hown j hj; omega).keepF e2 fun j hj e => by have e : j = w3.heap.size := e; have := hown j hj; omega
      · rcases List.mem_append.1 hp with hp | hp
        · exact ⟨(hv.each p hp).1.keep e1, (hv.each p hp).2⟩
        · rw [List.mem_singleton.1 hp]
          exact ⟨hv.dash.keep e1, hv.few⟩
    have nb' : ∀ j, w6.heap.size ≤ j → w.heap.size ≤ j ∧ j ∉ base.map (·.1) := fun j hj => by
      have := H4.size
      simp only [base, List.map_cons, List.map_nil, List.mem_cons, List.not_mem_nil, or_false]
      have := H4.lt 0 rfl
      have := H4.lt 1 rfl
      omega
    have two : ∀ (w' : World) (g1 g2 : Nat) (K' : Slc → World → Prop), Hn w w' base → Ext (fun _ => False) w6 w' → Blk w' g1 #[] 30 → Blk w' g2 (Sig.cells LG x).toArray 30 → w6.heap.size ≤ g1 → w6.heap.size ≤ g2 → g1 ≠ g2 →
        (∀ w'' s'', Hn w w'' base → Row w'' s'' 30 30 (gcl (S.map (·.1)) ++ Sig.cells LG x) → (∀ j, s''.own j → w6.heap.size ≤ j) → K' s'' w'') →
        Rn Tryd.prog (Builtin.append_ #[106, 106] 106 #[Slc.v ((⟨some ⟨g1, 0, none⟩, 0, 0⟩ : Slc)), Slc.v sv]) w' Slc.v fun (y : Slc) v => Hn w v base ∧ Rn Tryd.prog (Builtin.append_ #[106, 106] 106 #[Slc.v y, Slc.v ((⟨some ⟨g2, 0, none⟩, 1, 1⟩ : Slc))]) v Slc.v fun (z : Slc) v' => K' z v' := by
      intro w' g1 g2 K' H' e' b1 b2 hg1 hg2 hne k
      have hv' := (hv.sav.keep H'.ext).view
      obtain ⟨s1, v1, r1, r2, r3, r4, r5⟩ := elG.app (ty := 106) (s := ⟨some ⟨g1, 0, none⟩, 0, 0⟩) (xs := []) (w := w') ⟨by simp, .inr ⟨g1, #[], rfl, b1, Nat.le_refl _, by simp, by simp⟩⟩ hv' (by
        intro v hvm
        obtain ⟨y, _, hy⟩ := List.mem_flatMap.1 hvm
        exact G_one y v hy) (by simp only; omega) (by simp only; omega)
      have ho1 : ∀ j, s1.own j → w6.heap.size ≤ j := fun j hj => by
        rcases r5 j hj with hh | hh
        · obtain ⟨a', ha, rfl⟩ := hh
          cases ha
          exact hg1
        · have := e'.size; omega
      have nb : ∀ j, w6.heap.size ≤ j → w.heap.size ≤ j ∧ j ∉ base.map (·.1) := fun j hj => by
        have := H4.size
        simp only [base, List.map_cons, List.map_nil, List.mem_cons, List.not_mem_nil, or_false]
        have := H4.lt 0 rfl
        have := H4.lt 1 rfl
        omega
      have H1 := H'.other r4 fun j hj => nb j (by obtain ⟨a', ha, rfl⟩ := hj; cases ha; exact hg1)
      refine ⟨s1, v1, r1, H1, ?_⟩
      have b2' := r4.blk b2 (by rintro ⟨a', ha, hj⟩; cases ha; exact hne hj)
      simp only [List.nil_append] at r2
      obtain ⟨s2, v2, q1, q2, q3, q4, q5⟩ := elG.app1 (ty := 106) r2 b2' rfl (G_one x) (by simp only at r3; omega) (by simp only at r3; omega)
      have ho2 : ∀ j, s2.own j → w6.heap.size ≤ j := fun j hj => by
        rcases q5 j hj with hh | hh
        · exact ho1 j hh
        · have := e'.size; have := r4.size; omega
      exact ⟨s2, v2, q1, k v2 s2 (H1.other q4 fun j hj => nb j (ho1 j hj)) q2 ho2⟩
    have szb : w6.drew.heap.size = w6.heap.size := rfl
    refine ⟨?_, ?_⟩
    · refine H.nw' fun v1 H5 e5 => ?_
      have b1 := H5.get 3 rfl
      have H5 : Hn w v1 base := H.keep e5
      have E5 : Ext (fun _ => False) w6 v1 := (Ext.refl _ w6).drew.tr e5
      have s5 := b1.lt
      refine ⟨H5, ?_, ?_⟩
      · have hv' := (hv.sav.keep H5.ext).view
        obtain ⟨s1, v2, r1, r2, r3, r4, r5⟩ := elG.app (ty := 106) (s := ⟨some ⟨w6.drew.heap.size, 0, none⟩, 0, 0⟩) (xs := []) (w := v1) ⟨by simp, .inr ⟨_, #[], rfl, b1, Nat.le_refl _, by simp, by simp⟩⟩ hv' (by
          intro v hvm
          obtain ⟨y, _, hy⟩ := List.mem_flatMap.1 hvm
          exact G_one y v hy) (by simp only; omega) (by simp only; omega)
        have ho1 : ∀ j, s1.own j → w6.heap.size ≤ j := fun j hj => by
          rcases r5 j hj with hh | hh
          · obtain ⟨a', ha, rfl⟩ := hh
            cases ha
            exact Nat.le_refl _
          · have := E5.size; omega
        have H6 := H5.other r4 fun j hj => nb' j (by obtain ⟨a', ha, rfl⟩ := hj; cases ha; exact Nat.le_refl _)
        simp only [List.nil_append] at r2
        refine ⟨s1, v2, r1, H6, ?_⟩
        refine H6.nw' (cs := Sig.cells LG x) fun v3 H7 e7 => ?_
        have b2 := H7.get 3 rfl
        have H7 : Hn w v3 base := H6.keep e7
        refine ⟨H7, ?_⟩
        obtain ⟨s2, v4, q1, q2, q3, q4, q5⟩ := elG.app1 (ty := 106) (r2.keep e7 fun _ _ e => e) b2 rfl (G_one x) (by simp only at r3; omega) (by simp only at r3; omega)
        refine ⟨s2, v4, q1, fin v4 s2 (H7.other q4 fun j hj => nb' j (ho1 j hj)) q2 fun j hj => ?_⟩
        rcases q5 j hj with hh | hh
        · exact ho1 j hh
        · have := E5.size; have := r4.size; have := e7.size; omega
      · refine H5.nw' (cs := Sig.cells LG x) fun v2 H6 e6 => ?_
        have b2 := H6.get 3 rfl
        have H6 : Hn w v2 base := H5.keep e6
        refine ⟨H6, ?_⟩
        obtain ⟨y, v3, t1, H7, t2⟩ := two v2 _ _ _ H6 (E5.tr e6) (e6.blk b1 id) b2 (Nat.le_refl _) E5.size (by omega) fun w'' s'' h1 h2 h3 => fin w'' s'' h1 h2 h3
        exact ⟨y, v3, t1, H7, t2⟩
    · refine H.nw' (cs := Sig.cells LG x) fun v1 H5 e5 => ?_
      have b2 := H5.get 3 rfl
      have H5 : Hn w v1 base := H.keep e5
      have E5 : Ext (fun _ => False) w6 v1 := (Ext.refl _ w6).drew.tr e5
      have s5 := b2.lt
      refine ⟨H5, ?_⟩
      refine H5.nw' fun v2 H6 e6 => ?_
      have b1 := H6.get 3 rfl
      have H6 : Hn w v2 base := H5.keep e6
      refine ⟨H6, ?_⟩
      obtain ⟨y, v3, t1, H7, t2⟩ := two v2 _ _ _ H6 (E5.tr e6) b1 (e6.blk b2 id) E5.size (Nat.le_refl _) (by omega) fun w'' s'' h1 h2 h3 => fin w'' s'' h1 h2 h3
      exact ⟨y, v3, t1, H7, t2⟩
  refine BrB (fun q => ?_) fun hQ => ?_
  · have q : bl a = [81] := q
    refine H.ld 0 rfl (atM x _) ?_
    refine Br.eq (fun q1 => ?_) fun q1 => ?_
    · have hS : S = [] := List.eq_nil_of_length_eq_zero (by omega)
      exact same H (doF_QE hk hck q (by rw [hS]; rfl))
    rcases List.eq_nil_or_concat S with rfl | ⟨S', ⟨p1, p2⟩, rfl⟩
    · simp only [List.length_nil] at hlen
      omega
    rw [List.concat_eq_append] at *
    have hn : sv.len = S'.length + 1 := by rw [hlen]; simp
    rw [List.length_append, List.length_singleton] at hmost
    have hcap := hv.sav.cap
    have hi : IntKind.i64.wrap ((sv.len : Int) - 1) = ((S'.length : Nat) : Int) := by rw [i64_id (by omega)]; omega
    refine H.ld 0 rfl (atM x _) (H.ld 0 rfl (atM x _) ?_)
    rw [hi, Int.toNat_natCast]
    have hat : ((S' ++ [(p1, p2)]).map (·.1))[S'.length]? = some p1 := by simp
    have hs6 := hv.sav.keep H.ext
    obtain ⟨g, hg, _⟩ := hs6.at' (S'.length * 30 + 0) _ (by rw [gcl_get hat (by omega)]; exact at0 p1)
    rw [hg]
    refine ⟨by omega, by omega, Nn.of ?_⟩
    rw [add_lit, Nat.zero_add]
    refine LdT.mk LG 0 p1 _ (fun j v hj => ?_) ?_
    · have hjl := (List.getElem?_eq_some_iff.1 hj).1
      rw [lenG] at hjl
      obtain ⟨g', hg', hc⟩ := hs6.at' (S'.length * 30 + j) v (by rw [gcl_get hat hjl]; exact hj)
      rw [hg] at hg'
      cases hg'
      rw [Nat.add_zero]
      exact hc
    have E6 := H.ext
    simp only [base] at H
    refine H.stT (pre := []) (zs := Sig.cells LG x) (post := [Slc.v sv]) (ts := LG) (x := p1) (i := 0) rfl rfl rfl fun w7 H7 => ?_
    simp only [List.set_cons_zero, List.set_cons_succ, List.nil_append] at H7
    refine H7.ld 0 rfl (atM p1 _) (H7.ld 0 rfl (atM p1 _) ?_)
    rw [hi, Int.toNat_natCast]
    refine ⟨by omega, by omega, ?_⟩
    refine H7.st' 0 rfl (ltM p1 _) fun w8 H8 e8 => ?_
    simp only [List.set_cons_zero, List.set_cons_succ] at H8
    rw [setSv p1] at H8
    refine outM H8 0 2 (show _ = some (w.heap.size, Sig.cells LM (j31 p1 (sv.cut 30 0 S'.length sv.cap)), 108) from rfl) rfl rfl fun w'' e1 e2 => ⟨p1, p2, _, S', rfl, ?_, ⟨(hv.each (p1, p2) (by simp)).1.keep e1, (hv.each (p1, p2) (by simp)).2, ?_, fun p hp => ⟨(hv.each p (by simp [hp])).1.keep e1, (hv.each p (by simp [hp])).2⟩, by omega⟩, e1, fun j hj => .inl ?_⟩
    rotate_right
    · rcases hj with hj | hj | ⟨p, hp, hj⟩
      · exact .inr (.inr ⟨(p1, p2), by simp, hj⟩)
      · exact .inr (.inl (take_own2 hj))
      · exact .inr (.inr ⟨p, by simp [hp], hj⟩)
    · rw [mc_app]
      exact doF_Q hk hck q rfl
    · have ht := (hv.sav.keep e1).take2 (n := S'.length) (c := sv.cap) (by simp) (by omega)
      have et : ((S' ++ [(p1, p2)]).map (·.1)).take S'.length = S'.map (·.1) := by
        rw [List.map_append]
        exact List.take_left' (by simp)
      rw [et] at ht
      exact ht
  have hq : bl a ≠ [113] := hq
  have hQ : bl a ≠ [81] := hQ
  refine BrB (fun q => BrB (fun _ => same H (doF_ok hk hck hq hQ (by rw [show bl a = [105] from q, chg_i]; rfl))) fun nq => absurd q nq) fun ni => ?_
  refine BrB (fun q => BrB (fun _ => same H (doF_ok hk hck hq hQ (by rw [show bl a = [114, 105] from q, chg_ri]; rfl))) fun nq => absurd q nq) fun nri => ?_
  refine BrB (fun q => same H (doF_ok hk hck hq hQ (by rw [show bl a = [103, 115] from q, chg_gs]; rfl))) fun ngs => ?_
  have ni : bl a ≠ [105] := ni
  have nri : bl a ≠ [114, 105] := nri
  have ngs : bl a ≠ [103, 115] := ngs
  unfold S54J3
  simp only [add_lit, Nat.zero_add]
  iterate 3 refine H.ld 1 rfl rfl ?_
  have hL6 : L.length ≤ 6 := by
    obtain ⟨_, h1, _⟩ := chk0 hck
    have := (takes_low (bl a)).1
    omega
  refine (r_numbers (h.keep H.ext) (by omega)).mono ?_
  rintro n ok w7 ⟨e7, hnum⟩
  have H := H.keep e7
  refine Join.intro ?_
  have main : (match nmR L with
      | none => n = ⟨none, 0, 0⟩
      | some l => IV w7 n l) → (bl a ≠ [100] → ∃ l, nmR L = some l) → S54J2 w w2 w3 n (fun X e w1 => RDo w w1 (MO x sv S) (mc x D S) ⟨bl a, bl d, L, K⟩ X e) () w7 := by
    intro hn hs
    unfold S54J2
    simp only [add_lit, Nat.zero_add]
    iterate 8 refine H.ld 0 rfl rfl ?_
    iterate 3 refine H.ld 1 rfl rfl ?_
    have h7 := h.keep H.ext
    by_cases ht7 : bl a ∈ text7
    · obtain ⟨l, hl⟩ := hs (by rintro e; rw [e] at ht7; revert ht7; decide)
      rw [hl] at hn
      refine (r_text_yes (K := K) x D h7 hn hck hl ht7).mono ?_
      rintro t is e w8 ⟨e8, rfl, hr⟩
      have H := H.keep e8
      refine H.nw fun w9 H => ?_
      simp only [base, List.cons_append, List.nil_append] at H
      iterate 8 (refine H.st 3 rfl (by simp) fun _ H => ?_; simp only [List.nil_append, List.cons_append, List.set_cons_zero, List.set_cons_succ, Nat.zero_add] at H)
      refine Br.t rfl ?_
      rcases hr with ⟨rfl, hc⟩ | ⟨hne, hc⟩
      · refine Br.t rfl ?_
        iterate 8 refine H.ld 3 rfl rfl ?_
        iterate 8 (refine H.st 0 rfl (by (repeat rw [List.length_set]); exact ltM' x _ (by decide)) fun _ H => ?_; simp only [List.set_cons_zero, List.set_cons_succ] at H)
        rw [setTM x t] at H
        refine outM H 0 2 (show _ = some (w.heap.size, Sig.cells LM (j31 (upT x t) sv), 108) from rfl) rfl rfl fun w'' e1 e2 => ⟨upT x t, D, sv, S, rfl, doF_ok hk hck hq hQ hc, ⟨by rw [dsh_T]; exact hv.dash.keep e1, hv.few, hv.sav.keep e1, fun p hp => ⟨(hv.each p hp).1.keep e1, (hv.each p hp).2⟩, hv.most⟩, e1, fun j hj => .inl (hj.elim (fun hj => .inl (by rw [dsh_T] at hj; exact hj)) .inr)⟩
      · refine Br.f (by simpa using hne) ?_
        exact same (Hn.left (L := base) (M := [_]) H) (doF_er hk hck hq hQ hc)
    · refine (r_text_no x ht7).mono ?_
      rintro t is e w8 ⟨rfl, e8⟩
      have B := (Hn.start w7).keep e8
      refine B.nw fun w9 B => ?_
      simp only [List.cons_append, List.nil_append] at B
      iterate 7 (refine B.st 0 rfl (by simp) fun _ B => ?_; simp only [List.set_cons_zero, List.set_cons_succ] at B)
      refine B.st 0 rfl (by simp) fun w10 B => ?_
      have H7 := H
      have H : Hn w w10 base := H7.keep B.ext
      have E710 := B.ext
      refine Br.f rfl ?_
      refine ldM (H.get 0 rfl) ?_
      refine H.nw' fun w11 H11 e11 => ?_
      have g11 := H11.get 3 rfl
      have H11 : Hn w w11 base := H.keep e11
      refine StT.blk (pre := []) (post := []) (zs := Sig.cells LG zeroG) (by rw [List.append_nil]; exact g11) rfl rfl fun w12 g12 e12 => ?_
      rw [List.append_nil] at g12
      have s10 := H.size
      have lb0 := H.lt 0 rfl
      have lb1 := H.lt 1 rfl
      have lb2 := H.lt 2 rfl
      have nb : ∀ j, j = w10.heap.size → w.heap.size ≤ j ∧ j ∉ base.map (·.1) := fun j hj => by
        simp only [base, List.map_cons, List.map_nil, List.mem_cons, List.not_mem_nil, or_false]
        omega
      have H12 : Hn w w12 base := H11.other e12 nb
      have gl : w10.heap.size < w12.heap.size := g12.lt
      have E712 : Ext (fun _ => False) w7 w12 := Ext.new (E710.tr e11) e12 fun j hj => by have := E710.size; omega
      have h12 := h.keep H12.ext
      have fin1 : ∀ (y : G) (e : Int) (w' : World), LnR w12 w' x D (bl a) L K y e → StT ⟨w10.heap.size, 0, none⟩ 0 LG y w' fun v => S54J1 w w3 w10 (fun X e w1 => RDo w w1 (MO x sv S) (mc x D S) ⟨bl a, bl d, L, K⟩ X e) e v := by
        rintro y e w' ⟨e12', hr⟩
        refine StT.blk (pre := []) (post := []) (zs := Sig.cells LG x) (by rw [List.append_nil]; exact e12'.blk g12 id) rfl rfl fun w13 g13 e13 => ?_
        rw [List.append_nil] at g13
        have H13 : Hn w w13 base := (H12.keep e12').other e13 nb
        unfold S54J1
        rcases hr with ⟨rfl, D', hc, hd⟩ | ⟨hne, hc⟩
        · refine Br.t rfl (ldG g13 ?_)
          refine StT.blk (pre := []) (zs := Sig.cells LG x) (post := [Slc.v sv]) (H13.get 0 rfl) rfl rfl fun w14 g14 e14 => ?_
          have few : D'.length ≤ 100 := by
            rcases chg_dash hc with hd | ⟨hd, _⟩
            · have hd : D' = D := hd
              rw [hd]
              exact hv.few
            · have hd : D'.length ≤ 32 := hd
              omega
          have hd14 : ∀ {w''}, Ext (fun _ => False) w w'' → Ext (· = w3.heap.size) w14 w'' → IV w'' (dsh y) D' := by
            intro w'' e1 e2
            rcases hd with ⟨h1, h2⟩ | ho
            · rw [h1, h2]
              exact hv.dash.keep e1
            · exact ((ho.iv.keepF e13 fun j hj e => by have := ho.2 j hj; omega).keepF e14 fun j hj e => by have := ho.2 j hj; omega).keepF e2 fun j hj e => by have := ho.2 j hj; omega
          refine outB (Ext.new H13.ext e14 fun j hj => by omega) (show Blk w14 w.heap.size (Sig.cells LM (j31 y sv)).toArray 108 from g14) (e14.blk (H13.get 2 rfl) (by omega)) (H.ge 2 rfl) rfl fun w'' e1 e2 => ⟨y, D', sv, S, rfl, doF_ok hk hck hq hQ hc, ⟨hd14 e1 e2, few, hv.sav.keep e1, fun p hp => ⟨(hv.each p hp).1.keep e1, (hv.each p hp).2⟩, hv.most⟩, e1, fun j hj => hj.elim (fun hj => hd.elim (fun hd => .inl (.inl (by rw [hd.1] at hj; exact hj))) fun ho => .inr (by have := ho.2 j hj; have := H12.size; have := ho.1.own_lt hj; have := e13.size; have := e14.size; have := e2.size; omega)) fun hj => .inl (.inr hj)⟩
        · refine Br.f (by simpa using hne) ?_
          exact same H13 (doF_er hk hck hq hQ hc)
      have six : bl a ∈ ([[103], [71], [114, 103], [82, 71], [107], [75]] : List By) → LdT w12 ⟨w10.heap.size, 0, none⟩ 0 LG fun x244 => Ld w12 ⟨w2.heap.size, 0, none⟩ Value.string fun x245 => C118 x244 x245 n w12 fun r246 r247 v => StT ⟨w10.heap.size, 0, none⟩ 0 LG r246 v fun v2 => S54J1 w w3 w10 (fun X e w1 => RDo w w1 (MO x sv S) (mc x D S) ⟨bl a, bl d, L, K⟩ X e) r247 v2 := by
        intro h6
        refine ldG g12 (H12.ld 1 rfl rfl ?_)
        obtain ⟨l, hl⟩ := hs (by rintro e; rw [e] at h6; revert h6; decide)
        rw [hl] at hn
        obtain ⟨_, hlen', hfit⟩ := chk0 hck
        have go : ∀ (t : By) (sp : Int), takes (bl a) = t → (∀ b ∈ t, b = 110) → (t.length = 1 ∧ sp = 0 ∨ t.length = 3 ∧ sp = 1 ∨ t.length = 4 ∧ sp = 2) → (l.length = 1 ∨ l.length = 3 ∨ l.length = 4) ∧ spL l = sp ∧ col sp L = if in01 l = true then .ok (colL l) else .error 2 := by
          intro t sp ht hb hlen3
          rw [ht] at hlen' hfit
          obtain ⟨h1, h2⟩ := nmR_all hb hlen' hfit hl
          have hsp : spL l = sp := by
            unfold spL
            rcases hlen3 with ⟨h3, rfl⟩ | ⟨h3, rfl⟩ | ⟨h3, rfl⟩
            · rw [if_pos (by omega)]
            · rw [if_neg (by omega), if_pos (by omega)]
            · rw [if_neg (by omega), if_neg (by omega)]
          refine ⟨by omega, hsp, ?_⟩
          rw [col_of h1]
          unfold colL
          rw [hsp]
        have fin2 : ∀ (sp : Int) (up : G → Int × Int × Int × Int × Int → G), (l.length = 1 ∨ l.length = 3 ∨ l.length = 4) → col sp L = (if in01 l = true then .ok (colL l) else .error 2) → (∀ p, chgF (bl a) L K p = bnd (col sp L) fun c => .ok (up p.1 c, p.2)) → (∀ g c, er (up g c) = up (er g) c) → (∀ g c, dsh (up g c) = dsh g) → (if bl a ∈ ([[103], [114, 103], [107]] : List By) then upF x (colL l) else upS x (colL l)) = up x (colL l) →
            C118 x a n w12 fun r246 r247 v => StT ⟨w10.heap.size, 0, none⟩ 0 LG r246 v fun v2 => S54J1 w w3 w10 (fun X e w1 => RDo w w1 (MO x sv S) (mc x D S) ⟨bl a, bl d, L, K⟩ X e) r247 v2 := by
          intro sp up hl3 hcol hch her hds hup
          refine (r_paint (hn.keep E712) hl3).mono ?_
          rintro y e w13 ⟨e13, hr⟩
          refine fin1 y e w13 ⟨e13, ?_⟩
          by_cases hin : in01 l = true
          · rw [if_pos hin] at hr hcol
            obtain ⟨rfl, rfl⟩ := hr
            rw [hup]
            refine .inl ⟨rfl, D, ?_, .inl ⟨hds _ _, rfl⟩⟩
            rw [hch, hcol, her]
            rfl
          · rw [if_neg hin] at hr hcol
            subst hr
            refine .inr ⟨by decide, ?_⟩
            rw [hch, hcol]
            rfl
        simp only [List.mem_cons, List.not_mem_nil, or_false] at h6
        rcases h6 with q | q | q | q | q | q
        · obtain ⟨h1, h2, h3⟩ := go [110] 0 (by rw [q]; decide +kernel) (by decide) (by decide)
          exact fin2 0 upF h1 h3 (fun p => by rw [q]; exact chg_g L K p) er_F dsh_F (by rw [q]; exact if_pos (by decide))
        · obtain ⟨h1, h2, h3⟩ := go [110] 0 (by rw [q]; decide +kernel) (by decide) (by decide)
          exact fin2 0 upS h1 h3 (fun p => by rw [q]; exact chg_G L K p) er_S dsh_S (by rw [q]; exact if_neg (by decide))
        · obtain ⟨h1, h2, h3⟩ := go [110, 110, 110] 1 (by rw [q]; decide +kernel) (by decide) (by decide)
          exact fin2 1 upF h1 h3 (fun p => by rw [q]; exact chg_rg L K p) er_F dsh_F (by rw [q]; exact if_pos (by decide))
        · obtain ⟨h1, h2, h3⟩ := go [110, 110, 110] 1 (by rw [q]; decide +kernel) (by decide) (by decide)
          exact fin2 1 upS h1 h3 (fun p => by rw [q]; exact chg_RG L K p) er_S dsh_S (by rw [q]; exact if_neg (by decide))
        · obtain ⟨h1, h2, h3⟩ := go [110, 110, 110, 110] 2 (by rw [q]; decide +kernel) (by decide) (by decide)
          exact fin2 2 upF h1 h3 (fun p => by rw [q]; exact chg_k L K p) er_F dsh_F (by rw [q]; exact if_pos (by decide))
        · obtain ⟨h1, h2, h3⟩ := go [110, 110, 110, 110] 2 (by rw [q]; decide +kernel) (by decide) (by decide)
          exact fin2 2 upS h1 h3 (fun p => by rw [q]; exact chg_K L K p) er_S dsh_S (by rw [q]; exact if_neg (by decide))
      refine Join.intro (H12.ld 1 rfl rfl ?_)
      refine Br.t (decide_eq_true (by rw [bl_size]; have := known_size _ hk; omega)) ?_
      refine H12.ld 1 rfl rfl (BrB (fun q => six (by rw [show bl a = [103] from q]; decide)) fun n1 => ?_)
      refine H12.ld 1 rfl rfl (BrB (fun q => six (by rw [show bl a = [71] from q]; decide)) fun n2 => ?_)
      refine H12.ld 1 rfl rfl (BrB (fun q => six (by rw [show bl a = [114, 103] from q]; decide)) fun n3 => ?_)
      refine H12.ld 1 rfl rfl (BrB (fun q => six (by rw [show bl a = [82, 71] from q]; decide)) fun n4 => ?_)
      refine H12.ld 1 rfl rfl (BrB (fun q => six (by rw [show bl a = [107] from q]; decide)) fun n5 => ?_)
      refine H12.ld 1 rfl rfl (BrB (fun q => six (by rw [show bl a = [75] from q]; decide)) fun n6 => ?_)
      refine ldG g12 (H12.ld 1 rfl rfl (H12.ld 1 rfl rfl (H12.ld 1 rfl rfl ?_)))
      have hl6 : bl a ∈ line6 := by
        rcases known_is _ hk with q | q | q | q | q | q | q | q
        · exact absurd q hq
        · exact absurd q hQ
        · exact absurd q ni
        · exact absurd q nri
        · exact absurd q ngs
        · exact absurd q ht7
        · simp only [List.mem_cons, List.not_mem_nil, or_false] at q
          rcases q with q | q | q | q | q | q
          · exact absurd q n1
          · exact absurd q n2
          · exact absurd q n3
          · exact absurd q n4
          · exact absurd q n5
          · exact absurd q n6
        · exact q
      refine (r_line (D := D) (K := K) h12 (hv.dash.keep H12.ext) (by
        cases hm : nmR L with
        | none => rw [hm] at hn; exact hn
        | some l => rw [hm] at hn; exact hn.keep E712) hck (hK.keep H12.ext) hl6 hs).mono ?_
      intro y e w13 hr
      exact fin1 y e w13 hr
  cases hm : nmR L with
  | none =>
    rw [hm] at hnum main
    obtain ⟨rfl, rfl⟩ := hnum
    refine Br.t rfl (H.ld 1 rfl rfl ?_)
    refine BrNB (fun q => same H (doF_er hk hck hq hQ (bad_num hk hq hQ ni nri ngs q hck hm))) fun q => ?_
    exact main rfl fun hne => absurd q hne
  | some l =>
    rw [hm] at hnum main
    obtain ⟨rfl, ho⟩ := hnum
    exact Br.f rfl (main ho.iv fun _ => ⟨l, rfl⟩)
end
end Ste
end Go.Proofs.YtjbeembbnkmpeaaDoor
