/- Paths: PathClosed, the law. Conditions: the tables are laid; Box. -/
import Derived.Test.YtjbeembbnkmpeaaDoorQPDoes9
import Derived.Test.YtjbeembbnkmpeaaDoorQPDoes7
import Derived.Test.YtjbeembbnkmpeaaDoorQPDoes6
namespace Go.Proofs.YtjbeembbnkmpeaaDoor
namespace Pat
open Sh Mat Fix Opr
set_option linter.unusedVariables false
set_option linter.unusedSimpArgs false
set_option maxRecDepth 8000
set_option maxHeartbeats 8000000
abbrev gr0 : G := (0, 0, 0, 0, 0, 0, 0, 0, 0, 0, nilS, 0, 0, 0, 0, 0, 0, 0, 0, 0, 0, 0, 0, 0, 0, 0, 0, 0, eB, 0)
section
variable {W w0 w w' w1 : World} {s sg ns : Slc} {Q : List OpA} {b : Nat} {p : Pa} {m : Mx} {l : List Int} {a : ByteArray}
attribute [local irreducible] Ld Sh.St Nw Nn LdS LdT LdST StT
/-- The paint of two paths, compared. -/
theorem c_painted (hs : AS W) (hpm : PM W) {n bA bB : Nat} {pA pB : Pa} {sA sB : Slc} (h : Two w n bA pA sA bB pB sB) (E : Ext (fun _ => False) W w) (hn : W.heap.size ≤ bA) (hoA : ∀ j, sA.own j → W.heap.size ≤ j)
    {n1 n2 : ByteArray} {how : Int} {L : List Sg} {pA' pB' : Pa} (z1 : n1.size ≤ maxLen) (z2 : n2.size ≤ maxLen)
    (d1 : paintP pA (bl n1) (bl eB) ([].map iO) = ⟨0, how, L, true, pA'⟩) (d2 : paintP pB (bl n2) (bl eB) ([].map iO) = ⟨0, how, L, true, pB'⟩) (hL : L.length ≤ 100000) :
    S6J1 (some ⟨bA, 0, none⟩, true) (some ⟨bB, 0, none⟩) n2 n1 (fun r w1 => r = true ∧ Ext (fun _ => False) W w1) () w := by
  unfold S6J1
  have hnn := h.n_le
  have hla := h.la
  have hgb := h.gb
  refine (c_opR (l := []) (IV.nil _) (by simp)).mono ?_
  rintro r v1 ⟨s1, rfl, o1, e1⟩
  have h1 := h.keep e1
  have E1 := E.tr e1
  refine (c_paint (g := gr0) (hs.keep E1) (hpm.keep E1) h1.pa o1.1 (by simp) z1).mono ?_
  rintro r is e v2 ⟨sA', sp, q1, q2, q3, svp, pvA, eA, oA, op, _, _⟩
  rw [d1] at q1 q2 q3 svp pvA
  have q1 : r = mkPt how sp (fillG gr0) (strkG gr0) := q1
  subst q1 q2 q3
  have sv1 := e1.size
  have pb2 : PV v2 bB pB sB := h1.pb.keepF eA (fun hj => hj.elim (fun e => by omega) fun hj => by have := h.lo _ hj; omega) fun j hj hh => by
    have := h.go j hj
    rcases hh with e | hh
    · omega
    · have := h.lo j hh; omega
  have E2 : Ext (fun _ => False) W v2 := Ext.new E1 eA fun j hj => hj.elim (fun e => by omega) fun hj => hoA j hj
  have svp : SV v2 sp L := svp
  have nop : ∀ j, sp.own j → j < n ∨ v1.heap.size ≤ j := fun j hj => (op j hj).imp (h.lo j) id
  refine (Hn.start v2).nw (cs := Sig.cells LPt pt0) fun _ K => ?_
  simp only [List.nil_append] at K
  refine StT.blk (pre := []) (post := []) (zs := Sig.cells LPt pt0) (ts := LPt) (by rw [List.append_nil]; exact K.get 0 rfl) rfl rfl fun v3 g3 e3 => ?_
  rw [List.append_nil] at g3
  have E3 : Ext (fun _ => False) v2 v3 := Ext.new K.ext e3 fun j hj => by have hj : j = v2.heap.size := hj; omega
  refine (c_opR (l := []) (IV.nil _) (by simp)).mono ?_
  rintro r v4 ⟨s2, rfl, o2, e4⟩
  have E4 := E3.tr e4
  have g4 := e4.blk g3 id
  have pb4 := pb2.keep E4
  have svp4 := svp.keep E4
  have W4 := E2.tr E4
  have sv2 := eA.size
  have lb4 := pb4.blk.lt
  have lb2 := pb2.blk.lt
  have lbo := fun j hj => pb2.seg.own_lt (j := j) hj
  have lb1 := h1.pb.blk.lt
  have lbo1 := fun j hj => h1.pb.seg.own_lt (j := j) hj
  refine (c_paint (g := gr0) (hs.keep W4) (hpm.keep W4) pb4 o2.1 (by simp) z2).mono ?_
  rintro r is e v5 ⟨sB', sq, q1, q2, q3, svq, pvB, eB', oB, oq, _, _⟩
  rw [d2] at q1 q2 q3 svq pvB
  have q1 : r = mkPt how sq (fillG gr0) (strkG gr0) := q1
  subst q1 q2 q3
  have svq : SV v5 sq L := svq
  have svp5 : SV v5 sp L := svp4.keepF eB' fun j hj hh => by
    have := nop j hj
    rcases hh with e | hh
    · omega
    · have := h.go j hh
      have := lbo1 j hh
      omega
  have W5 : Ext (fun _ => False) W v5 := Ext.new W4 eB' fun j hj => by
    have := E.size
    rcases hj with e | hj
    · have := h1.pa.blk.lt; omega
    · have := h.go j hj; omega
  have g5 : Blk v5 v2.heap.size _ _ := eB'.blk g4 fun hj => hj.elim (fun e => by omega) fun hj => by have := lbo _ hj; omega
  have P5 := v5.heap.size
  refine (Hn.start v5).nw (cs := Sig.cells LPt pt0) fun _ K => ?_
  simp only [List.nil_append] at K
  refine StT.blk (pre := []) (post := []) (zs := Sig.cells LPt pt0) (ts := LPt) (by rw [List.append_nil]; exact K.get 0 rfl) rfl rfl fun v6 g6 e6 => ?_
  rw [List.append_nil] at g6
  have E6 : Ext (fun _ => False) v5 v6 := Ext.new K.ext e6 fun j hj => by have hj : j = v5.heap.size := hj; omega
  refine Br.t rfl (Br.t rfl (Br.t rfl (Br.t rfl ?_)))
  refine LdT.blk (pre := []) (post := []) (ts := LPt) (by rw [List.append_nil]; exact E6.blk g5 id) rfl ?_
  refine LdT.blk (pre := []) (post := []) (ts := LPt) (by rw [List.append_nil]; exact g6) rfl ?_
  refine (r_samePaint (L := L) (M := L) (svp5.keep E6) (svq.keep E6) hL).mono ?_
  rintro r v7 ⟨rfl, e7⟩
  refine ⟨decide_eq_true ⟨rfl, rfl, rfl⟩, (W5.tr E6).tr e7⟩
def oneB (k : Nat) : ByteArray := ba (oneN.getD k [])
def twoB (k : Nat) : ByteArray := ba (twoN.getD k [])
theorem c_closes (hs : AS W) (hpm : PM W) {n bA bB : Nat} {sA sB : Slc} (h : Two w n bA p sA bB p sB) (E : Ext (fun _ => False) W w) (hn : W.heap.size < bA) (hoA : ∀ j, sA.own j → W.heap.size < j) (hM : Blk w W.heap.size (mrow m).toArray 23) {k : Nat} (hk : k < 4) (hne : p.L ≠ []) (hlen : p.L.length ≤ 8000) :
    Join (S6J1 (some ⟨bA, 0, none⟩, true) (some ⟨bB, 0, none⟩) (twoB k) (oneB k) (fun r w1 => r = true ∧ Ext (fun _ => False) W w1)) fun (vJ : Unit → World → Prop) =>
      ∃ vS : World → Prop, vS w.drew ∧ Br (decide ((k : Int) < 3)) (LdS vS (⟨W.heap.size, 0, none⟩ : Addr) (Value.int .i64) fun (x271 : Int) =>
        LdS vS ((⟨W.heap.size, 0, none⟩ : Addr).add 1) (Value.int .i64) fun (x272 : Int) =>
        LdS vS ((⟨W.heap.size, 0, none⟩ : Addr).add 2) (Value.int .i64) fun (x273 : Int) =>
        LdS vS ((⟨W.heap.size, 0, none⟩ : Addr).add 3) (Value.int .i64) fun (x274 : Int) =>
        LdS vS ((⟨W.heap.size, 0, none⟩ : Addr).add 4) (Value.int .i64) fun (x275 : Int) =>
        LdS vS ((⟨W.heap.size, 0, none⟩ : Addr).add 5) (Value.int .i64) fun (x276 : Int) =>
        C42 (⟨#[104]⟩ : ByteArray) (⟨none, 0, 0⟩ : Slc) w.drew fun r277 vw278 =>
          vS vw278 ∧ C23 (some ⟨bB, 0, none⟩) (r277.1, r277.2.1, r277.2.2) (x271, x272, x273, x274, x275, x276) vw278 fun r279 vw280 =>
            Br (r279 != 0) (false = true ∧ Ext (fun _ => False) W vw280) (vJ () vw280)) (vJ () w.drew) := by
  obtain ⟨how, hh, ⟨p1, d1⟩, ⟨p2, d2⟩⟩ := paint_two p hne k hk
  have zs : (oneB k).size ≤ maxLen ∧ (twoB k).size ≤ maxLen ∧ bl (oneB k) = oneN.getD k [] ∧ bl (twoB k) = twoN.getD k [] := by
    have : ∀ k, k < 4 → (oneB k).size ≤ maxLen ∧ (twoB k).size ≤ maxLen ∧ bl (oneB k) = oneN.getD k [] ∧ bl (twoB k) = twoN.getD k [] := by decide +kernel
    exact this k hk
  obtain ⟨z1, z2, z3, z4⟩ := zs
  have hL : (if k < 3 then p.L ++ [clS] else p.L).length ≤ 100000 := by
    by_cases h3 : k < 3
    · rw [if_pos h3, List.length_append]
      simp
      omega
    · rw [if_neg h3]
      omega
  refine Join.intro ⟨fun v => Blk v W.heap.size (mrow m).toArray 23, hM.drew, ?_⟩
  have h := h.keep (Ext.refl _ w).drew
  have E := E.drew
  have hMu : Blk w.drew W.heap.size (mrow m).toArray 23 := hM.drew
  generalize w.drew = u at h E hMu ⊢
  have lu := E.size
  refine Br.dec (fun hk3 => ?_) fun hk3 => ?_
  · have hk3 : k < 3 := by omega
    rw [if_pos hk3] at d1 d2
    rw [if_pos hk3] at d2 hL
    simp only [add_lit, Nat.zero_add]
    iterate 6 refine LdS.of (fun w' h' => h') rfl ?_
    refine (c_opR (l := []) (IV.nil _) (by simp)).mono ?_
    rintro r v1 ⟨s1, rfl, o1, e1⟩
    have h1 := h.keep e1
    have E1 := E.tr e1
    refine ⟨e1.blk hMu id, ?_⟩
    refine (c_do (m := m) (hs.keep E1) h1.pb o1.1 (by simp)).mono ?_
    rintro r v2 ⟨sB', q1, pv, eB', oB⟩
    have hd : doP p (bl ⟨#[104]⟩) (bl eB) ([].map iO) m = (0, ⟨p.L ++ [clS], p.bg, p.cl⟩) := do_h p m (by omega) hne
    rw [hd] at q1 pv
    have q1 : (0 : Int) = r := q1
    subst q1
    refine Br.f rfl ?_
    have hnn := h1.n_le
    have two : Two v2 n bA p sA bB ⟨p.L ++ [clS], p.bg, p.cl⟩ sB' := ⟨h1.pa.keepF eB' (fun hj => ?_) fun j hj hh => ?_, pv, h.la, h.lo, h.gb, fun j hj => (oB j hj).elim (h.go j) fun hj => by omega⟩
    · refine c_painted hs hpm two (Ext.new E1 eB' fun j hj => ?_) (by omega) (fun j hj => by have := hoA j hj; omega) z1 z2 (by rw [z3]; exact d1) (by rw [z4]; exact d2) hL
      have := h.la
      have := h.gb
      rcases hj with e | hj
      · omega
      · have := h.go j hj; omega
    · have := h.la
      have := h.gb
      rcases hj with e | hj
      · omega
      · have := h.go _ hj; omega
    · have := h.lo j hj
      have := h.gb
      rcases hh with e | hh
      · omega
      · have := h.go _ hh; omega
  · have hk3 : ¬ k < 3 := by omega
    rw [if_neg hk3] at d1 d2
    rw [if_neg hk3] at d2 hL
    exact c_painted hs hpm h E (by omega) (fun j hj => by have := hoA j hj; omega) z1 z2 (by rw [z3]; exact d1) (by rw [z4]; exact d2) hL
/-- The operators given to played are those of the list and some more. -/
theorem OpsR.more (hQ : OpsR W s Q) {v : World} (E : Ext (fun _ => False) W v) {x : Slc} {M : List OpA} (hr : Row v x 63 3 (opsL (Q ++ M))) (ok : ∀ q ∈ M, OV v q.1.2.1 q.2 ∧ q.2.length ≤ 9223372036854775807) : OpsR v x (Q ++ M) :=
  OpsR.row hr fun q hq => (List.mem_append.1 hq).elim (fun h => ⟨((hQ.ok q h).1).keep E, (hQ.ok q h).2⟩) (ok q)
def OG (v : World) (a : ByteArray) (l : List Int) (r : ByteArray × Slc × ByteArray) : Prop := r.1 = a ∧ r.2.2 = eB ∧ OAr v r.2.1 l
theorem OG.keep {v v' : World} {r : ByteArray × Slc × ByteArray} (h : OG v a l r) (he : Ext (fun _ => False) v v') : OG v' a l r := ⟨h.1, h.2.1, h.2.2.keep he⟩
theorem c_both (hs : AS W) (hpm : PM W) (hQ : OpsR W s Q) (h60 : Q.length ≤ 60) {x y ww h : Int} (hx : -10000 ≤ x ∧ x ≤ 10000) (hy : -10000 ≤ y ∧ y ≤ 10000) (hw : -10000 ≤ ww ∧ ww ≤ 10000) (hh : -10000 ≤ h ∧ h ≤ 10000) {k : Nat} (hk : k < 4)
    {u : World} (E : Ext (fun _ => False) W u) (hM : Blk u W.heap.size (mrow m).toArray 23) {v0 : World} (E0 : Ext (fun _ => False) W v0) (hW0 : W.heap.size < v0.heap.size) {r : Option Addr} {ok : Bool} (hp : PlR v0 u (playP m (Q.map poOf ++ reQ x y ww h) pa0) r ok) :
    S6J2 W s x y ww h (k : Int) (fun r w1 => r = true ∧ Ext (fun _ => False) W w1) (r, ok) u := by
  have hwx : IntKind.i64.wrap (x + ww) = x + ww := i64_id (by omega)
  have hwy : IntKind.i64.wrap (y + h) = y + h := i64_id (by omega)
  unfold S6J2
  rw [hwx, hwy]
  refine ⟨fun v => Blk v W.heap.size (mrow m).toArray 23, hM.drew, ?_⟩
  have hM : Blk u.drew W.heap.size (mrow m).toArray 23 := hM.drew
  have E := E.drew
  have hp : PlR v0 u.drew (playP m (Q.map poOf ++ reQ x y ww h) pa0) r ok := by
    cases hd : playP m (Q.map poOf ++ reQ x y ww h) pa0 with
    | none => rw [hd] at hp; exact hp
    | some p =>
      rw [hd] at hp
      obtain ⟨h1, b, sg, h2, h3, h4, h5⟩ := hp
      exact ⟨h1, b, sg, h2, h3, h4.keep (Ext.refl _ u).drew, h5⟩
  generalize u.drew = u at hM E hp ⊢
  simp only [add_lit, Nat.zero_add]
  iterate 6 refine LdS.of (fun w' h' => h') rfl ?_
  have su := E.size
  refine ⟨fun a b => Ext (fun _ => False) a b, fun v => Ext (fun _ => False) u v, Ext.refl _ _, ?_⟩
  refine ⟨fun z v => Row v z 63 3 [] ∧ z.cap = 0 ∧ ∀ j, z.own j → u.heap.size ≤ j, fun z a b e h => ⟨h.1.keep e fun _ _ e => e, h.2⟩, ?_⟩
  refine ⟨fun z v => Row v z 63 3 (opsL Q) ∧ z.len = Q.length ∧ ∀ j, z.own j → u.heap.size ≤ j, fun z a b e h => ⟨h.1.keep e fun _ _ e => e, h.2⟩, ?_⟩
  refine ⟨fun z v => IV v z [x, y], fun z a b e h => h.keep e, ?_⟩
  refine ⟨fun z v => OG v ⟨#[109]⟩ [x, y] z, fun z a b e h => h.keep e, ?_⟩
  refine ⟨fun z v => IV v z [x + ww, y], fun z a b e h => h.keep e, ?_⟩
  refine ⟨fun z v => OG v ⟨#[108]⟩ [x + ww, y] z, fun z a b e h => h.keep e, ?_⟩
  refine ⟨fun z v => IV v z [x + ww, y + h], fun z a b e h => h.keep e, ?_⟩
  refine ⟨fun z v => OG v ⟨#[108]⟩ [x + ww, y + h] z, fun z a b e h => h.keep e, ?_⟩
  refine ⟨fun z v => IV v z [x, y + h], fun z a b e h => h.keep e, ?_⟩
  have nums : ∀ (l : List Int) (v : World) (X : Slc → World → Prop), Blk v W.heap.size (mrow m).toArray 23 → Ext (fun _ => False) u v → (∀ v', IV v' (rowS v.heap.size l.length) l → X (rowS v.heap.size l.length) v') →
      Nw v (.cells (ints l).toArray 2) fun v' => Blk v' W.heap.size (mrow m).toArray 23 ∧ Ext (fun _ => False) u v' ∧ Ext (fun _ => False) v v' ∧ ∃ z : Slc, (Slc.v (rowS v.heap.size l.length) : Value) = Slc.v z ∧ X z v' := by
    intro l v X b1 e1 k
    refine (Hn.start v).nw fun v' L => ?_
    exact ⟨L.ext.blk b1 id, e1.tr L.ext, L.ext, _, rfl, k v' (IV.of (L.get 0 rfl))⟩
  have oper : ∀ (a : ByteArray) (l : List Int) (z : Slc) (v : World), l.length ≤ 1000 → Blk v W.heap.size (mrow m).toArray 23 → Ext (fun _ => False) u v → IV v z l → C42 a z v fun r v' =>
      Blk v' W.heap.size (mrow m).toArray 23 ∧ Ext (fun _ => False) u v' ∧ Ext (fun _ => False) v v' ∧ ∃ t : ByteArray × Slc × ByteArray, (.agg #[.string r.1, Slc.v r.2.1, .string r.2.2] : Value) = .agg #[.string t.1, Slc.v t.2.1, .string t.2.2] ∧ OG v' a l t := by
    intro a l z v hl b1 e1 iv
    refine (c_opR iv hl).mono ?_
    rintro r v' ⟨s', rfl, o, e⟩
    exact ⟨e.blk b1 id, e1.tr e, e, (a, s', eB), rfl, rfl, rfl, o⟩
  refine ⟨⟨?_, ?_, ?_, ?_, ?_, ?_, ?_, ?_, ?_, trivial⟩, ?_⟩
  · intro v b1 e1
    refine (Hn.start v).nw (cs := []) fun v' L => ?_
    refine ⟨L.ext.blk b1 id, e1.tr L.ext, L.ext, _, rfl, ⟨by simp, .inr ⟨_, #[], rfl, L.get 0 rfl, Nat.le_refl _, by simp, by simp⟩⟩, rfl, fun j hj => ?_⟩
    obtain ⟨a', ha, rfl⟩ := hj
    cases ha
    exact e1.size
  · intro v b1 e1 z hz
    obtain ⟨z1, z2, z3⟩ := hz
    have hv := ((hQ.keep E).keep e1).view
    have hl := hQ.len
    obtain ⟨x', v', r1, r2, r3, r4, r5⟩ := elOp.app0 (ty := 84) (by decide) z1 z2 hv (ops_one Q) (by omega) (by omega)
    exact ⟨x', v', r1, r4.blk b1 id, e1.tr r4, r4, _, rfl, r2, by omega, fun j hj => (r5 j hj).elim (z3 j) fun hj => by have := e1.size; omega⟩
  · intro v b1 e1
    exact nums [x, y] v _ b1 e1 fun v' h => h
  · intro v b1 e1 z hz
    exact oper _ _ z v (by simp) b1 e1 hz
  · intro v b1 e1
    exact nums [x + ww, y] v _ b1 e1 fun v' h => h
  · intro v b1 e1 z hz
    exact oper _ _ z v (by simp) b1 e1 hz
  · intro v b1 e1
    exact nums [x + ww, y + h] v _ b1 e1 fun v' h => h
  · intro v b1 e1 z hz
    exact oper _ _ z v (by simp) b1 e1 hz
  · intro v b1 e1
    exact nums [x, y + h] v _ b1 e1 fun v' h => h
  intro v b1 e1 z0 _ zr ⟨g1, g2, g3⟩ z1 _ o1 q1 z2 _ o2 q2 z3 _ o3 q3 z4 i4
  refine (c_opR i4 (by simp)).mono ?_
  rintro r4 v2 ⟨s4, rfl, o4, e2⟩
  refine ⟨e2.blk b1 id, ?_⟩
  refine (c_opR (l := []) (IV.nil _) (by simp)).mono ?_
  rintro r5 v3 ⟨s5, rfl, o5, e3⟩
  refine ⟨e3.blk (e2.blk b1 id) id, ?_⟩
  obtain ⟨o1a, o1s, o1b⟩ := o1
  obtain ⟨o2a, o2s, o2b⟩ := o2
  obtain ⟨o3a, o3s, o3b⟩ := o3
  obtain ⟨rfl, rfl, q1⟩ := q1
  obtain ⟨rfl, rfl, q2⟩ := q2
  obtain ⟨rfl, rfl, q3⟩ := q3
  simp only at q1 q2 q3
  let M : List OpA := [((⟨#[109]⟩, o1s, eB), [x, y].map iO), ((⟨#[108]⟩, o2s, eB), [x + ww, y].map iO), ((⟨#[108]⟩, o3s, eB), [x + ww, y + h].map iO), ((⟨#[108]⟩, s4, eB), [x, y + h].map iO), ((⟨#[104]⟩, s5, eB), [].map iO)]
  refine (Hn.start v3).nw (cs := opsL M) fun v4 L => ?_
  have e23 := e2.tr e3
  have E14 := e23.tr L.ext
  refine ⟨E14.blk b1 id, ?_⟩
  have hrow : Row v4 zr 63 3 (opsL Q) := g1.keep E14 fun _ _ e => e
  obtain ⟨x', v5, r1, r2, r3, r4, r5⟩ := elOp.app (ty := 84) (s2 := rowS v3.heap.size 5) hrow (VRow.of (L.get 0 rfl) rfl) (ops_one M) (by show (zr.len + 5) * 56 ≤ _; omega) (by show zr.len + 5 ≤ _; omega)
  have hr3 : x'.len = Q.length + 5 := by rw [r3, g2]
  refine ⟨x', v5, r1, ?_⟩
  have noW : ∀ j, zr.own j → W.heap.size ≤ j := fun j hj => by have := g3 j hj; omega
  have b5 : Blk v5 W.heap.size (mrow m).toArray 23 := r4.blk (E14.blk b1 id) fun hj => by
    have := g3 _ hj
    have := hM.lt
    omega
  refine ⟨b5, ?_⟩
  have EW4 : Ext (fun _ => False) W v4 := (E.tr e1).tr E14
  have EW5 : Ext (fun _ => False) W v5 := Ext.new EW4 r4 noW
  have okk : ∀ {s' : Slc} {l : List Int} {nm : ByteArray}, OAr v4 s' l → l.length ≤ 4 → OV v5 s' (l.map iO) ∧ (l.map iO).length ≤ 9223372036854775807 := fun h hl => ⟨(h.keepR hrow r4).1, by rw [List.length_map]; omega⟩
  have R5 : OpsR v5 x' (Q ++ M) := hQ.more EW5 (by rw [opsL, List.flatMap_append]; exact r2) fun q hq => by
    simp only [M, List.mem_cons, List.not_mem_nil, or_false] at hq
    rcases hq with rfl | rfl | rfl | rfl | rfl
    · exact okk (nm := eB) (q1.keep E14) (by simp)
    · exact okk (nm := eB) (q2.keep E14) (by simp)
    · exact okk (nm := eB) (q3.keep E14) (by simp)
    · exact okk (nm := eB) (o4.keep (e3.tr L.ext)) (by simp)
    · exact okk (nm := eB) (o5.keep L.ext) (by simp)
  refine (c_played (m := m) (hs.keep EW5) R5 (by rw [List.length_append]; simp [M]; omega)).mono ?_
  rintro r158 r159 v6 ⟨e6, hp2⟩
  have hmap : (Q ++ M).map poOf = Q.map poOf ++ fiveQ x y ww h := by rw [List.map_append]; rfl
  have hlen0 : ∀ p1, playP m (Q.map poOf) pa0 = some p1 → p1.L.length ≤ 300 := fun p1 hp1 => by
    have := play_len _ hp1
    rw [List.length_map] at this
    have h0 : pa0.L.length = 0 := rfl
    omega
  have hsame : playP m (Q.map poOf ++ reQ x y ww h) pa0 = playP m ((Q ++ M).map poOf) pa0 := by
    rw [hmap, play_app, play_app]
    cases hq : playP m (Q.map poOf) pa0 with
    | none => rfl
    | some p1 =>
      have := hlen0 p1 hq
      exact re_five p1 m (by omega) (by omega) (by omega) (by omega) (by omega)
  rw [← hsame] at hp2
  have E6 := EW5.tr e6
  cases hd : playP m (Q.map poOf ++ reQ x y ww h) pa0 with
  | none =>
    rw [hd] at hp hp2
    obtain rfl : ok = false := hp
    obtain rfl : r159 = false := hp2
    exact Br.t rfl ⟨rfl, E6⟩
  | some p =>
  have hpne : p.L ≠ [] ∧ p.L.length ≤ 8000 := by
    have h2 := hd
    rw [play_app] at h2
    obtain ⟨p1, h3, h4⟩ := bd h2
    have := hlen0 p1 h3
    refine ⟨re_some (by omega) (by omega) (by omega) (by omega) (by omega) h4, ?_⟩
    have := play_len _ h4
    have h5 : (reQ x y ww h).length = 1 := rfl
    omega
  rw [hd] at hp hp2
  obtain ⟨rfl, bA, sA, rfl, gA, vA, oA⟩ := hp
  obtain ⟨rfl, bB, sB, rfl, gB, vB, oB⟩ := hp2
  refine Br.f rfl (Br.f rfl ?_)
  have lA := vA.blk.lt
  have vA6 : PV v6 bA p sA := ((((vA.keep e1).keep E14).keepF r4 (fun hj => by have := g3 _ hj; omega) fun j hj hh => by have := g3 j hh; have := vA.seg.own_lt hj; omega)).keep e6
  have s5 := e1.size
  have s6 := E14.size
  have s7 := r4.size
  have two : Two v6 v5.heap.size bA p sA bB p sB := ⟨vA6, vB, by omega, fun j hj => by have := vA.seg.own_lt hj; omega, gB, oB⟩
  refine (c_segs two.pa).mono ?_
  rintro sa v7 ⟨ha, e7⟩
  have two := two.keep e7
  refine (c_segs two.pb).mono ?_
  rintro sb v8 ⟨hb, e8⟩
  have two := two.keep e8
  refine (c_same (ha.sv.keep e8) hb.sv (by omega)).mono ?_
  rintro rr v9 ⟨rfl, e9⟩
  have two := two.keep e9
  rw [decide_eq_true rfl]
  refine Br.f rfl ?_
  have E9 := ((E6.tr e7).tr e8).tr e9
  have b9 := (((e6.blk b5 id) |> fun b => e7.blk b id) |> fun b => e8.blk b id) |> fun b => e9.blk b id
  have hoA : ∀ j, sA.own j → W.heap.size < j := fun j hj => by have := oA j hj; omega
  have row4s : ∀ (L4 : List By) (f : Nat → ByteArray) (g : Nat) (v : World), L4.length = 4 → (∀ i, i < 4 → f i = ba (L4.getD i [])) → Blk v g (strsB L4).toArray 9 → v.cell? ⟨g, k, none⟩ = some (.string (f k)) := fun L4 f g v h4 hf hb => by
    rw [hb.cell, hf k hk]
    have : (strsB L4)[k]? = some (.string (ba (L4.getD k []))) := by
      unfold strsB
      rw [List.getElem?_map, List.getElem?_eq_getElem (by omega), List.getD_eq_getElem?_getD, List.getElem?_eq_getElem (by omega)]
      rfl
    simpa using this
  have row1 := fun g v => row4s oneN oneB g v rfl fun _ _ => rfl
  have row2 := fun g v => row4s twoN twoB g v rfl fun _ _ => rfl
  have e9 := (Ext.refl (fun _ => False) v9).drew
  have two := two.keep e9
  have E9 := E9.tr e9
  have b9 := e9.blk b9 id
  clear e9
  generalize v9.drew = u9 at two E9 b9 ⊢
  refine ⟨fun a b => Ext (fun _ => False) a b, fun v => Ext (fun _ => False) u9 v, Ext.refl _ _, ?_⟩
  have gS : ∀ (L4 : List By) (z : Slc) (a b : World), Ext (fun _ => False) a b → (∃ g, z = rowS g 4 ∧ Blk a g (strsB L4).toArray 9) → ∃ g, z = rowS g 4 ∧ Blk b g (strsB L4).toArray 9 := fun L4 z a b e ⟨g, h1, h2⟩ => ⟨g, h1, e.blk h2 id⟩
  have gA : ∀ (f : Nat → ByteArray) (z : Addr) (a b : World), Ext (fun _ => False) a b → a.cell? z = some (.string (f k)) → b.cell? z = some (.string (f k)) := fun f z a b e h => e.cell_same h
  refine ⟨fun z v => ∃ g, z = rowS g 4 ∧ Blk v g (strsB oneN).toArray 9, gS oneN, ?_⟩
  refine ⟨fun z v => v.cell? z = some (.string (oneB k)), gA oneB, ?_⟩
  refine ⟨fun z v => z = oneB k, fun z a b e h => h, ?_⟩
  refine ⟨fun z v => ∃ g, z = rowS g 4 ∧ Blk v g (strsB twoN).toArray 9, gS twoN, ?_⟩
  refine ⟨fun z v => v.cell? z = some (.string (twoB k)), gA twoB, ?_⟩
  refine ⟨fun z v => z = twoB k, fun z a b e h => h, ?_⟩
  refine ⟨fun z v => z = oneB k, fun z a b e h => h, ?_⟩
  have i4 : 0 ≤ (k : Int) ∧ (k : Int) < ((4 : Nat) : Int) := ⟨by omega, by omega⟩
  refine ⟨⟨?_, ?_, ?_, ?_, ?_, ?_, ?_, trivial⟩, ?_⟩
  · intro v _ e
    refine (Hn.start v).nw (cs := strsB oneN) fun v' L => ?_
    exact ⟨trivial, e.tr L.ext, L.ext, _, rfl, _, rfl, L.get 0 rfl⟩
  · rintro v _ e z ⟨g, rfl, hb⟩
    refine ⟨i4.1, i4.2, Nn.of ⟨trivial, e, Ext.refl _ _, _, rfl, ?_⟩⟩
    rw [add_lit, Nat.zero_add, Int.toNat_natCast, Nat.mul_one]
    exact row1 g v hb
  · intro v _ e z hz
    exact Ld.mk (x := oneB k) hz ⟨trivial, e, Ext.refl _ _, _, rfl, rfl⟩
  · intro v _ e
    refine (Hn.start v).nw (cs := strsB twoN) fun v' L => ?_
    exact ⟨trivial, e.tr L.ext, L.ext, _, rfl, _, rfl, L.get 0 rfl⟩
  · rintro v _ e z ⟨g, rfl, hb⟩
    refine ⟨i4.1, i4.2, Nn.of ⟨trivial, e, Ext.refl _ _, _, rfl, ?_⟩⟩
    rw [add_lit, Nat.zero_add, Int.toNat_natCast, Nat.mul_one]
    exact row2 g v hb
  · intro v _ e z hz
    exact Ld.mk (x := twoB k) hz ⟨trivial, e, Ext.refl _ _, _, rfl, rfl⟩
  · rintro v _ e z rfl
    exact ⟨trivial, e, Ext.refl _ _, _, rfl, rfl⟩
  rintro v _ e z1 _ z2 _ z3 _ z4 _ z5 _ z6 rfl z7 rfl
  have hoA : ∀ j, sA.own j → W.heap.size < j := fun j hj => by have := oA j hj; omega
  exact c_closes hs hpm (two.keep e) (E9.tr e) (by omega) hoA (e.blk b9 id) hk hpne.1 hpne.2
theorem closed_law (hbox : BoxOk) (hs : AS W) (hpm : PM W) (m : Mx) (hQ : OpsV W s Q) (x y ww h which : Int) : C6 s m x y ww h which W fun r w1 => r = true ∧ Ext (fun _ => False) W w1 := by
  refine T6 _ m x y ww h which _ _ ?_
  unfold S6
  refine (Hn.start W).nw fun w2 K => ?_
  simp only [List.nil_append, add_lit, Nat.zero_add] at K ⊢
  refine (c_lives hbox (hs.keep K.ext) (hpm.keep K.ext)).mono ?_
  rintro r w3 ⟨rfl, e3⟩
  have K := K.keep e3
  refine Br.f rfl ?_
  refine (c_small2 hQ K.ext).mono ?_
  rintro r w5 ⟨h60, e5⟩
  have K := K.keep e5
  cases r with
  | false => exact Br.t rfl ⟨by trivial, K.ext⟩
  | true =>
  have h60 := h60 rfl
  refine Br.f rfl ?_
  iterate 10 refine Br.dec (fun _ => ⟨by trivial, K.ext⟩) fun _ => ?_
  obtain ⟨k, rfl⟩ : ∃ k : Nat, which = (k : Int) := ⟨which.toNat, by omega⟩
  have K := K.drew
  have E := K.ext
  have hM := K.get 0 rfl
  have lW : W.heap.size < w5.drew.heap.size := K.lt 0 rfl
  refine Join.intro ⟨fun v => Blk v W.heap.size (mrow m).toArray 23, hM, ?_⟩
  generalize w5.drew = u at K E hM lW ⊢
  iterate 6 refine LdS.of (fun w' h' => h') rfl ?_
  have hl := hQ.len
  have hv : ∀ {v : World}, Ext (fun _ => False) u v → VRow v s 3 (opsL Q) := fun e => (hQ.r.keep (E.tr e)).view
  have tail : ∀ (xs : Slc) (g : Nat) (v : World), Ext (fun _ => False) u v → Row v xs 63 3 (opsL Q) → xs.len = Q.length → (∀ j, xs.own j → u.heap.size ≤ j) → IV v (rowS g 4) [x, y, ww, h] →
      C42 (⟨#[114, 101]⟩ : ByteArray) (rowS g 4) v fun r v2 => Blk v2 W.heap.size (mrow m).toArray 23 ∧
        Nw v2 (.cells #[.string r.1, Slc.v r.2.1, .string r.2.2] 63) fun v3 => Blk v3 W.heap.size (mrow m).toArray 23 ∧
        Rn Tryd.prog (Builtin.append_ #[84, 84] 84 #[Slc.v xs, Slc.v ((⟨some ⟨v2.heap.size, 0, none⟩, 1, 1⟩ : Slc))]) v3 Slc.v fun (x4 : Slc) v4 => Blk v4 W.heap.size (mrow m).toArray 23 ∧
        C41 x4 (m.1, m.2.1, m.2.2.1, m.2.2.2.1, m.2.2.2.2.1, m.2.2.2.2.2) v4 fun r1 r2 v5 =>
          S6J2 W s x y ww h (k : Int) (fun r w1 => r = true ∧ Ext (fun _ => False) W w1) (r1, r2) v5 := by
    intro xs g v e hr hxl ho iv
    refine (c_opR iv (by simp)).mono ?_
    rintro r v2 ⟨sa, rfl, oar, e2⟩
    have b2 := (e.tr e2).blk hM id
    refine ⟨b2, (Hn.start v2).nw (cs := opsL [((⟨#[114, 101]⟩, sa, eB), [x, y, ww, h].map iO)]) fun v3 L => ⟨L.ext.blk b2 id, ?_⟩⟩
    have hr3 := (hr.keep e2 fun _ _ e => e).keep L.ext fun _ _ e => e
    obtain ⟨x4, v4, r1, r2, r3, r4, r5⟩ := elOp.app1 (ty := 84) hr3 (L.get 0 rfl) rfl (ops_one _) (by omega) (by omega)
    have b4 : Blk v4 W.heap.size (mrow m).toArray 23 := r4.blk (L.ext.blk b2 id) fun hj => by have := ho _ hj; omega
    refine ⟨x4, v4, r1, b4, ?_⟩
    have E4 : Ext (fun _ => False) W v4 := Ext.new ((E.tr (e.tr e2)).tr L.ext) r4 fun j hj => by have := ho j hj; omega
    have R4 : OpsR v4 x4 (Q ++ [((⟨#[114, 101]⟩, sa, eB), [x, y, ww, h].map iO)]) := hQ.r.more E4 (by rw [opsL, List.flatMap_append]; exact r2) fun q hq => by
      rw [List.mem_singleton.1 hq]
      exact ⟨((oar.keep L.ext).keepR hr3 r4).1, by simp⟩
    refine (c_played (m := m) (hs.keep E4) R4 (by rw [List.length_append]; simp; omega)).mono ?_
    rintro r1 ok v5 ⟨e5, hp⟩
    rw [List.map_append] at hp
    have s4 := E4.size
    exact c_both hs hpm hQ.r h60 (by omega) (by omega) (by omega) (by omega) (by omega) (E4.tr e5) (e5.blk b4 id) E4 (by have := b4.lt; omega) hp
  refine ⟨?_, ?_⟩
  · refine (Hn.start u).nw (cs := []) fun v1 L => ⟨L.ext.blk hM id, ?_⟩
    have row0 : ∀ {v : World}, Blk v u.heap.size ([] : List Value).toArray 63 → Row v (rowS u.heap.size 0) 63 3 [] := fun h => ⟨by simp, .inr ⟨_, #[], rfl, h, Nat.le_refl _, by simp, by simp⟩⟩
    have o0 : ∀ j, (rowS u.heap.size 0).own j → u.heap.size ≤ j := fun j hj => by obtain ⟨a', ha, rfl⟩ := hj; cases ha; exact Nat.le_refl _
    refine ⟨?_, ?_⟩
    · obtain ⟨x', v', r1, r2, r3, r4, r5⟩ := elOp.app0 (ty := 84) (by decide) (row0 (L.get 0 rfl)) rfl (hv L.ext) (ops_one Q) (by omega) (by omega)
      have b' := r4.blk (L.ext.blk hM id) id
      refine ⟨x', v', r1, b', (Hn.start v').nw (cs := ints [x, y, ww, h]) fun v2 L2 => ⟨L2.ext.blk b' id, ?_⟩⟩
      exact tail x' _ v2 ((L.ext.tr r4).tr L2.ext) (r2.keep L2.ext fun _ _ e => e) (by omega) (fun j hj => (r5 j hj).elim (o0 j) fun hj => by have := L.size; omega) (IV.of (l := [x, y, ww, h]) (L2.get 0 rfl))
    · refine (Hn.start v1).nw (cs := ints [x, y, ww, h]) fun v2 L2 => ⟨(L.ext.tr L2.ext).blk hM id, ?_⟩
      obtain ⟨x', v', r1, r2, r3, r4, r5⟩ := elOp.app0 (ty := 84) (by decide) (row0 (L2.ext.blk (L.get 0 rfl) id)) rfl (hv (L.ext.tr L2.ext)) (ops_one Q) (by omega) (by omega)
      have b' := r4.blk ((L.ext.tr L2.ext).blk hM id) id
      refine ⟨x', v', r1, b', ?_⟩
      exact tail x' _ v' ((L.ext.tr L2.ext).tr r4) r2 (by omega) (fun j hj => (r5 j hj).elim (o0 j) fun hj => by have := L.size; have := L2.size; omega) ((IV.of (l := [x, y, ww, h]) (L2.get 0 rfl)).keep r4)
  · refine (Hn.start u).nw (cs := ints [x, y, ww, h]) fun v1 L => ⟨L.ext.blk hM id, ?_⟩
    refine (Hn.start v1).nw (cs := []) fun v2 L2 => ⟨(L.ext.tr L2.ext).blk hM id, ?_⟩
    have row0 : Row v2 (rowS v1.heap.size 0) 63 3 [] := ⟨by simp, .inr ⟨_, #[], rfl, L2.get 0 rfl, Nat.le_refl _, by simp, by simp⟩⟩
    obtain ⟨x', v', r1, r2, r3, r4, r5⟩ := elOp.app0 (ty := 84) (by decide) row0 rfl (hv (L.ext.tr L2.ext)) (ops_one Q) (by omega) (by omega)
    have b' := r4.blk ((L.ext.tr L2.ext).blk hM id) id
    refine ⟨x', v', r1, b', ?_⟩
    have s1 := L.size
    have s2 := L2.size
    exact tail x' _ v' ((L.ext.tr L2.ext).tr r4) r2 (by omega) (fun j hj => (r5 j hj).elim (fun hj => by obtain ⟨a', ha, rfl⟩ := hj; cases ha; exact s1) fun hj => by omega) (((IV.of (l := [x, y, ww, h]) (L.get 0 rfl)).keep L2.ext).keep r4)
end
end Pat
end Go.Proofs.YtjbeembbnkmpeaaDoor

/- Paths: the reference's points and Box; PathDoes. Conditions: the tables are laid; Box. -/
namespace Go.Proofs.YtjbeembbnkmpeaaDoor
namespace Pat
open Sh Mat Fix Opr
set_option linter.unusedVariables false
set_option linter.unusedSimpArgs false
set_option maxRecDepth 8000
set_option maxHeartbeats 8000000
theorem min_if (a b : Int) : (if b < a then b else a) = min a b := by omega
theorem max_if (a b : Int) : (if b > a then b else a) = max a b := by omega
def bxrow (b : Bx) : List Value := [.int .i64 b.1, .int .i64 b.2.1, .int .i64 b.2.2.1, .int .i64 b.2.2.2]
theorem ptsL_take {M : List Sg} {i : Nat} {o : Sg} (ho : M[i]? = some o) : ptsL (M.take (i + 1)) = ptsL (M.take i) ++ ptsS o := by
  rw [List.take_add_one, ho]
  unfold ptsL
  rw [List.flatMap_append]
  simp
theorem ptsL_len (M : List Sg) : (ptsL M).length ≤ 3 * M.length := by
  induction M with
  | nil => simp [ptsL]
  | cons o M ih =>
    unfold ptsL at *
    rw [List.flatMap_cons, List.length_append, List.length_cons]
    have : (ptsS o).length ≤ 3 := by
      unfold ptsS
      split
      · simp
      · split <;> simp
    omega
section
variable {w0 w w' w1 : World} {s sl ns : Slc} {L : List Ob} {l : List Int} {m : Mx} {a d : ByteArray} {p : Pa} {g : G} {M : List Sg} {Lp' : List Pnt}
attribute [local irreducible] Ld Sh.St Nw Nn LdS LdT LdST StT
theorem QO.snoc2 {r : Slc} {p q : Pnt} {ty : TypeId} {K : Slc → World → Prop} (h : QO w0 w r Lp') (he : Ext (fun _ => False) w0 w) (hl : Lp'.length ≤ 1000000)
    (k : ∀ r' w', QO w0 w' r' (Lp' ++ [p, q]) → Ext (fun _ => False) w0 w' → Ext r.own w w' → K r' w') :
    Nw w (.cells #[.int .i64 p.1, .int .i64 p.2, .int .i64 q.1, .int .i64 q.2] 43) fun w2 => Rn Tryd.prog (Builtin.append_ #[164, 164] ty #[Slc.v r, Slc.v (⟨some ⟨w.heap.size, 0, none⟩, 2, 2⟩ : Slc)]) w2 Slc.v fun (r' : Slc) w3 => K r' w3 := by
  refine (Hn.start w).nw (cs := pts [p, q]) fun w2 H => ?_
  have e2 := H.ext
  have hlen := h.v.1
  obtain ⟨s', w', r1, r2, r3, r4, r5⟩ := elPt.app (ty := ty) (s2 := rowS w.heap.size 2) (h.1.keep e2 fun _ _ e => e) (VRow.of (H.get 0 rfl) rfl) (pts_one _) (by show (r.len + 2) * 16 ≤ _; omega) (by show r.len + 2 ≤ _; omega)
  have E2 := he.tr e2
  refine ⟨s', w', r1, k s' w' ⟨by rw [pts, List.flatMap_append]; exact r2, fun j hj => ?_⟩ (Ext.new E2 r4 h.2) (e2.trans r4 (fun _ e => e.elim) fun _ _ h => h)⟩
  have := E2.size
  rcases r5 j hj with hh | hh
  · exact h.2 j hh
  · omega
theorem r_points (h : SV w sl M) (hl : M.length ≤ 100000) : C103 sl w fun r w1 => QO w w1 r (ptsL M) ∧ Ext (fun _ => False) w w1 := by
  refine T103 _ _ _ ?_
  unfold S103
  have hlen := h.1
  refine ⟨fun n st v => ∃ i : Nat, st.2 = (i : Int) ∧ i ≤ M.length ∧ n = M.length - i ∧ QO w v st.1 (ptsL (M.take i)) ∧ Ext (fun _ => False) w v, M.length, ⟨0, rfl, by omega, rfl, QO.nil _ _, Ext.refl _ _⟩, ?_⟩
  rintro n ⟨r, st⟩ v ⟨i, hst, hi, rfl, hqo, ev⟩
  simp only at hst hqo
  subst hst
  unfold S103L1
  dsimp only
  rw [hlen]
  refine Br.dec (fun q => ?_) fun q => ?_
  rotate_left
  · have hil : i = M.length := by omega
    subst hil
    rw [List.take_length] at hqo
    exact ⟨hqo, ev⟩
  have ho : M[i]? = some M[i] := List.getElem?_eq_getElem (by omega)
  generalize M[i] = o at ho
  have hpl := ptsL_take ho
  have hll : (ptsL (M.take i)).length ≤ 300000 := by
    have := ptsL_len (M.take i)
    rw [List.length_take] at this
    omega
  rw [← hlen]
  refine ld_sv (h.keep ev) ho rfl ?_
  refine (Hn.start v).nw fun u K => ?_
  simp only [List.nil_append, add_lit, Nat.zero_add] at K ⊢
  iterate 7 (refine K.st 0 rfl (by simp) fun _ K => ?_; simp only [List.set_cons_zero, List.set_cons_succ] at K)
  have gb := K.get 0 rfl
  have hq := hqo.keep K.ext
  have eu := ev.tr K.ext
  have rown : ∀ j, r.own j → j < v.heap.size := fun j hj => hqo.1.own_lt hj
  have hw : IntKind.i64.wrap ((i : Int) + 1) = ((i + 1 : Nat) : Int) := by rw [i64_id (by omega)]; rfl
  have fin : ∀ (r' : Slc) (v' : World) (T : List Pnt), QO w v' r' (ptsL (M.take i) ++ T) → T = ptsS o → Ext (fun _ => False) w v' → ∃ n', n' < M.length - i ∧ ∃ k : Nat, (r', IntKind.i64.wrap ((i : Int) + 1)).2 = (k : Int) ∧ k ≤ M.length ∧ n' = M.length - k ∧ QO w v' (r', IntKind.i64.wrap ((i : Int) + 1)).1 (ptsL (M.take k)) ∧ Ext (fun _ => False) w v' := fun r' v' T h1 h2 h3 =>
    ⟨M.length - (i + 1), by omega, i + 1, hw, by omega, rfl, by rw [hpl, ← h2]; exact h1, h3⟩
  rw [hlen] at *
  refine K.ld 0 rfl rfl (Br.eq (fun q3 => ?_) fun n3 => ?_)
  · iterate 4 refine K.ld 0 rfl rfl ?_
    have hS : [Sg.P o, Sg.Q o] ++ [Sg.R o] = ptsS o := by
      unfold ptsS
      rw [if_neg (by omega), if_pos q3]
      rfl
    refine hq.snoc2 (p := Sg.P o) (q := Sg.Q o) eu (by omega) fun r' u2 ho' e2 ex => ?_
    have gb2 := ex.blk gb fun hj => by have := rown _ hj; omega
    refine Ld.of gb2 rfl (Br.eq (fun q1 => absurd q1 (by omega)) fun _ => Ld.of gb2 rfl (Br.eq (fun q1 => absurd q1 (by omega)) fun _ => Ld.of gb2 rfl (Br.eq (fun _ => ?_) fun n => absurd q3 n)))
    iterate 2 refine Ld.of gb2 rfl ?_
    refine ho'.snoc (p := Sg.R o) e2 (by rw [List.length_append]; simp; omega) fun r2 u3 ho2 e3 _ => ?_
    exact fin r2 u3 ([Sg.P o, Sg.Q o] ++ [Sg.R o]) (by rw [← List.append_assoc]; exact ho2) hS e3
  · refine K.ld 0 rfl rfl (Br.eq (fun q1 => ?_) fun n1 => K.ld 0 rfl rfl (Br.eq (fun q2 => ?_) fun n2 => K.ld 0 rfl rfl (Br.eq (fun q3 => absurd q3 n3) fun _ => ?_)))
    · iterate 2 refine K.ld 0 rfl rfl ?_
      refine hq.snoc (p := Sg.R o) eu (by omega) fun r2 u3 ho2 e3 _ => ?_
      exact fin r2 u3 _ ho2 (by unfold ptsS; rw [if_pos (.inl q1)]) e3
    · iterate 2 refine K.ld 0 rfl rfl ?_
      refine hq.snoc (p := Sg.R o) eu (by omega) fun r2 u3 ho2 e3 _ => ?_
      exact fin r2 u3 _ ho2 (by unfold ptsS; rw [if_pos (.inr q2)]) e3
    · exact fin r _ [] (by rw [List.append_nil]; exact hq) (by unfold ptsS; rw [if_neg (fun h => h.elim n1 n2), if_neg n3]) eu
theorem ldS_mk4 {v : World} {r3 : Slc} {p : Pnt} {T : List Pnt} {K : Int → Int → Int → Int → Prop} (h : QV v r3 (p :: T)) (k : K p.1 p.2 p.1 p.2) :
    0 ≤ (0 : Int) ∧ (0 : Int) < (r3.len : Nat) ∧ Nn r3.p fun a73 => LdS (fun v' => QV v' r3 (p :: T)) (a73.add (((0 : Int)).toNat * 2)) (Value.int .i64) fun (x74 : Int) =>
        0 ≤ (0 : Int) ∧ (0 : Int) < (r3.len : Nat) ∧ Nn r3.p fun a75 => LdS (fun v' => QV v' r3 (p :: T)) ((a75.add (((0 : Int)).toNat * 2)).add 1) (Value.int .i64) fun (x76 : Int) =>
        0 ≤ (0 : Int) ∧ (0 : Int) < (r3.len : Nat) ∧ Nn r3.p fun a77 => LdS (fun v' => QV v' r3 (p :: T)) (a77.add (((0 : Int)).toNat * 2)) (Value.int .i64) fun (x78 : Int) =>
        0 ≤ (0 : Int) ∧ (0 : Int) < (r3.len : Nat) ∧ Nn r3.p fun a79 => LdS (fun v' => QV v' r3 (p :: T)) ((a79.add (((0 : Int)).toNat * 2)).add 1) (Value.int .i64) fun (x80 : Int) => K x74 x76 x78 x80 := by
  obtain ⟨ad, ha, _⟩ := h.get (i := 0) rfl
  have hl := h.1
  have g : ∀ v', QV v' r3 (p :: T) → v'.cell? (ad.add (0 * 2)) = some (.int .i64 p.1) ∧ v'.cell? ((ad.add (0 * 2)).add 1) = some (.int .i64 p.2) := fun v' hv => by
    obtain ⟨ad', ha', c⟩ := hv.get (i := 0) rfl
    rw [ha] at ha'
    cases ha'
    exact c
  have b : 0 ≤ (0 : Int) ∧ (0 : Int) < (r3.len : Nat) := ⟨by omega, by rw [hl]; simp⟩
  rw [ha]
  exact ⟨b.1, b.2, Nn.of (ldS_mk (fun v' hv => (g v' hv).1) ⟨b.1, b.2, Nn.of (ldS_mk (fun v' hv => (g v' hv).2) ⟨b.1, b.2, Nn.of (ldS_mk (fun v' hv => (g v' hv).1) ⟨b.1, b.2, Nn.of (ldS_mk (fun v' hv => (g v' hv).2) k)⟩)⟩)⟩)⟩
theorem r_box (h : SV w sl M) (hl : M.length ≤ 100000) : C39 sl w fun r is w1 => (r, is) = boxP (ptsL M) ∧ Ext (fun _ => False) w w1 := by
  refine T39 _ _ _ ?_
  unfold S39
  refine (Hn.start w).nw fun w2 H => ?_
  simp only [List.nil_append, add_lit, Nat.zero_add] at H ⊢
  refine (r_points (h.keep H.ext) hl).mono ?_
  rintro r3 w4 ⟨hqo, e4⟩
  have H := H.keep e4
  have hqv := hqo.v
  have hql := hqv.1
  have hpl := ptsL_len M
  generalize ptsL M = P at hqo hqv hql hpl
  rw [hql]
  refine Br.eq (fun hz => ?_) fun hz => ?_
  · have : P = [] := List.eq_nil_of_length_eq_zero (by omega)
    subst this
    iterate 4 (refine H.st 0 rfl (by simp) fun _ H => ?_; simp only [List.set_cons_zero, List.set_cons_succ] at H)
    iterate 4 refine H.ld 0 rfl rfl ?_
    exact ⟨rfl, H.ext⟩
  have hpos : 0 < P.length := by omega
  obtain ⟨p, T, rfl⟩ : ∃ p T, P = p :: T := by
    cases P with
    | nil => simp at hpos
    | cons p T => exact ⟨p, T, rfl⟩
  have H := H.drew
  have hqv := hqv.keep (Ext.refl _ w4).drew
  have hr0 : ∀ j, r3.own j → j < w4.drew.heap.size := fun j hj => hqo.1.own_lt hj
  generalize w4.drew = u at H hqv hr0 ⊢
  have main : ∀ (v : World), Hn w v [(w.heap.size, [.int .i64 0, .int .i64 0, .int .i64 0, .int .i64 0], 72), (u.heap.size, bxrow (p.1, p.2, p.1, p.2), 72)] → QV v r3 (p :: T) →
      S39J1 w r3 (fun r is w1 => (r, is) = boxP (p :: T) ∧ Ext (fun _ => False) w w1) ⟨u.heap.size, 0, none⟩ v := by
    intro v H hqv
    unfold S39J1
    refine ⟨fun n st v => ∃ i : Nat, st = (i : Int) ∧ i ≤ (p :: T).length ∧ n = (p :: T).length - i ∧ Hn w v [(w.heap.size, [.int .i64 0, .int .i64 0, .int .i64 0, .int .i64 0], 72), (u.heap.size, bxrow (((p :: T).take i).foldl addB (p.1, p.2, p.1, p.2)), 72)] ∧ QV v r3 (p :: T), (p :: T).length, ⟨0, rfl, by omega, rfl, H, hqv⟩, ?_⟩
    clear H hqv
    rintro n st v ⟨i, rfl, hi, rfl, H, hqv⟩
    unfold S39L1
    simp only [add_lit, Nat.zero_add]
    rw [hql]
    refine Br.dec (fun q => ?_) fun q => ?_
    · have hlt : i < (p :: T).length := by omega
      have hpi : (p :: T)[i]? = some ((p :: T).getD i (0, 0)) := by rw [List.getD_eq_getElem?_getD, List.getElem?_eq_getElem hlt]; rfl
      have htake : ((p :: T).take (i + 1)).foldl addB (p.1, p.2, p.1, p.2) = addB (((p :: T).take i).foldl addB (p.1, p.2, p.1, p.2)) ((p :: T).getD i (0, 0)) := by
        rw [List.take_add_one, hpi, List.foldl_append]
        rfl
      have luv := H.lt 1 rfl
      rw [← hql]
      refine ld_qv (i := i) hqv hlt rfl ?_
      refine H.nw' fun v2 H e2 => ?_
      simp only [List.cons_append, List.nil_append] at H
      refine H.st' 2 rfl (by simp) fun v3 H e3 => ?_
      simp only [List.set_cons_zero, List.set_cons_succ] at H
      refine H.st' 2 rfl (by simp) fun v4 H e4 => ?_
      simp only [List.set_cons_zero, List.set_cons_succ] at H
      generalize ((p :: T).take i).foldl addB (p.1, p.2, p.1, p.2) = bx at H htake
      generalize (p :: T).getD i (0, 0) = o at H htake
      refine H.ld 1 rfl rfl (H.ld 2 rfl rfl (H.ld 1 rfl rfl (H.ld 2 rfl rfl (H.ld 1 rfl rfl (H.ld 2 rfl rfl (H.ld 1 rfl rfl (H.ld 2 rfl rfl ?_)))))))
      simp only [min_if, max_if]
      refine H.st' 1 rfl (by simp [bxrow]) fun v5 H e5 => ?_
      simp only [bxrow, List.set_cons_zero, List.set_cons_succ] at H
      refine H.st' 1 rfl (by simp) fun v6 H e6 => ?_
      simp only [List.set_cons_zero, List.set_cons_succ] at H
      refine H.st' 1 rfl (by simp) fun v7 H e7 => ?_
      simp only [List.set_cons_zero, List.set_cons_succ] at H
      refine H.st' 1 rfl (by simp) fun v8 H e8 => ?_
      simp only [List.set_cons_zero, List.set_cons_succ] at H
      refine ⟨(p :: T).length - (i + 1), by omega, i + 1, by rw [i64_id (by omega)]; rfl, by omega, by omega, ?_, ?_⟩
      · rw [htake]
        exact Hn.left (L := [_, _]) (M := [_]) H
      · have nv : ∀ j, r3.own j → ¬ j = v.heap.size := fun j hj e => by have := hr0 j hj; omega
        have nu : ∀ j, r3.own j → ¬ j = u.heap.size := fun j hj e => by have := hr0 j hj; omega
        exact ⟨hqv.1, (((((((hqv.keep e2).2.keepF e3 nv).keepF e4 nv).keepF e5 nu).keepF e6 nu).keepF e7 nu).keepF e8 nu)⟩
    · have hil : i = (p :: T).length := by omega
      subst hil
      rw [List.take_length] at H
      iterate 4 refine H.ld 1 rfl rfl ?_
      iterate 4 (refine H.st 0 rfl (by simp) fun _ H => ?_; simp only [List.set_cons_zero, List.set_cons_succ] at H)
      iterate 4 refine H.ld 0 rfl rfl ?_
      exact ⟨rfl, H.ext⟩
  refine Join.intro ⟨fun v' => QV v' r3 (p :: T), hqv, ?_⟩
  rw [← hql]
  refine ldS_mk4 hqv ?_
  have ord : ∀ X : World → Prop → Prop, (∀ v' x, QV v' r3 (p :: T) → x → X v' x) → Nw u (.cells #[.int .i64 0, .int .i64 0, .int .i64 0, .int .i64 0] 72) fun vw86 => X vw86 (
      Sh.St vw86 (⟨u.heap.size, 0, none⟩ : Addr) (.int .i64 p.1) fun vw87 => Sh.St vw87 (⟨u.heap.size, 1, none⟩ : Addr) (.int .i64 p.2) fun vw88 => Sh.St vw88 (⟨u.heap.size, 2, none⟩ : Addr) (.int .i64 p.1) fun vw89 => Sh.St vw89 (⟨u.heap.size, 3, none⟩ : Addr) (.int .i64 p.2) fun vw90 =>
      S39J1 w r3 (fun r is w1 => (r, is) = boxP (p :: T) ∧ Ext (fun _ => False) w w1) ⟨u.heap.size, 0, none⟩ vw90) := by
    intro X hX
    refine H.nw' fun v1 H e1 => hX v1 _ (hqv.keep e1) ?_
    simp only [List.cons_append, List.nil_append] at H
    refine H.st' 1 rfl (by simp) fun v2 H e2 => ?_
    simp only [List.set_cons_zero, List.set_cons_succ] at H
    refine H.st' 1 rfl (by simp) fun v3 H e3 => ?_
    simp only [List.set_cons_zero, List.set_cons_succ] at H
    refine H.st' 1 rfl (by simp) fun v4 H e4 => ?_
    simp only [List.set_cons_zero, List.set_cons_succ] at H
    refine H.st' 1 rfl (by simp) fun v5 H e5 => ?_
    simp only [List.set_cons_zero, List.set_cons_succ] at H
    have nu : ∀ j, r3.own j → ¬ j = u.heap.size := fun j hj e => by have := hr0 j hj; omega
    exact main v5 H ⟨hqv.1, (((((hqv.keep e1).2.keepF e2 nu).keepF e3 nu).keepF e4 nu).keepF e5 nu)⟩
  have o1 := ord (fun _ x => x) fun _ _ _ x => x
  have o2 := ord (fun v' x => QV v' r3 (p :: T) ∧ x) fun _ _ h x => ⟨h, x⟩
  simp only [add_lit, Nat.zero_add]
  exact ⟨o1, o2⟩
end
end Pat
end Go.Proofs.YtjbeembbnkmpeaaDoor

/- Paths: PathDoes, the law. Conditions: the tables are laid; Box. -/
namespace Go.Proofs.YtjbeembbnkmpeaaDoor
namespace Pat
open Sh Mat Fix Opr
set_option linter.unusedVariables false
set_option linter.unusedSimpArgs false
set_option maxRecDepth 8000
set_option maxHeartbeats 8000000
section
variable {W w0 w w' w1 : World} {s sl sg sy ns : Slc} {L : List Ob} {Q : List OpA} {l : List Int} {m : Mx} {a d : ByteArray} {p : Pa} {g : G} {M : List Sg} {b gg yb : Nat}
attribute [local irreducible] Ld Sh.St Nw Nn LdS LdT LdST StT
/-- What is pinned: the matrix, the graphics, the reference's path. -/
abbrev pins (W : World) (m : Mx) (gg : Nat) (g : G) (yb : Nat) (sy : Slc) (c : Bool) : List (Nat × List Value × TypeId) := [(W.heap.size, mrow m, 23), (gg, Sig.cells LG g, 30), (yb, [Slc.v sy, .bool c], 86)]
/-- The reference's path has been replaced. -/
theorem LS.ref {v v' : World} {sy' : Slc} {p' : Pa} {c c' : Bool} {N : List (Nat × List Value × TypeId)} {K : List (Slc × List Sg)} (h : LS W v b p' sg (pins W m gg g yb sy c ++ N) K) (hg : W.heap.size < gg) (hy : gg < yb) (he : Ext (· = yb) v v') (hb : Blk v' yb ([Slc.v sy', .bool c'] : List Value).toArray 86)
    (hs : SV v' sy' p'.L) (ho : ∀ j, sy'.own j → ¬ sg.own j ∧ j ≠ b ∧ j < v'.heap.size) : LS W v' b p' sg (pins W m gg g yb sy' c') [(sy', p'.L)] := by
  obtain ⟨_, n1, n2⟩ := h.pin (yb, [Slc.v sy, .bool c], 86) (by simp)
  have n1 : ¬ sg.own yb := n1
  have n2 : yb ≠ b := n2
  refine ⟨Ext.new h.ext he fun j hj => by omega, h.pv.keepF he (fun e => n2 e.symm) fun j hj e => n1 (e ▸ hj), h.own, h.ge, fun q hq => ?_, fun q hq => ?_⟩
  · simp only [pins, List.mem_cons, List.not_mem_nil, or_false] at hq
    rcases hq with rfl | rfl | rfl
    · have := h.pin (W.heap.size, mrow m, 23) (by simp)
      exact ⟨he.blk this.1 (by show ¬ W.heap.size = yb; omega), this.2⟩
    · have := h.pin (gg, Sig.cells LG g, 30) (by simp)
      exact ⟨he.blk this.1 (by show ¬ gg = yb; omega), this.2⟩
    · exact ⟨hb, n1, n2⟩
  · rw [List.mem_singleton.1 hq]
    exact ⟨hs, ho⟩
theorem c_compared (hbox : BoxOk) (h : LS W w b p sg (pins W m gg g yb sy p.cl) [(sy, p.L)]) {st : Int} {I : Int → World → Prop} (hI : ∀ v, LS W v b p sg (pins W m gg g yb sy p.cl) [(sy, p.L)] → I (IntKind.i64.wrap (st + 1)) v) (w7 : World) (hy : yb = w7.heap.size) :
    S5J1 (some ⟨b, 0, none⟩) w7 st I (fun r w1 => r = true ∧ Ext (fun _ => False) W w1) () w := by
  subst hy
  unfold S5J1
  simp only [add_lit, Nat.zero_add]
  have hf := h.pv.few
  refine (c_segs h.pv).mono ?_
  rintro r101 v1 ⟨h101, e1⟩
  have h := h.keep e1
  refine (hbox _ _ _ h101.sv (by omega)).mono ?_
  rintro r103 r104 v2 ⟨hbx, e2⟩
  have h := h.keep e2
  have s101 := h101.sv.keep e2
  refine (Hn.start v2).nw fun v3 K => ?_
  simp only [List.nil_append] at K
  iterate 4 (refine K.st 0 rfl (by simp) fun _ K => ?_; simp only [List.set_cons_zero, List.set_cons_succ] at K)
  have h := h.keep K.ext
  have s101 := s101.keep K.ext
  refine Ld.of (h.get 2 rfl) rfl ?_
  refine (r_box (h.gets 0 rfl) (by show p.L.length ≤ _; omega)).mono ?_
  rintro r112 r113 v4 ⟨hbr, e4⟩
  have hbr : (r112, r113) = boxP (ptsL p.L) := hbr
  have hbx : (r103, r104) = boxP (ptsL p.L) := hbx
  rw [← hbx] at hbr
  cases hbr
  have h := h.keep e4
  have K := K.keep e4
  have s101 := s101.keep e4
  refine (Hn.start v4).nw fun v5 K2 => ?_
  simp only [List.nil_append] at K2
  iterate 4 (refine K2.st 0 rfl (by simp) fun _ K2 => ?_; simp only [List.set_cons_zero, List.set_cons_succ] at K2)
  have h := (h.keep K2.ext).keep (Ext.refl _ _).drew
  have k1 := (((K.keep K2.ext).keep (Ext.refl _ _).drew)).get 0 rfl
  have k2 := (K2.keep (Ext.refl _ _).drew).get 0 rfl
  have s101 := (s101.keep K2.ext).keep (Ext.refl _ _).drew
  refine ⟨fun v' => Blk v' w7.heap.size ([Slc.v sy, .bool p.cl] : List Value).toArray 86, h.get 2 rfl, ?_⟩
  refine LdS.of (fun v' h' => h') rfl ?_
  refine (r_same s101 (h.gets 0 rfl) (by show p.L.length ≤ _; omega)).mono ?_
  rintro r v6 ⟨rfl, e6⟩
  have h := h.keep e6
  have k1 := e6.blk k1 id
  have k2 := e6.blk k2 id
  have s101 := s101.keep e6
  rw [decide_eq_true (show p.L = _ from rfl)]
  refine ⟨fun v' => Blk v' w7.heap.size ([Slc.v sy, .bool p.cl] : List Value).toArray 86 ∧ (Blk v' v2.heap.size (bxrow r103).toArray 72 ∧ Blk v' v4.heap.size (bxrow r103).toArray 72), ⟨h.get 2 rfl, k1, k2⟩, Br.f rfl ?_⟩
  iterate 4 refine LdS.of (fun v' h' => h'.2.1) rfl ?_
  iterate 4 refine LdS.of (fun v' h' => h'.2.2) rfl ?_
  refine Br.f (by simp) (Br.f (by simp) ?_)
  iterate 2 refine LdS.of (fun v' h' => h'.1) rfl ?_
  refine (c_same s101 (h.gets 0 rfl) (by show p.L.length ≤ _; omega)).mono ?_
  rintro r v7 ⟨rfl, e7⟩
  have h := h.keep e7
  refine ⟨⟨h.get 2 rfl, e7.blk k1 id, e7.blk k2 id⟩, ?_⟩
  refine (r_same (s101.keep e7) (h.gets 0 rfl) (by show p.L.length ≤ _; omega)).mono ?_
  rintro r v8 ⟨rfl, e8⟩
  have h := h.keep e8
  rw [decide_eq_true (show p.L = _ from rfl)]
  exact Br.f rfl (hI v8 h)
theorem paint_bg {nm d : By} {La : List Ob} (h : p.bg = p.L.foldl bgF (0, 0)) : (paintP p nm d La).p.bg = (paintP p nm d La).p.L.foldl bgF (0, 0) := by
  rcases paint_cases p nm d La with ⟨_, _, e⟩ | ⟨_, _, e⟩ | ⟨_, _, e, _⟩ <;> rw [e]
  · exact h
  · rfl
  · rfl
theorem paint_L {nm d : By} {La : List Ob} : (paintP p nm d La).L.length ≤ p.L.length + 1 := by
  have h : (if (howN nm).2 = true ∧ p.L ≠ [] then p.L ++ [clS] else p.L).length ≤ p.L.length + 1 := by
    split
    · simp
    · omega
  unfold paintP
  generalize (if (howN nm).2 = true ∧ p.L ≠ [] then p.L ++ [clS] else p.L) = LL at h
  generalize (howN nm).1 + (if p.cl = true then 8 else 0) = hw
  split
  · simp
  split
  · simp
  split
  · simp
  · exact h
theorem does_law (hbox : BoxOk) (hs : AS W) (hpm : PM W) (m : Mx) (g : G) (hQ : OpsV W s Q) : Go.Proofs.YtjbeembbnkmpeaaDoor.C5 s m g W fun r w1 => r = true ∧ Ext (fun _ => False) W w1 := by
  have hmx := maxLen_le
  have hmost := hQ.most
  refine T5 _ m g _ _ ?_
  unfold S5
  refine (Hn.start W).nw fun w2 K => ?_
  refine K.nw (cs := Sig.cells LG g) fun w3 K => ?_
  simp only [List.cons_append, List.nil_append, add_lit, Nat.zero_add] at K ⊢
  have s1 : W.heap.size < w3.heap.size := K.lt 0 rfl
  have s2 : w2.heap.size < w3.heap.size := K.lt 1 rfl
  have s3 : W.heap.size < w2.heap.size := by
    have := K.h.nodup
    have h1 := K.ge 1 rfl
    simp [arr] at this
    omega
  refine (c_new w3).mono ?_
  rintro r w4 ⟨b, rfl, hb, hpv, e4⟩
  have K := K.keep e4
  have lb := hpv.blk.lt
  refine (Hn.start w4).nw fun w5 K5 => ?_
  simp only [List.nil_append, add_lit, Nat.zero_add] at K5 ⊢
  iterate 2 (refine K5.st 0 rfl (by simp) fun _ K5 => ?_; simp only [List.set_cons_zero, List.set_cons_succ] at K5)
  have K := K.keep K5.ext
  have hpv := hpv.keep K5.ext
  have H : LS W _ b pa0 nilS (pins W m w2.heap.size g w4.heap.size nilS pa0.cl) [(nilS, pa0.L)] := ⟨K.ext, hpv, fun j hj => (by obtain ⟨a', ha, _⟩ := hj; cases ha), by omega, fun q hq => by
    have no : ∀ j, ¬ nilS.own j := fun j hj => by obtain ⟨a', ha, _⟩ := hj; cases ha
    simp only [List.mem_cons, List.not_mem_nil, or_false] at hq
    rcases hq with rfl | rfl | rfl
    · exact ⟨K.get 0 rfl, no _, by show W.heap.size ≠ b; omega⟩
    · exact ⟨K.get 1 rfl, no _, by show w2.heap.size ≠ b; omega⟩
    · exact ⟨K5.get 0 rfl, no _, by show w4.heap.size ≠ b; omega⟩, fun q hq => by
    rw [List.mem_singleton.1 hq]
    exact ⟨SV.nil _, fun j hj => by obtain ⟨a', ha, _⟩ := hj; cases ha⟩⟩
  clear K K5 hpv
  refine Br.f rfl ?_
  refine (c_small hQ H.ext).mono ?_
  intro r w6 e6
  have H := H.keep e6
  cases r with
  | false =>
    refine Br.t rfl ?_
    refine (c_lives hbox (hs.keep H.ext) (hpm.keep H.ext)).mono ?_
    rintro r v ⟨rfl, e⟩
    exact ⟨by trivial, H.ext.tr e⟩
  | true =>
  refine Br.f rfl ?_
  refine ⟨fun n st v => ∃ (i : Nat) (p : Pa) (sg sy : Slc), st = (i : Int) ∧ i ≤ Q.length ∧ n = Q.length - i ∧ LS W v b p sg (pins W m w2.heap.size g w4.heap.size sy p.cl) [(sy, p.L)] ∧ p.bg = p.L.foldl bgF (0, 0) ∧ (∀ j, sy.own j → j ≠ w4.heap.size), Q.length, ⟨0, pa0, nilS, nilS, rfl, by omega, rfl, H, rfl, fun j hj => by obtain ⟨a', ha, _⟩ := hj; cases ha⟩, ?_⟩
  clear H e6
  rintro n st v ⟨i, p, sg, sy, rfl, hi, rfl, H, hbg, hyo⟩
  unfold S5L1
  rw [hQ.len]
  refine Br.dec (fun q => ⟨by omega, by omega, ?_⟩) fun q => ?_
  rotate_left
  · refine (c_lives hbox (hs.keep H.ext) (hpm.keep H.ext)).mono ?_
    rintro r v ⟨rfl, e⟩
    exact ⟨by trivial, H.ext.tr e⟩
  obtain ⟨a, o, ha, hok, ho, hc⟩ := hQ.get' (i := i) (by omega)
  obtain ⟨c0, c1, c2⟩ := hc v H.ext
  rw [ha, Int.toNat_natCast]
  refine Nn.of (Ld.mk c0 (Ld.mk c1 (Ld.mk c2 ?_)))
  obtain ⟨hnl, dd, hql, hov, hot⟩ := hok
  have P0 := H.pv
  have hfew := P0.few
  refine (Hn.start v).nw fun w6 K => ?_
  simp only [List.nil_append, add_lit, Nat.zero_add] at K ⊢
  iterate 3 (refine K.st 0 rfl (by simp) fun _ K => ?_; simp only [List.set_cons_zero, List.set_cons_succ] at K)
  have H := (H.keep K.ext).push (K.get 0 rfl) P0 (Nat.le_refl _)
  simp only [List.cons_append, List.nil_append] at H
  have hi1 : IntKind.i64.wrap ((i : Int) + 1) = ((i + 1 : Nat) : Int) := by rw [i64_id (by omega)]; rfl
  refine Join.intro ?_
  have J : ∀ {v' : World} {p' : Pa} {sg' sy' : Slc}, LS W v' b p' sg' (pins W m w2.heap.size g w4.heap.size sy' p'.cl) [(sy', p'.L)] → p'.bg = p'.L.foldl bgF (0, 0) → (∀ j, sy'.own j → j ≠ w4.heap.size) →
      S5J1 (some ⟨b, 0, none⟩) w4 (i : Int) (fun s w => ∃ n', n' < Q.length - i ∧ ∃ (k : Nat) (p : Pa) (sg sy : Slc), s = (k : Int) ∧ k ≤ Q.length ∧ n' = Q.length - k ∧ LS W w b p sg (pins W m w2.heap.size g w4.heap.size sy p.cl) [(sy, p.L)] ∧ p.bg = p.L.foldl bgF (0, 0) ∧ (∀ j, sy.own j → j ≠ w4.heap.size)) (fun r w1 => r = true ∧ Ext (fun _ => False) W w1) () v' := by
    intro v' p' sg' sy' h hb' hy'
    exact c_compared hbox h (fun v'' h'' => ⟨Q.length - (i + 1), by omega, i + 1, p', sg', sy', hi1, by omega, rfl, h'', hb', hy'⟩) w4 rfl
  have opb := H.get 3 rfl
  refine Ld.of opb rfl ?_
  refine (r_paints _ _).mono ?_
  rintro r w8 ⟨rfl, rfl⟩
  refine Br.dec (fun hten => ?_) fun hten => ?_
  · iterate 3 refine Ld.of opb rfl ?_
    refine LdT.blk (pre := []) (post := []) (ts := LG) (x := g) (by rw [List.append_nil]; exact H.get 1 rfl) rfl ?_
    have hsy := H.gets 0 rfl
    refine (LS.paint_ hs hpm H (hov.keep H.ext) (by omega) hnl rfl).mono ?_
    rintro r147 is e v9 ⟨rfl, rfl, sp, rfl, hsv, hso, sg', H, hnil, hcap⟩
    have hqb := paint_bg (nm := bl o.1.1) (d := bl o.1.2.2) (La := o.2) hbg
    have hqf := H.pv.few
    have hqL : (paintP p (bl o.1.1) (bl o.1.2.2) o.2).L.length ≤ 100000 := by have := paint_L (p := p) (nm := bl o.1.1) (d := bl o.1.2.2) (La := o.2); omega
    generalize hq : paintP p (bl o.1.1) (bl o.1.2.2) o.2 = q at hqb hqf hsv hnil H hqL ⊢
    have P2 := H.pv
    refine (Hn.start v9).nw (cs := Sig.cells LPt pt0) fun _ K => ?_
    simp only [List.nil_append] at K
    refine StT.blk (pre := []) (post := []) (zs := Sig.cells LPt pt0) (ts := LPt) (by rw [List.append_nil]; exact K.get 0 rfl) rfl rfl fun v10 g10 e10 => ?_
    rw [List.append_nil] at g10
    have E10 : Ext (fun _ => False) v9 v10 := Ext.new K.ext e10 fun j hj => by have hj : j = v9.heap.size := hj; omega
    have H := (H.keep E10).push g10 P2 (Nat.le_refl _)
    simp only [List.cons_append, List.nil_append] at H
    have hsv := hsv.keep E10
    iterate 2 refine Ld.of (H.get 2 rfl) rfl ?_
    iterate 3 refine Ld.of (H.get 3 rfl) rfl ?_
    refine LdT.blk (pre := []) (post := []) (ts := LG) (x := g) (by rw [List.append_nil]; exact H.get 1 rfl) rfl ?_
    refine (r_paint (p := p) (g := g) (H.gets 0 rfl) hfew (hov.keep H.ext) (by omega)).mono ?_
    rintro r159 r160 r161 r162 v11 ⟨sp', z1, z2, z3, svp', svL, hcl, e11, hown⟩
    rw [hq] at z1 z2 z3 svp' svL hcl
    subst z1 z2 z3
    have H := H.keep e11
    have hsv := hsv.keep e11
    refine (Hn.start v11).nw fun v12 K => ?_
    refine K.nw (cs := Sig.cells LPt pt0) fun v13 K => ?_
    simp only [List.cons_append, List.nil_append, add_lit, Nat.zero_add] at K ⊢
    iterate 2 (refine K.st 0 rfl (by simp) fun _ K => ?_; simp only [List.set_cons_zero, List.set_cons_succ] at K)
    refine hn_stT K 1 rfl rfl fun v14 K _ => ?_
    simp only [List.set_cons_zero, List.set_cons_succ] at K
    have H := H.keep K.ext
    have hsv := hsv.keep K.ext
    have svp' := svp'.keep K.ext
    have svL := svL.keep K.ext
    have sz := K.size
    refine LdT.blk (pre := []) (post := []) (ts := LPt) (by rw [List.append_nil]; exact H.get 4 rfl) rfl ?_
    refine hn_ldT K 1 rfl ?_
    have same : C37 (if q.is = true then mkPt q.how sp (fillG g) (strkG g) else pt0) (if q.is = true then mkPt q.how sp' (fillG g) (strkG g) else pt0) v14 fun r v => r = true ∧ Ext (fun _ => False) v14 v := by
      cases q.is with
      | true =>
        refine (r_samePaint (x := mkPt q.how sp (fillG g) (strkG g)) (y := mkPt q.how sp' (fillG g) (strkG g)) (L := q.L) (M := q.L) hsv svp' hqL).mono ?_
        rintro r v ⟨rfl, e⟩
        exact ⟨decide_eq_true ⟨rfl, rfl, rfl⟩, e⟩
      | false =>
        refine (r_samePaint (x := pt0) (y := pt0) (L := []) (M := []) (SV.nil _) (SV.nil _) (by simp)).mono ?_
        rintro r v ⟨rfl, e⟩
        exact ⟨decide_eq_true ⟨rfl, rfl, rfl⟩, e⟩
    refine same.mono ?_
    rintro r v15 ⟨rfl, e15⟩
    have H := H.keep e15
    have K := K.keep e15
    have svL := svL.keep e15
    refine Br.f rfl (Br.f (by simp) (Br.f (by simp) ?_))
    iterate 2 refine K.ld 0 rfl rfl ?_
    refine stB (H.get 2 rfl) (by simp) fun v16 b16 e16 => stB b16 (by simp) fun v17 b17 e17 => ?_
    simp only [List.set_cons_zero, List.set_cons_succ] at b17
    rw [hcl] at b17
    have e167 := e16.tr e17
    have yo : ∀ j, r159.1.own j → (¬ sg'.own j ∧ j ≠ b ∧ j < v15.heap.size) ∧ j ≠ w4.heap.size := fun j hj => by
      rcases hown with h1 | h1
      · rw [h1] at hj
        exact ⟨(H.pis (sy, p.L) (by simp)).2 j hj, hyo j hj⟩
      · rw [h1] at hj
        obtain ⟨a', ha, _⟩ := hj
        cases ha
    have s17 := e167.size
    exact J (LS.ref (N := [_, _]) H s3 (by omega) e167 b17 (svL.keepF e167 fun j hj e => (yo j hj).2 e) fun j hj => ⟨(yo j hj).1.1, (yo j hj).1.2.1, by have := (yo j hj).1.2.2; omega⟩) hqb fun j hj => (yo j hj).2
  · iterate 3 refine Ld.of opb rfl ?_
    iterate 6 refine Ld.of (H.get 0 rfl) rfl ?_
    have hqb := do_bg (nm := bl o.1.1) (d := bl o.1.2.2) (L := o.2) (m := m) hbg
    obtain ⟨e0, q, hd⟩ : ∃ e0 q, doP p (bl o.1.1) (bl o.1.2.2) o.2 m = (e0, q) := ⟨_, _, rfl⟩
    rw [hd] at hqb
    refine (LS.do_ (m' := m) hs H (hov.keep H.ext) (by omega) hd).mono ?_
    rintro r186 v9 ⟨rfl, sg', H⟩
    iterate 2 refine Ld.of (H.get 2 rfl) rfl ?_
    iterate 3 refine Ld.of (H.get 3 rfl) rfl ?_
    iterate 6 refine Ld.of (H.get 0 rfl) rfl ?_
    have P9 := H.pv
    have l9 := P9.blk.lt
    have ly := (H.get 2 rfl).lt
    refine (r_do (m := m) (H.gets 0 rfl) hbg hfew (hov.keep H.ext) (by omega)).mono ?_
    rintro r199 r200 v10 ⟨he, svL, hcl, e10, hown⟩
    rw [hd] at he svL hcl
    have he : r200 = r186 := he
    subst he
    have H := H.keep e10
    refine (Hn.start v10).nw fun v11 K => ?_
    simp only [List.nil_append, add_lit, Nat.zero_add] at K ⊢
    iterate 2 (refine K.st 0 rfl (by simp) fun _ K => ?_; simp only [List.set_cons_zero, List.set_cons_succ] at K)
    have H := H.keep K.ext
    have svL := svL.keep K.ext
    have sz := K.size
    have s10 := e10.size
    refine Br.f (by simp) ?_
    iterate 2 refine K.ld 0 rfl rfl ?_
    refine stB (H.get 2 rfl) (by simp) fun v16 b16 e16 => stB b16 (by simp) fun v17 b17 e17 => ?_
    simp only [List.set_cons_zero, List.set_cons_succ] at b17
    rw [hcl] at b17
    have e167 := e16.tr e17
    have sown : ∀ j, sg'.own j → j < v9.heap.size := fun j hj => P9.seg.own_lt hj
    have hp := fun j hj => (H.pis (sy, p.L) (by simp)).2 j hj
    have yo : ∀ j, r199.1.own j → (¬ sg'.own j ∧ j ≠ b ∧ j < v16.heap.size) ∧ j ≠ w4.heap.size := fun j hj => by
      have s16 := e16.size
      rcases hown with h1 | h1
      · rw [h1] at hj
        have := hp j hj
        exact ⟨⟨this.1, this.2.1, by have := this.2.2; omega⟩, hyo j hj⟩
      · have := h1 j hj
        exact ⟨⟨fun h => by have := sown j h; omega, by omega, by omega⟩, by have ly : w4.heap.size < v9.heap.size := ly; omega⟩
    have s17 := e17.size
    exact J (LS.ref (N := [_]) H s3 (by omega) e167 b17 (svL.keepF e167 fun j hj e => (yo j hj).2 e) fun j hj => ⟨(yo j hj).1.1, (yo j hj).1.2.1, by have := (yo j hj).1.2.2; omega⟩) hqb fun j hj => (yo j hj).2
end
end Pat
end Go.Proofs.YtjbeembbnkmpeaaDoor

/- Graphics states as arguments: what their reading tells. No condition. -/
namespace Go.Proofs.YtjbeembbnkmpeaaDoor
namespace Pat
open Sh Mat Opr
open Go.ChangeShapes Go.WideShapes Go.RowKit
set_option linter.unusedVariables false
set_option linter.unusedSimpArgs false
set_option maxRecDepth 100000
theorem undI64 : Tryd.prog.underlying 2 = some (.int .i64) := by kernel_rfl
theorem undInt : Tryd.prog.underlying 3 = some (.int .i64) := by kernel_rfl
theorem undStr : Tryd.prog.underlying 9 = some .string := by kernel_rfl
theorem undI64s : Tryd.prog.underlying 24 = some (.slice 2) := by kernel_rfl
theorem gr_arg {H : Type} {enc : TypeId × Value → H} {W : World} {spare : Nat → Bool} {held : Bool} {v : Value} {d : DataW H} {ps : List MemPlace} {rr : Reach} {b0 : Nat}
    (h0 : Value.okWide Tryd.prog W rr b0 30 v) (h : DataW.Trod enc Tryd.prog W 0 spare held 30 v d ps) : ∃ x : G, v = .agg (Sig.cells LG x).toArray := by
  obtain ⟨cs, rfl, hl, n, hn⟩ := rdC_arg_agg (by kernel_rfl) h0 h
  rw [show Tryd.prog.cellsOf 30 = 30 by kernel_rfl] at hl
  obtain ⟨c0, c1, c2, c3, c4, c5, c6, c7, c8, c9, c10, c11, c12, c13, c14, c15, c16, c17, c18, c19, c20, c21, c22, c23, c24, c25, c26, c27, c28, c29, rfl⟩ : ∃ c0 c1 c2 c3 c4 c5 c6 c7 c8 c9 c10 c11 c12 c13 c14 c15 c16 c17 c18 c19 c20 c21 c22 c23 c24 c25 c26 c27 c28 c29, cs = [c0, c1, c2, c3, c4, c5, c6, c7, c8, c9, c10, c11, c12, c13, c14, c15, c16, c17, c18, c19, c20, c21, c22, c23, c24, c25, c26, c27, c28, c29] := by
    match cs, hl with
    | [c0, c1, c2, c3, c4, c5, c6, c7, c8, c9, c10, c11, c12, c13, c14, c15, c16, c17, c18, c19, c20, c21, c22, c23, c24, c25, c26, c27, c28, c29], _ => exact ⟨c0, c1, c2, c3, c4, c5, c6, c7, c8, c9, c10, c11, c12, c13, c14, c15, c16, c17, c18, c19, c20, c21, c22, c23, c24, c25, c26, c27, c28, c29, rfl⟩
  obtain ⟨x0, rfl, f0⟩ := leaf_int (k := 8) (i := 0) (u := 2) (by kernel_rfl) undI64 hn rfl
  obtain ⟨x1, rfl, f1⟩ := leaf_int (k := 8) (i := 1) (u := 2) (by kernel_rfl) undI64 hn rfl
  obtain ⟨x2, rfl, f2⟩ := leaf_int (k := 8) (i := 2) (u := 2) (by kernel_rfl) undI64 hn rfl
  obtain ⟨x3, rfl, f3⟩ := leaf_int (k := 8) (i := 3) (u := 2) (by kernel_rfl) undI64 hn rfl
  obtain ⟨x4, rfl, f4⟩ := leaf_int (k := 8) (i := 4) (u := 2) (by kernel_rfl) undI64 hn rfl
  obtain ⟨x5, rfl, f5⟩ := leaf_int (k := 8) (i := 5) (u := 2) (by kernel_rfl) undI64 hn rfl
  obtain ⟨x6, rfl, f6⟩ := leaf_int (k := 8) (i := 6) (u := 2) (by kernel_rfl) undI64 hn rfl
  obtain ⟨x7, rfl, f7⟩ := leaf_int (k := 8) (i := 7) (u := 3) (by kernel_rfl) undInt hn rfl
  obtain ⟨x8, rfl, f8⟩ := leaf_int (k := 8) (i := 8) (u := 3) (by kernel_rfl) undInt hn rfl
  obtain ⟨x9, rfl, f9⟩ := leaf_int (k := 8) (i := 9) (u := 2) (by kernel_rfl) undI64 hn rfl
  obtain ⟨x10, rfl, f10⟩ := leaf_slice (k := 8) (i := 10) (u := 24) (by kernel_rfl) undI64s hn rfl
  obtain ⟨x11, rfl, f11⟩ := leaf_int (k := 8) (i := 11) (u := 2) (by kernel_rfl) undI64 hn rfl
  obtain ⟨x12, rfl, f12⟩ := leaf_int (k := 8) (i := 12) (u := 3) (by kernel_rfl) undInt hn rfl
  obtain ⟨x13, rfl, f13⟩ := leaf_int (k := 8) (i := 13) (u := 2) (by kernel_rfl) undI64 hn rfl
  obtain ⟨x14, rfl, f14⟩ := leaf_int (k := 8) (i := 14) (u := 2) (by kernel_rfl) undI64 hn rfl
  obtain ⟨x15, rfl, f15⟩ := leaf_int (k := 8) (i := 15) (u := 2) (by kernel_rfl) undI64 hn rfl
  obtain ⟨x16, rfl, f16⟩ := leaf_int (k := 8) (i := 16) (u := 2) (by kernel_rfl) undI64 hn rfl
  obtain ⟨x17, rfl, f17⟩ := leaf_int (k := 8) (i := 17) (u := 3) (by kernel_rfl) undInt hn rfl
  obtain ⟨x18, rfl, f18⟩ := leaf_int (k := 8) (i := 18) (u := 2) (by kernel_rfl) undI64 hn rfl
  obtain ⟨x19, rfl, f19⟩ := leaf_int (k := 8) (i := 19) (u := 2) (by kernel_rfl) undI64 hn rfl
  obtain ⟨x20, rfl, f20⟩ := leaf_int (k := 8) (i := 20) (u := 2) (by kernel_rfl) undI64 hn rfl
  obtain ⟨x21, rfl, f21⟩ := leaf_int (k := 8) (i := 21) (u := 2) (by kernel_rfl) undI64 hn rfl
  obtain ⟨x22, rfl, f22⟩ := leaf_int (k := 8) (i := 22) (u := 2) (by kernel_rfl) undI64 hn rfl
  obtain ⟨x23, rfl, f23⟩ := leaf_int (k := 8) (i := 23) (u := 2) (by kernel_rfl) undI64 hn rfl
  obtain ⟨x24, rfl, f24⟩ := leaf_int (k := 8) (i := 24) (u := 2) (by kernel_rfl) undI64 hn rfl
  obtain ⟨x25, rfl, f25⟩ := leaf_int (k := 8) (i := 25) (u := 2) (by kernel_rfl) undI64 hn rfl
  obtain ⟨x26, rfl, f26⟩ := leaf_int (k := 8) (i := 26) (u := 2) (by kernel_rfl) undI64 hn rfl
  obtain ⟨x27, rfl, f27⟩ := leaf_int (k := 8) (i := 27) (u := 2) (by kernel_rfl) undI64 hn rfl
  obtain ⟨x28, rfl, f28⟩ := leaf_string (k := 8) (i := 28) (u := 9) (by kernel_rfl) undStr hn rfl
  obtain ⟨x29, rfl, f29⟩ := leaf_int (k := 8) (i := 29) (u := 3) (by kernel_rfl) undInt hn rfl
  exact ⟨(x0, x1, x2, x3, x4, x5, x6, x7, x8, x9, x10, x11, x12, x13, x14, x15, x16, x17, x18, x19, x20, x21, x22, x23, x24, x25, x26, x27, x28, x29), rfl⟩
end Pat
end Go.Proofs.YtjbeembbnkmpeaaDoor
