/- Paths: Paint. Conditions: sizes; the table of painting operators is laid. -/
import Derived.Test.YtjbeembbnkmpeaaDoorPaG
namespace Go.Proofs.YtjbeembbnkmpeaaDoor
namespace Pat
open Sh Mat Fix Opr
set_option linter.unusedVariables false
set_option linter.unusedSimpArgs false
set_option maxRecDepth 8000
set_option maxHeartbeats 8000000
def ten : List By := [[83], [115], [102], [70], [102, 42], [66], [66, 42], [98], [98, 42], [110]]
/-- What a painting operator does: how it paints, whether it closes the path. -/
def howN (nm : By) : Int × Bool := if nm = [83] then (4, false) else if nm = [115] then (4, true) else if nm = [102] then (1, false) else if nm = [70] then (1, false) else if nm = [102, 42] then (3, false)
  else if nm = [66] then (5, false) else if nm = [66, 42] then (7, false) else if nm = [98] then (5, true) else if nm = [98, 42] then (7, true) else (0, false)
theorem how_8 : ∀ nm ∈ ten, ior .i64 (howN nm).1 8 = (howN nm).1 + 8 := by decide
theorem how_no {nm : By} (h : nm ∉ ten) : howN nm = (0, false) := by
  simp only [ten, List.mem_cons, List.not_mem_nil, or_false, not_or] at h
  obtain ⟨h1, h2, h3, h4, h5, h6, h7, h8, h9, h10⟩ := h
  unfold howN
  rw [if_neg h1, if_neg h2, if_neg h3, if_neg h4, if_neg h5, if_neg h6, if_neg h7, if_neg h8, if_neg h9]
/-- The table of painting operators, in memory. -/
def PM (w : World) : Prop := ∃ (bm : Nat) (o : Obj), w.cell? ⟨0, 0, none⟩ = some (.map (some bm)) ∧ w.heap[bm]? = some o ∧ ∀ (w' : World) (nm : ByteArray), nm.size ≤ maxLen → w'.heap[bm]? = some o →
  RunV Tryd.prog (Instr.lookup 158 (.map (some bm)) (.string nm) true) w' (.tuple #[.agg #[.int .i64 (howN (bl nm)).1, .bool (howN (bl nm)).2], .bool (decide (bl nm ∈ ten))]) w'
theorem PM.keepF {w w' : World} {F : Nat → Prop} (h : PM w) (he : Ext F w w') (hF : ∀ j, j < w.heap.size → ¬ F j) : PM w' := by
  obtain ⟨bm, o, h1, h2, h3⟩ := h
  have h0 := cell_lt' h1
  have hb := (Array.getElem?_eq_some_iff.1 h2).1
  exact ⟨bm, o, by rw [he.cell h0 (hF _ h0)]; exact h1, by rw [he.block bm hb (hF _ hb)]; exact h2, h3⟩
theorem PM.keep {w w' : World} (h : PM w) (he : Ext (fun _ => False) w w') : PM w' := h.keepF he fun _ _ e => e
abbrev G : Type := Int × Int × Int × Int × Int × Int × Int × Int × Int × Int × Slc × Int × Int × Int × Int × Int × Int × Int × Int × Int × Int × Int × Int × Int × Int × Int × Int × Int × ByteArray × Int
abbrev LG : List Ty1 := [.int .i64, .int .i64, .int .i64, .int .i64, .int .i64, .int .i64, .int .i64, .int .i64, .int .i64, .int .i64, .slc, .int .i64, .int .i64, .int .i64, .int .i64, .int .i64, .int .i64, .int .i64, .int .i64, .int .i64, .int .i64, .int .i64, .int .i64, .int .i64, .int .i64, .int .i64, .int .i64, .int .i64, .str, .int .i64]
abbrev C5 : Type := Int × Int × Int × Int × Int
def fillG (g : G) : C5 := (g.2.2.2.2.2.2.2.2.2.2.2.2.1, g.2.2.2.2.2.2.2.2.2.2.2.2.2.1, g.2.2.2.2.2.2.2.2.2.2.2.2.2.2.1, g.2.2.2.2.2.2.2.2.2.2.2.2.2.2.2.1, g.2.2.2.2.2.2.2.2.2.2.2.2.2.2.2.2.1)
def strkG (g : G) : C5 := (g.2.2.2.2.2.2.2.2.2.2.2.2.2.2.2.2.2.1, g.2.2.2.2.2.2.2.2.2.2.2.2.2.2.2.2.2.2.1, g.2.2.2.2.2.2.2.2.2.2.2.2.2.2.2.2.2.2.2.1, g.2.2.2.2.2.2.2.2.2.2.2.2.2.2.2.2.2.2.2.2.1, g.2.2.2.2.2.2.2.2.2.2.2.2.2.2.2.2.2.2.2.2.2.1)
/-- A paint, as a value. -/
abbrev Pt : Type := Int × Slc × Int × Int × Int × Int × Int × Int × Int × Int × Int × Int
abbrev LPt : List Ty1 := [.int .i64, .slc, .int .i64, .int .i64, .int .i64, .int .i64, .int .i64, .int .i64, .int .i64, .int .i64, .int .i64, .int .i64]
def mkPt (how : Int) (s : Slc) (f k : C5) : Pt := (how, s, f.1, f.2.1, f.2.2.1, f.2.2.2.1, f.2.2.2.2, k.1, k.2.1, k.2.2.1, k.2.2.2.1, k.2.2.2.2)
def c50 : C5 := (0, 0, 0, 0, 0)
def pt0 : Pt := mkPt 0 nilS c50 c50
/-- What Paint does to a path: the error, how it paints, the segments, whether it paints, the path. -/
structure PaR where
  e : Int
  how : Int
  L : List Sg
  is : Bool
  p : Pa
def paintP (p : Pa) (nm d : By) (La : List Ob) : PaR := if nm ∉ ten then ⟨8, 0, [], false, p⟩ else if chkF nm La d ≠ 0 then ⟨chkF nm La d, 0, [], false, p⟩
  else if (if (howN nm).2 = true ∧ p.L ≠ [] then p.L ++ [clS] else p.L) = [] ∨ (howN nm).1 + (if p.cl = true then 8 else 0) = 0 then ⟨0, 0, [], false, pa0⟩
  else ⟨0, (howN nm).1 + (if p.cl = true then 8 else 0), (if (howN nm).2 = true ∧ p.L ≠ [] then p.L ++ [clS] else p.L), true, pa0⟩
section
variable {w0 w w' w1 w7 : World} {s s2 sg : Slc} {L : List Ob} {b : Nat} {p : Pa} {a d : ByteArray} {g : G}
attribute [local irreducible] Ld Sh.St Nw Nn LdS LdT LdST StT
theorem rcap {w : World} {s : Slc} {e : TypeId} {k : Nat} {xs : List Value} (h : Row w s e k xs) : s.len ≤ s.cap := by
  rcases h.2 with rfl | ⟨_, _, _, _, hcap, _⟩
  · exact Nat.le_refl _
  · exact hcap
/-- What Paint gives. -/
def PtR (w w1 : World) (b : Nat) (sg : Slc) (f k : C5) (r : Pt) (is : Bool) (e : Int) (q : PaR) : Prop := ∃ sg' sp, r = (if q.is = true then mkPt q.how sp f k else pt0) ∧ is = q.is ∧ e = q.e ∧ SV w1 sp q.L ∧ PV w1 b q.p sg' ∧ Ext (fun j => j = b ∨ sg.own j) w w1 ∧ (∀ j, sg'.own j → sg.own j ∨ w.heap.size ≤ j) ∧ (∀ j, sp.own j → sg.own j ∨ w.heap.size ≤ j) ∧ (q.e = 0 → sg' = nilS) ∧ sp.len ≤ sp.cap
theorem out1 {w w' : World} {M : List (Nat × List Value × TypeId)} {b2 : Nat} {t2 : TypeId} {y : Pt} {zs : List Value} {K : Pt → World → Prop} (H : Hn w w' M) (j : Nat) (h2 : M[j]? = some (b2, zs, t2)) (hz : zs.length = 12) (k : ∀ w'', Ext (fun _ => False) w w'' → Ext (· = b2) w' w'' → K y w'') :
    StT ⟨b2, 0, none⟩ 0 LPt y w' fun w'' => LdT w'' ⟨b2, 0, none⟩ 0 LPt fun z => K z w'' := by
  refine StT.blk (pre := []) (post := []) (ts := LPt) (x := y) (by rw [List.append_nil]; exact H.get j h2) rfl hz fun w7 g7 e7 => ?_
  rw [List.append_nil] at g7
  exact LdT.blk (pre := []) (post := []) (ts := LPt) (x := y) (by rw [List.append_nil]; exact g7) rfl (k w7 (Ext.new H.ext e7 fun j' hj => by have := H.ge j h2; omega) e7)
theorem out1B {w' : World} {b2 : Nat} {t2 : TypeId} {y : Pt} {zs : List Value} {K : Pt → World → Prop} (h2 : Blk w' b2 zs.toArray t2) (hz : zs.length = 12) (k : ∀ w'', Ext (· = b2) w' w'' → K y w'') :
    StT ⟨b2, 0, none⟩ 0 LPt y w' fun w'' => LdT w'' ⟨b2, 0, none⟩ 0 LPt fun z => K z w'' := by
  refine StT.blk (pre := []) (post := []) (ts := LPt) (x := y) (by rw [List.append_nil]; exact h2) rfl hz fun w7 g7 e7 => ?_
  rw [List.append_nil] at g7
  exact LdT.blk (pre := []) (post := []) (ts := LPt) (x := y) (by rw [List.append_nil]; exact g7) rfl (k w7 e7)
theorem pt_set0 (h v : Int) (s : Slc) (f k : C5) : (Sig.cells LPt (mkPt h s f k)).set 0 (.int .i64 v) = Sig.cells LPt (mkPt v s f k) := rfl
theorem pt_set1 (h : Int) (s v : Slc) (f k : C5) : (Sig.cells LPt (mkPt h s f k)).set 1 (Slc.v v) = Sig.cells LPt (mkPt h v f k) := rfl
theorem pt_lt (x : Pt) {i : Nat} (h : i < 12) : i < (Sig.cells LPt x).length := h
theorem c_paint (hs : AS w) (hpm : PM w) (hp : PV w b p sg) (h : OV w s L) (hl : L.length ≤ 9223372036854775807) (ha : a.size ≤ maxLen) : C30 (some ⟨b, 0, none⟩) (a, s, d) g w fun r is e w1 => PtR w w1 b sg (fillG g) (strkG g) r is e (paintP p (bl a) (bl d) L) := by
  refine T30 _ (a, s, d) _ _ _ ?_
  unfold S30
  have hbl := hp.blk.lt
  have hlen := hp.len
  have hfew := hp.few
  refine (Hn.start w).nw fun w2 H => ?_
  refine H.nw fun w3 H => ?_
  refine H.nw fun w4 H => ?_
  simp only [List.cons_append, List.nil_append, add_lit, Nat.zero_add] at H ⊢
  let base : List (Nat × List Value × TypeId) := [(w.heap.size, [.string a, Slc.v s, .string d], 63), (w2.heap.size, Sig.cells LG g, 30), (w3.heap.size, Sig.cells LPt pt0, 76)]
  have H : Hn w w4 base := H
  have l0 := H.lt 0 rfl
  have l1 := H.lt 1 rfl
  have l2 := H.lt 2 rfl
  have sw := H.size
  have g0 := H.ge 0 rfl
  have g2 := H.ge 2 rfl
  have so : ∀ j, sg.own j → j < w.heap.size ∧ j ≠ b := fun j hj => ⟨hp.seg.own_lt hj, hp.own j hj⟩
  have same : ∀ {w' : World} {e : Int} {M : List (Nat × List Value × TypeId)}, Hn w w' (base ++ M) → e ≠ 0 → paintP p (bl a) (bl d) L = ⟨e, 0, [], false, p⟩ →
      StT ⟨w3.heap.size, 0, none⟩ 0 LPt pt0 w' fun w'' => LdT w'' ⟨w3.heap.size, 0, none⟩ 0 LPt fun z => PtR w w'' b sg (fillG g) (strkG g) z false e (paintP p (bl a) (bl d) L) := fun {w' e M} H' hne hq =>
    out1 H' 2 rfl rfl fun w'' e1 e2 => by
      rw [hq]
      exact ⟨sg, nilS, rfl, rfl, rfl, SV.nil _, hp.keep e1, e1.mono fun _ _ e => e.elim, fun j hj => .inl hj, (fun j hj => by obtain ⟨a', ha, _⟩ := hj; cases ha), (fun h => absurd h hne), Nat.le_refl _⟩
  refine Br.f rfl ?_
  obtain ⟨bm, o, m1, m2, m3⟩ := hpm.keep H.ext
  refine Ld.mk m1 (H.ld 0 rfl rfl ?_)
  refine ⟨((howN (bl a)).1, (howN (bl a)).2), decide (bl a ∈ ten), w4, m3 w4 a ha m2, ?_⟩
  refine H.nw' fun w5 H5 e5 => ?_
  simp only [base, List.cons_append, List.nil_append] at H5
  iterate 2 (refine H5.st 3 rfl (by simp) fun _ H5 => ?_; simp only [List.set_cons_zero, List.set_cons_succ] at H5)
  by_cases hk : bl a ∈ ten
  case neg =>
    rw [decide_eq_false hk]
    exact Br.t rfl (same (M := [_]) H5 (by decide) (by unfold paintP; rw [if_pos hk]))
  rw [decide_eq_true hk]
  refine Br.f rfl ?_
  iterate 3 refine H5.ld 0 rfl rfl ?_
  refine (c_check (hs.keep H5.ext) (h.keep H5.ext) hl).mono ?_
  rintro r w6 ⟨rfl, e6⟩
  have H6 := H5.keep e6
  refine Br.ne (fun q => same (M := [_]) H6 q (by unfold paintP; rw [if_neg (fun hn => hn hk), if_pos q])) fun hck => ?_
  have hck : chkF (bl a) L (bl d) = 0 := hck
  have k0 := H6.lt 0 rfl
  have k2 := H6.lt 2 rfl
  have k3 := H6.lt 3 rfl
  have fin : ∀ (gp : Nat) (sp : Slc) (LL : List Sg) (w9 : World), Ext (fun j => sg.own j) w w9 → Blk w9 b (parow sg p.bg p.cl).toArray 134 → Blk w9 w3.heap.size (Sig.cells LPt pt0).toArray 76 → Blk w9 gp (Sig.cells LPt (mkPt (howN (bl a)).1 sp (fillG g) (strkG g))).toArray 76 → SV w9 sp LL → w6.heap.size ≤ gp → (∀ j, sp.own j → sg.own j ∨ (w6.heap.size ≤ j ∧ j ≠ gp)) → sp.len ≤ sp.cap → LL = (if (howN (bl a)).2 = true ∧ p.L ≠ [] then p.L ++ [clS] else p.L) →
      S30J1 (some ⟨b, 0, none⟩) w3 ⟨gp, 0, none⟩ (fun r is e w1 => PtR w w1 b sg (fillG g) (strkG g) r is e (paintP p (bl a) (bl d) L)) () w9 := by
    intro gp sp LL w9 E9 b9 z9 q9 sv9 hgp hown hcap hLL
    unfold S30J1
    simp only [add_lit, Nat.zero_add]
    have spn : ∀ j, sp.own j → j ≠ b ∧ j ≠ gp ∧ j ≠ w3.heap.size := fun j hj => by
      rcases hown j hj with h | h
      · have := so j h
        omega
      · omega
    have hq : paintP p (bl a) (bl d) L = (if LL = [] ∨ (howN (bl a)).1 + (if p.cl = true then 8 else 0) = 0 then ⟨0, 0, [], false, pa0⟩ else ⟨0, (howN (bl a)).1 + (if p.cl = true then 8 else 0), LL, true, pa0⟩) := by
      unfold paintP
      rw [if_neg (fun hn => hn hk), if_neg (fun hn => hn hck), ← hLL]
    -- behind the turn of 'How'
    have rest : ∀ (hw : Int) (w10 : World), hw = (howN (bl a)).1 + (if p.cl = true then 8 else 0) → Ext (fun j => j = gp) w9 w10 → Blk w10 gp (Sig.cells LPt (mkPt hw sp (fillG g) (strkG g))).toArray 76 →
        Sh.St w10 ⟨b, 0, none⟩ (Slc.v (⟨none, 0, 0⟩ : Slc)) fun v1 => Sh.St v1 ⟨b, 1, none⟩ (.int .i64 0) fun v2 => Sh.St v2 ⟨b, 2, none⟩ (.int .i64 0) fun v3 => Sh.St v3 ⟨b, 3, none⟩ (.bool false) fun v4 => Ld v4 ⟨gp, 1, none⟩ Slc.v fun (x76 : Slc) =>
          Br (((x76.len : Nat) : Int) == 0) (StT ⟨w3.heap.size, 0, none⟩ 0 LPt pt0 v4 fun v5 => LdT v5 ⟨w3.heap.size, 0, none⟩ 0 LPt fun z => PtR w v5 b sg (fillG g) (strkG g) z false 0 (paintP p (bl a) (bl d) L))
            (Ld v4 ⟨gp, 0, none⟩ (Value.int .i64) fun (x79 : Int) => Br (x79 == 0) (StT ⟨w3.heap.size, 0, none⟩ 0 LPt pt0 v4 fun v5 => LdT v5 ⟨w3.heap.size, 0, none⟩ 0 LPt fun z => PtR w v5 b sg (fillG g) (strkG g) z false 0 (paintP p (bl a) (bl d) L))
              (LdT v4 ⟨gp, 0, none⟩ 0 LPt fun (x82 : Pt) => StT ⟨w3.heap.size, 0, none⟩ 0 LPt x82 v4 fun v5 => LdT v5 ⟨w3.heap.size, 0, none⟩ 0 LPt fun z => PtR w v5 b sg (fillG g) (strkG g) z true 0 (paintP p (bl a) (bl d) L))) := by
      intro hw w10 hhw E10 q10
      have nob : b ≠ gp := by omega
      refine stB (E10.blk b9 nob) (by simp [parow]) fun v1 c1 e1 => stB c1 (by simp [parow]) fun v2 c2 e2 => stB c2 (by simp [parow]) fun v3 c3 e3 => stB c3 (by simp [parow]) fun v4 c4 e4 => ?_
      have eb : Ext (· = b) w10 v4 := ((e1.tr e2).tr e3).tr e4
      have c4 : Blk v4 b (parow nilS (0, 0) false).toArray 134 := c4
      have q4 := eb.blk q10 (by omega)
      have z4 := eb.blk (E10.blk z9 (by omega)) (by omega)
      have sv4 := (sv9.keepF E10 fun j hj => (spn j hj).2.1).keepF eb fun j hj => (spn j hj).1
      have Ev4 : Ext (fun j => j = b ∨ sg.own j) w v4 := (E9.trans E10 (fun _ h => .inr h) fun j hj e => by omega).trans eb (fun _ h => h) fun j _ e => .inl e
      have pv : ∀ {v5 : World}, Ext (· = w3.heap.size) v4 v5 → PV v5 b pa0 nilS := fun e => PV.new (e.blk c4 (by omega))
      have e5' : ∀ {v5 : World}, Ext (· = w3.heap.size) v4 v5 → Ext (fun j => j = b ∨ sg.own j) w v5 := fun e => Ev4.trans e (fun _ h => h) fun j hj h => by omega
      refine Ld.of q4 rfl ?_
      show Br (((sp.len : Nat) : Int) == 0) _ _
      rw [sv9.1]
      have no : LL = [] ∨ hw = 0 → StT ⟨w3.heap.size, 0, none⟩ 0 LPt pt0 v4 fun v5 => LdT v5 ⟨w3.heap.size, 0, none⟩ 0 LPt fun z => PtR w v5 b sg (fillG g) (strkG g) z false 0 (paintP p (bl a) (bl d) L) := fun hh => by
        refine out1B z4 rfl fun v5 e5 => ?_
        rw [hq, if_pos (by rw [← hhw]; exact hh)]
        exact ⟨nilS, nilS, rfl, rfl, rfl, SV.nil _, pv e5, e5' e5, (fun j hj => by obtain ⟨a', ha, _⟩ := hj; cases ha), (fun j hj => by obtain ⟨a', ha, _⟩ := hj; cases ha), (fun _ => rfl), Nat.le_refl _⟩
      refine Br.eq (fun q1 => no (.inl (List.eq_nil_of_length_eq_zero (by omega)))) fun q1 => Ld.of q4 rfl (Br.eq (fun q2 => no (.inr q2)) fun q2 => ?_)
      refine LdT.blk (pre := []) (post := []) (ts := LPt) (x := mkPt hw sp (fillG g) (strkG g)) (by rw [List.append_nil]; exact q4) rfl ?_
      refine out1B z4 rfl fun v5 e5 => ?_
      have hne : ¬ (LL = [] ∨ (howN (bl a)).1 + (if p.cl = true then 8 else 0) = 0) := by
        rw [← hhw]
        rintro (h | h)
        · rw [h] at q1
          exact q1 rfl
        · exact q2 h
      rw [hq, if_neg hne]
      refine ⟨nilS, sp, by rw [hhw]; rfl, rfl, rfl, sv4.keepF e5 fun j hj => (spn j hj).2.2, pv e5, e5' e5, (fun j hj => by obtain ⟨a', ha, _⟩ := hj; cases ha), (fun j hj => (hown j hj).imp id fun h => by omega), (fun _ => rfl), hcap⟩
    refine Nn.of ?_
    simp only [add_lit, Nat.zero_add]
    refine Ld.of b9 rfl ?_
    cases hcl : p.cl with
    | true =>
      refine Br.t rfl (Ld.of q9 rfl ?_)
      have hi : ior .i64 (howN (bl a)).1 8 = (howN (bl a)).1 + 8 := how_8 _ hk
      show Sh.St _ _ (.int .i64 (ior .i64 (howN (bl a)).1 8)) _
      rw [hi]
      refine stB q9 (pt_lt _ (by decide)) fun w10 q10 e10 => ?_
      rw [pt_set0] at q10
      refine Nn.of ?_
      simp only [add_lit, Nat.zero_add]
      exact rest _ w10 (by rw [hcl]; rfl) e10 q10
    | false =>
      refine Br.f rfl (Nn.of ?_)
      simp only [add_lit, Nat.zero_add]
      exact rest (howN (bl a)).1 w9 (by rw [hcl]; simp) (Ext.refl _ _) q9
  have main : ∀ (gp : Nat) (w8 : World), Ext (fun _ => False) w w8 → Blk w8 b (parow sg p.bg p.cl).toArray 134 → Blk w8 w4.heap.size ([.int .i64 (howN (bl a)).1, .bool (howN (bl a)).2] : List Value).toArray 156 → Blk w8 w3.heap.size (Sig.cells LPt pt0).toArray 76 → Blk w8 gp (Sig.cells LPt (mkPt (howN (bl a)).1 sg (fillG g) (strkG g))).toArray 76 → w6.heap.size ≤ gp →
      S30J2 (some ⟨b, 0, none⟩) w3 w4 (fun r is e w1 => PtR w w1 b sg (fillG g) (strkG g) r is e (paintP p (bl a) (bl d) L)) ⟨gp, 0, none⟩ w8 := by
    intro gp w8 E8 b8 h8 z8 q8 hgp
    unfold S30J2
    simp only [add_lit, Nat.zero_add]
    have p8 := hp.keep E8
    have gl := q8.lt
    have plain : ¬ ((howN (bl a)).2 = true ∧ p.L ≠ []) → S30J1 (some ⟨b, 0, none⟩) w3 ⟨gp, 0, none⟩ (fun r is e w1 => PtR w w1 b sg (fillG g) (strkG g) r is e (paintP p (bl a) (bl d) L)) () w8 := fun hh =>
      fin gp sg p.L w8 (E8.mono fun _ _ e => e.elim) b8 z8 q8 p8.sv hgp (fun j hj => .inl hj) (rcap hp.seg) (by rw [if_neg hh])
    refine Join.intro (Ld.of h8 rfl ?_)
    cases hc : (howN (bl a)).2 with
    | false => exact Br.f rfl (plain fun h => by rw [hc] at h; cases h.1)
    | true =>
      refine Br.t rfl (Ld.of q8 rfl (Br.dec (fun hpos => ?_) fun hz => plain fun h => ?_))
      · have hpos : ((sg.len : Nat) : Int) > 0 := hpos
        refine Ld.of q8 rfl ?_
        refine (Hn.start w8).nw (cs := sgrow clS) fun w9 H9 => ?_
        have p9 := p8.keep H9.ext
        have hb := H9.get 0 rfl
        obtain ⟨s', w10, r1, r2, r3, e10, r5⟩ := elSg.app1 (ty := 64) p9.seg hb rfl (sg_one clS) (by omega) (by omega)
        refine ⟨s', w10, r1, ?_⟩
        have s9 := H9.size
        have no : ∀ j, w.heap.size ≤ j → ¬ sg.own j := fun j hj h => by have := (so j h).1; omega
        have q10 := e10.blk (H9.ext.blk q8 id) (no _ (by omega))
        refine stB q10 (pt_lt _ (by decide)) fun w11 q11 e11 => ?_
        rw [pt_set1] at q11
        have own' : ∀ j, s'.own j → sg.own j ∨ (w6.heap.size ≤ j ∧ j ≠ gp) := fun j hj => (r5 j hj).imp id fun h => by
          have := H9.size
          omega
        refine fin gp s' (p.L ++ [clS]) w11 (((E8.tr H9.ext).trans e10 (fun _ e => e.elim) fun j _ h => h).trans e11 (fun _ h => h) fun j hj e => by omega) (e11.blk (e10.blk (H9.ext.blk b8 id) fun h => (so b h).2 rfl) (by omega)) (e11.blk (e10.blk (H9.ext.blk z8 id) (no _ (by omega))) (by omega)) q11 ?_ hgp own' (rcap r2) ?_
        · refine (SV.row (t := 67) (by rw [sgs_app, sgs_sing]; exact r2)).keepF e11 fun j hj e => ?_
          have e : j = gp := e
          rcases own' j hj with h | h
          · exact no _ (by omega) h
          · exact h.2 e
        · rw [if_pos ⟨hc, fun e => by rw [e] at hlen; simp at hlen; omega⟩]
      · have hz : ¬ ((sg.len : Nat) : Int) > 0 := hz
        have : 0 < p.L.length := List.length_pos_iff.2 h.2
        omega
  refine Join.intro ?_
  have H7 := H6.drew
  have p7 := hp.keep H7.ext
  refine ⟨fun w' => Blk w' w4.heap.size ([.int .i64 (howN (bl a)).1, .bool (howN (bl a)).2] : List Value).toArray 156 ∧ Blk w' b (parow sg p.bg p.cl).toArray 134 ∧ Blk w' w2.heap.size (Sig.cells LG g).toArray 30, ⟨H7.get 3 rfl, p7.blk, H7.get 1 rfl⟩, ?_⟩
  refine LdS.of (fun w' h' => h'.1) rfl (Nn.of ?_)
  refine LdS.of (fun w' h' => h'.2.1) rfl ?_
  iterate 10 refine LdS.of (fun w' h' => h'.2.2) rfl ?_
  refine ⟨?_, ?_⟩
  · refine H7.nw (cs := Sig.cells LPt pt0) fun w8 H8 => ?_
    have q8 := H8.get 4 rfl
    refine StT.blk (pre := []) (post := []) (zs := Sig.cells LPt pt0) (ts := LPt) (by rw [List.append_nil]; exact q8) rfl rfl fun w9 g9 e9 => ?_
    rw [List.append_nil] at g9
    have hsz : w6.drew.heap.size = w6.heap.size := rfl
    exact main _ w9 (Ext.new H8.ext e9 fun j hj => by have := H6.size; omega) (e9.blk (hp.keep H8.ext).blk (by omega)) (e9.blk (H8.get 3 rfl) (by omega)) (e9.blk (H8.get 2 rfl) (by omega)) g9 (Nat.le_refl _)
  · refine H7.nw (cs := Sig.cells LPt pt0) fun w8 H8 => ?_
    have q8 := H8.get 4 rfl
    refine ⟨⟨H8.get 3 rfl, (hp.keep H8.ext).blk, H8.get 1 rfl⟩, ?_⟩
    refine StT.blk (pre := []) (post := []) (zs := Sig.cells LPt pt0) (ts := LPt) (by rw [List.append_nil]; exact q8) rfl rfl fun w9 g9 e9 => ?_
    rw [List.append_nil] at g9
    have hsz : w6.drew.heap.size = w6.heap.size := rfl
    exact main _ w9 (Ext.new H8.ext e9 fun j hj => by have := H6.size; omega) (e9.blk (hp.keep H8.ext).blk (by omega)) (e9.blk (H8.get 3 rfl) (by omega)) (e9.blk (H8.get 2 rfl) (by omega)) g9 (Nat.le_refl _)
end
end Pat
end Go.Proofs.YtjbeembbnkmpeaaDoor
