/- Reading order: line, its words. Conditions: sizes. -/
import Derived.Test.YtodhdkbhmkinjaaDoorOsF
namespace Go.Proofs.YtodhdkbhmkinjaaDoor
namespace Rdg
open Sh
set_option linter.unusedVariables false
set_option linter.unusedSimpArgs false
set_option maxRecDepth 4000
set_option maxHeartbeats 2000000
attribute [local irreducible] Ld St Nw Nn Lt LdS
abbrev zB : R4 := (0, 0, 0, 0)
theorem stepW_ne {p : Option Sg} {ws : List Wd} {x : Sg} (h : x.blank = false) : stepW p ws x ≠ [] := by
  unfold stepW
  rw [if_neg (by rw [h]; decide)]
  cases p with
  | none => simp
  | some a => cases ws with
    | nil => simp
    | cons w r =>
      dsimp only
      split <;> simp
/-- What the loop over the signs holds: the two lines, the words. -/
structure LnI (w w1 : World) (b0 b1 : Nat) (sl : Slc) (ws : List Wd) : Prop where
  H : Hn w w1 [(b0, lcells (⟨none, 0, 0⟩, zB), 40), (b1, lcells (sl, zB), 40)]
  row : Row w1 sl 44 5 (ws.flatMap wcells)
  new : ∀ j, sl.own j → w.heap.size ≤ j
theorem LnI.keep {w w1 w2 : World} {b0 b1 : Nat} {sl : Slc} {ws : List Wd} (h : LnI w w1 b0 b1 sl ws) (he : Ext (fun _ => False) w1 w2) : LnI w w2 b0 b1 sl ws := ⟨h.H.keep he, h.row.keep he fun _ _ e => e, h.new⟩
theorem LnI.len {w w1 : World} {b0 b1 : Nat} {sl : Slc} {ws : List Wd} (h : LnI w w1 b0 b1 sl ws) : sl.len = ws.length := VRow.count wcells_len (by decide) (Row.view h.row)
/-- A new word. -/
theorem line_new {w wq : World} {b0 b1 xb : Nat} {sl : Slc} {ws : List Wd} {x : Sg} (h : LnI w wq b0 b1 sl ws) (hx : Blk wq xb (scells x).toArray 61) (hc : Cl x) (hl : ws.length ≤ 2000000) {K : World → Prop}
    (kk : ∀ s' w', LnI w w' b0 b1 s' (ws ++ [⟨x.s, x.box⟩]) → K w') :
    ∃ vS : World → Prop, vS wq ∧ LdS vS (⟨b1, 0, none⟩ : Addr) Slc.v fun (x135 : Slc) => LdS vS ((⟨xb, 0, none⟩ : Addr).add 1) Value.string fun (x136 : ByteArray) =>
      LdST vS (⟨xb, 0, none⟩ : Addr) 0 LiA60 fun (x137 : TyA60) => C32 x137 wq fun r138 vw139 =>
        vS vw139 ∧ vS vw139 ∧ Nw vw139 (.cells #[.string x136, .int .i64 (r138.1), .int .i64 (r138.2.1), .int .i64 (r138.2.2.1), .int .i64 (r138.2.2.2)] 44) fun vw140 =>
          vS vw140 ∧ Rn Tryd.prog (Builtin.append_ #[35, 35] 35 #[Slc.v x135, Slc.v ((⟨some ⟨vw139.heap.size, 0, none⟩, 1, 1⟩ : Slc))]) vw140 Slc.v fun (x141 : Slc) vw142 =>
            St vw142 (⟨b1, 0, none⟩ : Addr) (Slc.v x141) K := by
  have hlen := h.len
  have hb1 := h.H.get 1 rfl
  refine ⟨fun w' => Blk w' b1 (lcells (sl, zB)).toArray 40 ∧ Blk w' xb (scells x).toArray 61, ⟨hb1, hx⟩, ?_⟩
  refine LdS.of (x := sl) (fun _ h => h.1) rfl (LdS.of (x := x.s) (fun _ h => h.2) rfl ?_)
  refine ldSB (x := x) (fun _ h => h.2) ?_
  refine (c_box hc wq).mono ?_
  rintro r w139 ⟨rfl, e139⟩
  have h2 := h.keep e139
  have hb := h2.H.get 1 rfl
  have hx2 := e139.blk hx id
  refine ⟨⟨hb, hx2⟩, ⟨hb, hx2⟩, Nw.of ?_⟩
  have e1 := (Ext.refl (fun _ => False) w139).alloc (.cells (wcells ⟨x.s, x.box⟩).toArray 44)
  have h3 := h2.keep e1
  refine ⟨⟨h3.H.get 1 rfl, e1.blk hx2 id⟩, ?_⟩
  obtain ⟨s', w', hrun, hrow, hlen', hext, hown⟩ := elW.app1 (ty := 35) (ys := wcells ⟨x.s, x.box⟩) h3.row (Blk.new w139 (wcells ⟨x.s, x.box⟩).toArray 44) rfl (wcells_one _) (by omega) (by omega)
  refine ⟨s', w', hrun, ?_⟩
  have hne : (40 : TypeId) ≠ 44 := by decide
  have apart : ∀ j, sl.own j → j ∉ [b0, b1] := fun j hj hm => by
    obtain ⟨c, hc⟩ := own_blk h3.row hj
    rcases List.mem_cons.1 hm with rfl | hm
    · exact hne (blk_ty (h3.H.get 0 rfl) hc)
    · rw [List.mem_singleton] at hm
      subst hm
      exact hne (blk_ty (h3.H.get 1 rfl) hc)
  have H4 := h3.H.other hext fun j hj => ⟨h.new j hj, apart j hj⟩
  have hnew : ∀ j, s'.own j → w.heap.size ≤ j := fun j hj => by
    rcases hown j hj with e | e
    · exact h.new j e
    · have := h3.H.size
      omega
  refine H4.st' 1 rfl (of_decide_eq_true rfl) fun w5 H5 e5 => kk s' w5 ⟨H5, ?_, hnew⟩
  have hrow' : Row w' s' 44 5 ((ws ++ [(⟨x.s, x.box⟩ : Wd)]).flatMap wcells) := by
    rw [List.flatMap_append]
    simpa using hrow
  exact hrow'.keep e5 fun j hj e => by
    have e : j = b1 := e
    subst e
    obtain ⟨c, hc⟩ := own_blk hrow' hj
    exact hne (blk_ty (H4.get 1 rfl) hc)
/-- The last word grows. -/
theorem line_more {w wq : World} {b0 b1 xb : Nat} {sl : Slc} {ws : List Wd} {v : Wd} {x : Sg} (h : LnI w wq b0 b1 sl (ws ++ [v])) (hx : Blk wq xb (scells x).toArray 61) (hc : Cl x) (hv : v.s.size ≤ 2000000) (hs : x.s.size ≤ 2000000) (hl : ws.length ≤ 2000000) {K : World → Prop}
    (kk : ∀ w', LnI w w' b0 b1 sl (ws ++ [joinW v x]) → K w') :
    Ld wq (⟨b1, 0, none⟩ : Addr) Slc.v fun (x110 : Slc) => Ld wq (⟨b1, 0, none⟩ : Addr) Slc.v fun (x111 : Slc) =>
      0 ≤ (IntKind.i64.wrap (((x111.len : Nat) : Int) - 1)) ∧ (IntKind.i64.wrap (((x111.len : Nat) : Int) - 1)) < (x110.len : Nat) ∧ Nn x110.p fun a112 =>
      Nn (some (a112.add ((IntKind.i64.wrap (((x111.len : Nat) : Int) - 1)).toNat * 5))) fun a113 =>
      Ld wq.drew a113 Value.string fun (x114 : ByteArray) => Ld wq.drew ((⟨xb, 0, none⟩ : Addr).add 1) Value.string fun (x115 : ByteArray) =>
      (((x114).size + (x115).size : Nat) : Int) ≤ IntKind.i64.max ∧ Nn (some (a112.add ((IntKind.i64.wrap (((x111.len : Nat) : Int) - 1)).toNat * 5))) fun a116 =>
      St wq.drew a116 (.string (x114 ++ x115)) fun vw117 =>
      ∃ vS118 : World → Prop, vS118 vw117.drew ∧ Nn (some (a112.add ((IntKind.i64.wrap (((x111.len : Nat) : Int) - 1)).toNat * 5))) fun a119 =>
      LdS vS118 (a119.add 1) (Value.int .i64) fun (x120 : Int) => LdS vS118 ((a119.add 1).add 1) (Value.int .i64) fun (x121 : Int) => LdS vS118 ((a119.add 1).add 2) (Value.int .i64) fun (x122 : Int) => LdS vS118 ((a119.add 1).add 3) (Value.int .i64) fun (x123 : Int) =>
      LdST vS118 (⟨xb, 0, none⟩ : Addr) 0 LiA60 fun (x124 : TyA60) => C32 x124 vw117.drew fun r125 vw126 =>
        vS118 vw126 ∧ C48 (x120, x121, x122, x123) (r125.1, r125.2.1, r125.2.2.1, r125.2.2.2) vw126 fun r127 vw128 =>
          Nn (some (a112.add ((IntKind.i64.wrap (((x111.len : Nat) : Int) - 1)).toNat * 5))) fun a129 =>
          St vw128 (a129.add 1) (.int .i64 (r127.1)) fun vw130 => St vw130 ((a129.add 1).add 1) (.int .i64 (r127.2.1)) fun vw131 => St vw131 ((a129.add 1).add 2) (.int .i64 (r127.2.2.1)) fun vw132 => St vw132 ((a129.add 1).add 3) (.int .i64 (r127.2.2.2)) K := by
  have hlen := h.len
  rw [List.length_append, List.length_singleton] at hlen
  have hmax : IntKind.i64.max = 9223372036854775807 := rfl
  refine h.H.ld 1 rfl (x := sl) rfl (h.H.ld 1 rfl (x := sl) rfl ?_)
  have hn : IntKind.i64.wrap (((sl.len : Nat) : Int) - 1) = ((ws.length : Nat) : Int) := by rw [hlen, i64_id (by omega)]; omega
  rw [hn, Int.toNat_natCast]
  have hd := h.keep (Ext.refl _ wq).drew
  obtain ⟨a, ha, hcell⟩ := VRow.elem (x := v) wcells_len (Row.view hd.row) (i := ws.length) (by rw [List.getElem?_append_right (Nat.le_refl _), Nat.sub_self]; rfl) (by decide)
  rw [ha]
  refine ⟨by omega, by omega, Nn.of (Nn.of ?_)⟩
  refine Ld.mk (x := v.s) (hcell 0 _ rfl) ?_
  have hxd := hx.drew
  refine Ld.of (x := x.s) hxd rfl ⟨by rw [hmax]; omega, Nn.of ?_⟩
  have hrw : ∀ u : Wd, (ws ++ [u]).flatMap wcells = ws.flatMap wcells ++ wcells u := fun u => by rw [List.flatMap_append]; simp
  have hne : (40 : TypeId) ≠ 44 := by decide
  have hneS : (61 : TypeId) ≠ 44 := by decide
  -- stores into the words leave the rest
  have step : ∀ {u u2 : Wd} {w1 w2 : World}, LnI w w1 b0 b1 sl (ws ++ [u]) → Blk w1 xb (scells x).toArray 61 → Row w2 sl 44 5 (ws.flatMap wcells ++ wcells u2) → Ext sl.own w1 w2 → LnI w w2 b0 b1 sl (ws ++ [u2]) ∧ Blk w2 xb (scells x).toArray 61 := fun h1 hb hr he => by
    refine ⟨⟨h1.H.other he fun j hj => ⟨h1.new j hj, fun hm => ?_⟩, by rw [hrw]; exact hr, h1.new⟩, he.blk hb fun hj => ?_⟩
    · obtain ⟨c, hc⟩ := own_blk h1.row hj
      rcases List.mem_cons.1 hm with rfl | hm
      · exact hne (blk_ty (h1.H.get 0 rfl) hc)
      · have hm : j = b1 := by simpa using hm
        subst hm
        exact hne (blk_ty (h1.H.get 1 rfl) hc)
    · obtain ⟨c, hc⟩ := own_blk h1.row hj
      exact hneS (blk_ty hb hc)
  have hr0 := hd.row
  rw [hrw] at hr0
  refine row_last (j := 0) (c := .string (v.s ++ x.s)) hr0 rfl (by decide) ha fun w117 r117 e117 => ?_
  obtain ⟨L1, B1⟩ := step (u2 := ⟨v.s ++ x.s, v.box⟩) hd hxd r117 e117
  have L1d := L1.keep (Ext.refl _ w117).drew
  have B1d := B1.drew
  refine ⟨fun w' => LnI w w' b0 b1 sl (ws ++ [⟨v.s ++ x.s, v.box⟩]) ∧ Blk w' xb (scells x).toArray 61, ⟨L1d, B1d⟩, Nn.of ?_⟩
  have cellS : ∀ (w' : World), LnI w w' b0 b1 sl (ws ++ [⟨v.s ++ x.s, v.box⟩]) → ∀ j c, (wcells ⟨v.s ++ x.s, v.box⟩)[j]? = some c → w'.cell? (a.add (ws.length * 5 + j)) = some c := fun w' hw j c hj => by
    obtain ⟨a', ha', hc'⟩ := VRow.elem (x := (⟨v.s ++ x.s, v.box⟩ : Wd)) wcells_len (Row.view hw.row) (i := ws.length) (by rw [List.getElem?_append_right (Nat.le_refl _), Nat.sub_self]; rfl) (by decide)
    rw [ha] at ha'
    cases ha'
    exact hc' j c hj
  simp only [add_add']
  refine ldS_mk (x := v.box.1) (fun w' hw => cellS w' hw.1 1 _ rfl) (ldS_mk (x := v.box.2.1) (fun w' hw => cellS w' hw.1 2 _ rfl) (ldS_mk (x := v.box.2.2.1) (fun w' hw => cellS w' hw.1 3 _ rfl) (ldS_mk (x := v.box.2.2.2) (fun w' hw => cellS w' hw.1 4 _ rfl) ?_)))
  refine ldSB (x := x) (fun _ h => h.2) ?_
  refine (c_box hc _).mono ?_
  rintro r125 w126 ⟨rfl, e126⟩
  have L2 := L1d.keep e126
  have B2 := e126.blk B1d id
  refine ⟨⟨L2, B2⟩, (c_around v.box x.box _).mono ?_⟩
  rintro r127 w128 ⟨rfl, e128⟩
  have L3 := L2.keep e128
  have B3 := e128.blk B2 id
  refine Nn.of ?_
  have hr3 := L3.row
  rw [hrw] at hr3
  refine row_last (j := 1) hr3 rfl (by decide) ha fun w130 r130 e130 => ?_
  refine row_last (j := 2) r130 rfl (by decide) ha fun w131 r131 e131 => ?_
  refine row_last (j := 3) r131 rfl (by decide) ha fun w132 r132 e132 => ?_
  refine row_last (j := 4) r132 rfl (by decide) ha fun w133 r133 e133 => ?_
  exact kk w133 (step (u2 := joinW v x) L3 B3 r133 (((e130.tr e131).tr e132).tr e133)).1
end Rdg
end Go.Proofs.YtodhdkbhmkinjaaDoor
