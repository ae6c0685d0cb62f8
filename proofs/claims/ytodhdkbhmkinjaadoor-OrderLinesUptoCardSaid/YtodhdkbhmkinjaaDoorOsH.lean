/- Reading order: line. Conditions: sizes. -/
import Derived.Test.YtodhdkbhmkinjaaDoorOsG
namespace Go.Proofs.YtodhdkbhmkinjaaDoor
namespace Rdg
open Sh
set_option linter.unusedVariables false
set_option linter.unusedSimpArgs false
set_option maxRecDepth 4000
set_option maxHeartbeats 2000000
attribute [local irreducible] Ld St Nw Nn Lt LdS
theorem boxW_snoc {ws : List Wd} {v : Wd} (h : ws ≠ []) : boxW (ws ++ [v]) = both (boxW ws) v.box := by
  cases ws with
  | nil => exact absurd rfl h
  | cons u r =>
    show List.foldl (fun b v => both b v.box) (both u.box u.box) (r ++ [v]) = _
    rw [List.foldl_append]
    rfl
/-- The box takes a word in. -/
theorem box_in {w wq : World} {b1 xb : Nat} {sl : Slc} {ws : List Wd} {b : R4} {v : Wd} (H : Hn w wq [(w.heap.size, lcells (⟨none, 0, 0⟩, zB), 40), (b1, lcells (sl, b), 40), (xb, wcells v, 44)]) (hr : Row wq sl 44 5 (ws.flatMap wcells)) {K : World → Prop}
    (kk : ∀ w', Hn w w' [(w.heap.size, lcells (⟨none, 0, 0⟩, zB), 40), (b1, lcells (sl, both b v.box), 40), (xb, wcells v, 44)] → Row w' sl 44 5 (ws.flatMap wcells) → K w') :
    Ld wq ((⟨b1, 0, none⟩ : Addr).add 1) (Value.int .i64) fun (x236 : Int) => Ld wq (((⟨b1, 0, none⟩ : Addr).add 1).add 1) (Value.int .i64) fun (x237 : Int) => Ld wq (((⟨b1, 0, none⟩ : Addr).add 1).add 2) (Value.int .i64) fun (x238 : Int) => Ld wq (((⟨b1, 0, none⟩ : Addr).add 1).add 3) (Value.int .i64) fun (x239 : Int) =>
      Ld wq ((⟨xb, 0, none⟩ : Addr).add 1) (Value.int .i64) fun (x240 : Int) => Ld wq (((⟨xb, 0, none⟩ : Addr).add 1).add 1) (Value.int .i64) fun (x241 : Int) => Ld wq (((⟨xb, 0, none⟩ : Addr).add 1).add 2) (Value.int .i64) fun (x242 : Int) => Ld wq (((⟨xb, 0, none⟩ : Addr).add 1).add 3) (Value.int .i64) fun (x243 : Int) =>
      C48 (x236, x237, x238, x239) (x240, x241, x242, x243) wq fun r244 vw245 =>
        St vw245 ((⟨b1, 0, none⟩ : Addr).add 1) (.int .i64 (r244.1)) fun vw246 => St vw246 (((⟨b1, 0, none⟩ : Addr).add 1).add 1) (.int .i64 (r244.2.1)) fun vw247 => St vw247 (((⟨b1, 0, none⟩ : Addr).add 1).add 2) (.int .i64 (r244.2.2.1)) fun vw248 => St vw248 (((⟨b1, 0, none⟩ : Addr).add 1).add 3) (.int .i64 (r244.2.2.2)) K := by
  have hne : (40 : TypeId) ≠ 44 := by decide
  refine H.ld 1 rfl (x := b.1) rfl (H.ld 1 rfl (x := b.2.1) rfl (H.ld 1 rfl (x := b.2.2.1) rfl (H.ld 1 rfl (x := b.2.2.2) rfl ?_)))
  refine H.ld 2 rfl (x := v.box.1) rfl (H.ld 2 rfl (x := v.box.2.1) rfl (H.ld 2 rfl (x := v.box.2.2.1) rfl (H.ld 2 rfl (x := v.box.2.2.2) rfl ?_)))
  refine (c_around b v.box wq).mono ?_
  rintro r w3 ⟨rfl, e3⟩
  have H := H.keep e3
  have hr := hr.keep e3 fun _ _ e => e
  refine H.st' 1 rfl (of_decide_eq_true rfl) fun w4 H e4 => H.st' 1 rfl (of_decide_eq_true rfl) fun w5 H e5 => H.st' 1 rfl (of_decide_eq_true rfl) fun w6 H e6 => H.st' 1 rfl (of_decide_eq_true rfl) fun w7 H e7 => ?_
  exact kk w7 H (hr.keep (((e4.tr e5).tr e6).tr e7) fun j hj e => by
    have e : j = b1 := e
    subst e
    obtain ⟨c, hc⟩ := own_blk hr hj
    have hb := ((Hn.get (by assumption : Hn w w3 _) 1 rfl))
    exact hne (blk_ty hb hc))
/-- The second loop: the box of the words. -/
theorem line_box {w : World} {sl : Slc} {ws : List Wd} (hl : ws.length ≤ 2000000) {R : TyA39 → Bool → World → Prop} {w2 : World} (kk : ∀ w', Row w' sl 44 5 (ws.flatMap wcells) → Ext (fun _ => False) w w' → R (lt5 (sl, boxW ws)) (!ws.isEmpty) w') {w1 : World}
    (h : LnI w w1 w.heap.size w2.heap.size sl ws) : Lp (σ := Int) (S25L1 w w2 sl R) 0 w1 := by
  have hlen := h.len
  have hne : (40 : TypeId) ≠ 44 := by decide
  refine ⟨fun m i' w3 => ∃ i : Nat, i' = (i : Int) ∧ i ≤ ws.length ∧ m = ws.length - i ∧ Hn w w3 [(w.heap.size, lcells (⟨none, 0, 0⟩, zB), 40), (w2.heap.size, lcells (sl, boxW (ws.take i)), 40)] ∧ Row w3 sl 44 5 (ws.flatMap wcells), ws.length, ⟨0, rfl, Nat.zero_le _, rfl, h.H, h.row⟩, ?_⟩
  rintro m i' w3 ⟨i, rfl, hi, rfl, H, hV⟩
  unfold S25L1
  rw [hlen]
  refine Br.dec (fun q => ?_) fun q => ?_
  · have hil : i < ws.length := by omega
    obtain ⟨a, ha, hc⟩ := VRow.elem wcells_len (Row.view hV) (List.getElem?_eq_getElem hil) (by decide)
    have htk := take_one hil
    have hbx : boxW (ws.take (i + 1)) = both (if i = 0 then (ws[i]).box else boxW (ws.take i)) (ws[i]).box := by
      rw [htk]
      by_cases h0 : i = 0
      · subst h0
        rw [if_pos rfl]
        rfl
      · rw [if_neg h0]
        exact boxW_snoc (by
          intro e
          have := congrArg List.length e
          rw [List.length_take, List.length_nil] at this
          omega)
    generalize ws[i] = v at *
    rw [ha]
    refine ⟨by omega, by omega, Nn.of ?_⟩
    rw [Int.toNat_natCast]
    refine ldWA (v := v) (fun j c hj => by rw [add_add']; exact hc j c hj) ?_
    have z0 := H.lt 0 rfl
    have z1 := H.lt 1 rfl
    refine (Hn.start w3).nw fun w4 J => ?_
    have J : Hn w3 w4 [(w3.heap.size, wcells ⟨⟨#[]⟩, zB⟩, 44)] := J
    refine stWd (v := v) J 0 rfl fun w5 J => ?_
    simp only [List.set_cons_zero] at J
    have H5 := (H.keep J.ext).push (J.get 0 rfl) (by have := H.size; exact this) (by simp only [List.map_cons, List.map_nil, List.mem_cons, List.not_mem_nil, or_false]; omega)
    have hV5 := hV.keep J.ext fun _ _ e => e
    simp only [List.cons_append, List.nil_append] at H5
    have next : ∀ w', Hn w w' [(w.heap.size, lcells (⟨none, 0, 0⟩, zB), 40), (w2.heap.size, lcells (sl, both (if i = 0 then v.box else boxW (ws.take i)) v.box), 40), (w3.heap.size, wcells v, 44)] → Row w' sl 44 5 (ws.flatMap wcells) → ∃ n', n' < ws.length - i ∧ ∃ i_1 : Nat, IntKind.i64.wrap ((i : Int) + 1) = (i_1 : Int) ∧ i_1 ≤ ws.length ∧ n' = ws.length - i_1 ∧ Hn w w' [(w.heap.size, lcells (⟨none, 0, 0⟩, zB), 40), (w2.heap.size, lcells (sl, boxW (ws.take i_1)), 40)] ∧ Row w' sl 44 5 (ws.flatMap wcells) := fun w' h1 h2 =>
      ⟨ws.length - (i + 1), by omega, i + 1, by rw [i64_id (by omega)]; rfl, by omega, rfl, by rw [hbx]; exact Hn.left (L := [_, _]) (M := [_]) h1, h2⟩
    refine Br.eq (fun h0 => ?_) fun h0 => ?_
    · have hi0 : i = 0 := by omega
      subst hi0
      simp only [if_true] at next
      refine H5.ld 2 rfl (x := v.box.1) rfl (H5.ld 2 rfl (x := v.box.2.1) rfl (H5.ld 2 rfl (x := v.box.2.2.1) rfl (H5.ld 2 rfl (x := v.box.2.2.2) rfl ?_)))
      refine H5.st' 1 rfl (of_decide_eq_true rfl) fun w6 H6 e6 => H6.st' 1 rfl (of_decide_eq_true rfl) fun w7 H7 e7 => H7.st' 1 rfl (of_decide_eq_true rfl) fun w8 H8 e8 => H8.st' 1 rfl (of_decide_eq_true rfl) fun w9 H9 e9 => ?_
      have H9 : Hn w w9 [(w.heap.size, lcells (⟨none, 0, 0⟩, zB), 40), (w2.heap.size, lcells (sl, v.box), 40), (w3.heap.size, wcells v, 44)] := H9
      refine box_in H9 (hV5.keep (((e6.tr e7).tr e8).tr e9) fun j hj e => ?_) next
      have e : j = w2.heap.size := e
      subst e
      obtain ⟨c, hc⟩ := own_blk hV5 hj
      exact hne (blk_ty (H5.get 1 rfl) hc)
    · have hi0 : ¬ i = 0 := by omega
      rw [if_neg hi0] at next
      exact box_in H5 hV5 next
  · have : i = ws.length := by omega
    subst this
    rw [List.take_length] at H
    have Hd := H.drew
    refine ⟨fun w' => Blk w' w2.heap.size (lcells (sl, boxW ws)).toArray 40, Hd.get 1 rfl, ?_⟩
    refine ldLB (p := (sl, boxW ws)) (fun _ h => h) (LdS.of (x := sl) (fun _ h => h) rfl ?_)
    have hn01 : w2.heap.size ≠ w.heap.size := by
      have := Hd.h.nodup
      intro e
      rw [e] at this
      simp [arr] at this
    refine StT.blk (ts := LiA39) (x := lt5 (sl, boxW ws)) (pre := []) (zs := lcells (⟨none, 0, 0⟩, zB)) (post := []) (by rw [List.append_nil, List.nil_append]; exact Hd.get 0 rfl) rfl rfl fun w4 b4 e4 => ?_
    refine ⟨e4.blk (Hd.get 1 rfl) hn01, LdT.blk (ts := LiA39) (x := lt5 (sl, boxW ws)) (pre := []) (post := []) b4 rfl ?_⟩
    have hb : decide (((sl.len : Nat) : Int) > 0) = !ws.isEmpty := by
      rw [hlen]
      cases ws with
      | nil => rfl
      | cons v r => simp
    rw [hb]
    have hVd : Row w3.drew sl 44 5 (ws.flatMap wcells) := hV.keep (Ext.refl _ w3).drew fun _ _ e => e
    refine kk w4 (hVd.keep e4 fun j hj e => ?_) (ext_new Hd.ext e4 fun j e => by have e : j = w.heap.size := e; omega)
    have e : j = w.heap.size := e
    subst e
    obtain ⟨c, hc⟩ := own_blk hVd hj
    exact hne (blk_ty (Hd.get 0 rfl) hc)
/-- foliant/order.line -/
theorem c_line {w : World} {s : Slc} {r : List Sg} (hV : VRow w s 10 (r.flatMap scells)) (hl : r.length ≤ 1048576) (hcl : ∀ x ∈ r, Cl x) (hs : lets r ≤ 1048576) :
    C25 s w fun a b w1 => (∃ sl, a = lt5 (sl, (lineF r).box) ∧ Row w1 sl 44 5 ((wordsF r).flatMap wcells) ∧ b = !(wordsF r).isEmpty) ∧ Ext (fun _ => False) w w1 := by
  have hlen : s.len = r.length := VRow.count scells_len (by decide) hV
  refine T25 _ _ _ ?_
  unfold S25
  refine (Hn.start w).nw fun w2 H => H.nw fun w3 H => ?_
  have H : Hn w w3 [(w.heap.size, lcells (⟨none, 0, 0⟩, zB), 40), (w2.heap.size, lcells (⟨none, 0, 0⟩, zB), 40)] := H
  refine ⟨fun m i' w1 => ∃ (i : Nat) (sl : Slc), i' = (i : Int) ∧ i ≤ r.length ∧ m = r.length - i ∧ LnI w w1 w.heap.size w2.heap.size sl (wsAt r i).reverse, r.length, ⟨0, ⟨none, 0, 0⟩, rfl, Nat.zero_le _, rfl, H, Row.nil _ _ _, fun j hj => (no_own j hj).elim⟩, ?_⟩
  rintro m i' w96 ⟨i, sl, rfl, hi, rfl, I⟩
  unfold S25L2
  rw [hlen]
  have hsz := letsW_at r i hi
  have hsz2 := lets_take r i
  refine Br.dec (fun q => ?_) fun q => ?_
  · have hil : i < r.length := by omega
    obtain ⟨a, ha, hc⟩ := VRow.elem scells_len (hV.keep I.H.ext) (List.getElem?_eq_getElem hil) (by decide)
    have hxm := List.getElem_mem hil
    have hxc := hcl _ hxm
    have hx63 : (r[i]).s.size ≤ 1048576 := by have := lets_mem hxm; omega
    have step0 : i = 0 → wsAt r (i + 1) = stepW none (wsAt r i) r[i] := fun h0 => by
      subst h0
      exact wsAt_zero (by omega)
    have stepN : ∀ k, (hk : i = k + 1) → wsAt r (i + 1) = stepW (some (r[k]'(by omega))) (wsAt r i) r[i] := fun k hk => by
      subst hk
      exact wsAt_succ hil
    generalize r[i] = x at *
    rw [ha]
    refine ⟨by omega, by omega, Nn.of ?_⟩
    rw [Int.toNat_natCast]
    refine ldSA (x := x) (fun j v hj => by rw [add_add']; exact hc j v hj) ?_
    refine (Hn.start w96).nw fun w100 J => ?_
    have J : Hn w96 w100 [(w96.heap.size, scells zeroS, 61)] := J
    refine stSg (x := x) J 0 rfl fun w101 J => ?_
    simp only [List.set_cons_zero] at J
    refine ldSg J 0 rfl ?_
    refine (c_blank (by unfold Sz63; omega) w101).mono ?_
    rintro r103 w104 ⟨rfl, e104⟩
    have J := J.keep e104
    have I4 := I.keep J.ext
    have next : ∀ (s' : Slc) (w' : World), LnI w w' w.heap.size w2.heap.size s' (wsAt r (i + 1)).reverse → ∃ n', n' < r.length - i ∧ ∃ (i_1 : Nat) (sl : Slc), IntKind.i64.wrap ((i : Int) + 1) = (i_1 : Int) ∧ i_1 ≤ r.length ∧ n' = r.length - i_1 ∧ LnI w w' w.heap.size w2.heap.size sl (wsAt r i_1).reverse := fun s' w' h =>
      ⟨r.length - (i + 1), by omega, i + 1, s', by rw [i64_id (by omega)]; rfl, by omega, rfl, h⟩
    cases hb : x.blank with
    | true =>
      refine Br.t rfl (next sl w104 ?_)
      have : wsAt r (i + 1) = wsAt r i := by
        have hs : ∀ p, stepW p (wsAt r i) x = wsAt r i := fun p => by unfold stepW; rw [if_pos hb]
        cases i with
        | zero => rw [step0 rfl, hs]
        | succ k => rw [stepN k rfl, hs]
      rw [this]
      exact I4
    | false =>
      refine Br.f rfl (Br.dec (fun q1 => ?_) fun q1 => ?_)
      · obtain ⟨k, rfl⟩ : ∃ k, i = k + 1 := ⟨i - 1, by omega⟩
        have hst := stepN k rfl
        have hk : k < r.length := by omega
        have ek : IntKind.i64.wrap (((k + 1 : Nat) : Int) - 1) = (k : Int) := by rw [i64_id (by omega)]; omega
        rw [ek]
        obtain ⟨a', ha', hc'⟩ := VRow.elem scells_len (hV.keep (I4.H.ext.drew)) (List.getElem?_eq_getElem hk) (by decide)
        rw [ha] at ha'
        cases ha'
        have ham := List.getElem_mem hk
        have hac := hcl _ ham
        have ha63 : (r[k]).s.size ≤ 1048576 := by have := lets_mem ham; omega
        have hane : (r[k]).blank = false → wsAt r (k + 1) ≠ [] := fun hbl => by
          cases k with
          | zero => rw [wsAt_zero (by omega)]; exact stepW_ne hbl
          | succ k => rw [wsAt_succ (by omega)]; exact stepW_ne hbl
        generalize r[k] = p at *
        refine ⟨by omega, by omega, ?_⟩
        rw [Int.toNat_natCast]
        refine Nn.of (ldSA (x := p) (fun j v hj => by rw [add_add']; exact hc' j v hj) ?_)
        have Jd := J.drew
        refine ldSg Jd 0 rfl ?_
        refine (c_goesOn hac hxc (by unfold Sz63; omega) _).mono ?_
        rintro r108 w109 ⟨rfl, e109⟩
        have J9 := Jd.keep e109
        have I9 := I.keep J9.ext
        cases hg : goesOn p x with
        | true =>
          have hpb : p.blank = false := by
            unfold goesOn at hg
            simp only [Bool.and_eq_true, Bool.not_eq_true'] at hg
            exact hg.1.1
          obtain ⟨v, ws1, hws⟩ : ∃ v ws1, wsAt r (k + 1) = v :: ws1 := by
            match wsAt r (k + 1), hane hpb with
            | v :: ws1, _ => exact ⟨v, ws1, rfl⟩
          have hnx : wsAt r (k + 1 + 1) = joinW v x :: ws1 := by
            rw [hst, hws]
            unfold stepW
            rw [if_neg (by rw [hb]; decide)]
            dsimp only
            rw [if_pos hg]
          rw [hnx] at next
          rw [hws] at I9 hsz
          rw [List.reverse_cons] at I9 next
          have hv : v.s.size ≤ 1048576 := by
            have := hsz.1
            unfold letsW at this
            simp only [List.map_cons, List.sum_cons] at this
            omega
          have h2 := hsz.2
          simp only [List.length_cons] at h2
          refine Br.t rfl ?_
          exact line_more I9 (J9.get 0 rfl) hxc (by omega) (by omega) (by rw [List.length_reverse]; omega) fun w' h => next sl w' h
        | false =>
          have hnx : wsAt r (k + 1 + 1) = ⟨x.s, x.box⟩ :: wsAt r (k + 1) := by
            rw [hst]
            unfold stepW
            rw [if_neg (by rw [hb]; decide)]
            cases hw : wsAt r (k + 1) with
            | nil => rfl
            | cons v ws1 =>
              dsimp only
              rw [if_neg (by rw [hg]; decide)]
          rw [hnx, List.reverse_cons] at next
          refine Br.f rfl ?_
          have J9d := J9.drew
          exact line_new (I.keep J9d.ext) (J9d.get 0 rfl) hxc (by rw [List.length_reverse]; omega) next
      · have hi0 : i = 0 := by omega
        subst hi0
        have hnx : wsAt r (0 + 1) = ⟨x.s, x.box⟩ :: wsAt r 0 := by
          rw [step0 rfl]
          unfold stepW
          rw [if_neg (by rw [hb]; decide)]
        rw [hnx, List.reverse_cons] at next
        have Jd := J.drew.drew
        exact line_new (I.keep Jd.ext) (Jd.get 0 rfl) hxc (by rw [List.length_reverse]; omega) next
  · have : i = r.length := by omega
    subst this
    refine I.H.ld 1 rfl (x := sl) rfl ?_
    rw [← wordsF_at] at I
    have hwl : (wordsF r).length ≤ 2000000 := by
      rw [wordsF_at, List.length_reverse]
      omega
    refine line_box hwl (fun w' h1 h2 => ?_) I
    exact ⟨⟨sl, rfl, h1, rfl⟩, h2⟩
end Rdg
end Go.Proofs.YtodhdkbhmkinjaaDoor
