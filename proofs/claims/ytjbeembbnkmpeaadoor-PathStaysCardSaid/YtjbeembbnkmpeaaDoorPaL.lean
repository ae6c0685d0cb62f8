/- Paths: lists of operators; PathStays. Conditions: the tables are laid; Box. -/
import Derived.Test.YtjbeembbnkmpeaaDoorPaK
import Derived.Test.YtjbeembbnkmpeaaDoorOpV
namespace Go.Proofs.YtjbeembbnkmpeaaDoor
namespace Pat
open Sh Mat Fix Opr
set_option linter.unusedVariables false
set_option linter.unusedSimpArgs false
set_option maxRecDepth 8000
set_option maxHeartbeats 8000000
theorem SV.take {w : World} {s : Slc} {L : List Sg} (h : SV w s L) {n c : Nat} (hn : n ≤ L.length) : SV w (s.cut 7 0 n c) (L.take n) := by
  have hl : (s.cut 7 0 n c).len = n := Nat.sub_zero n
  refine ⟨by rw [hl, List.length_take]; omega, by rw [sgs_len, List.length_take, hl]; omega, fun j v hj => ?_⟩
  have hjl : j < (sgs (L.take n)).length := (List.getElem?_eq_some_iff.1 hj).1
  rw [sgs_len, List.length_take] at hjl
  obtain ⟨a, ha, hc⟩ := h.2.2 j v (by
    have : sgs L = sgs (L.take n) ++ sgs (L.drop n) := by rw [← sgs_app, List.take_append_drop]
    rw [this, List.getElem?_append_left (by rw [sgs_len, List.length_take]; exact hjl)]
    exact hj)
  refine ⟨a, ?_, hc⟩
  show (if c = 0 then s.p else s.p.map (·.add (0 * 7))) = _
  split
  · exact ha
  · rw [ha, Nat.zero_mul]
    rfl
theorem doP_app {p p' : Pa} {nm d : By} {L : List Ob} {m : Mx} {e : Int} (h : doP p nm d L m = (e, p')) : (∃ T, p'.L = p.L ++ T) ∧ (e ≠ 0 → p' = p) := by
  have same : ∀ {e' : Int}, (e', p) = (e, p') → (∃ T, p'.L = p.L ++ T) ∧ (e ≠ 0 → p' = p) := fun h => by
    cases h
    exact ⟨⟨[], by simp⟩, fun _ => rfl⟩
  unfold doP at h
  split at h
  · exact same h
  split at h
  · exact same h
  split at h
  · exact same h
  split at h
  · exact same h
  split at h
  · exact same h
  split at h
  · cases h
    exact ⟨⟨_, rfl⟩, fun h => absurd rfl h⟩
  · exact same h
theorem paint_cases (p : Pa) (nm d : By) (L : List Ob) : ((paintP p nm d L).e ≠ 0 ∧ (paintP p nm d L).is = false ∧ (paintP p nm d L).p = p) ∨ ((paintP p nm d L).e = 0 ∧ (paintP p nm d L).is = false ∧ (paintP p nm d L).p = pa0) ∨
    ((paintP p nm d L).e = 0 ∧ (paintP p nm d L).is = true ∧ (paintP p nm d L).p = pa0 ∧ (paintP p nm d L).how ≠ 0 ∧ ((paintP p nm d L).L = p.L ∨ (paintP p nm d L).L = p.L ++ [clS])) := by
  unfold paintP
  by_cases h1 : nm ∉ ten
  · rw [if_pos h1]
    exact .inl ⟨by show (8 : Int) ≠ 0; decide, rfl, rfl⟩
  rw [if_neg h1]
  by_cases h2 : chkF nm L d ≠ 0
  · rw [if_pos h2]
    exact .inl ⟨h2, rfl, rfl⟩
  rw [if_neg h2]
  by_cases h3 : (if (howN nm).2 = true ∧ p.L ≠ [] then p.L ++ [clS] else p.L) = [] ∨ (howN nm).1 + (if p.cl = true then 8 else 0) = 0
  · rw [if_pos h3]
    exact .inr (.inl ⟨rfl, rfl, rfl⟩)
  · rw [if_neg h3]
    refine .inr (.inr ⟨rfl, rfl, rfl, fun h => h3 (.inr h), ?_⟩)
    show (if (howN nm).2 = true ∧ p.L ≠ [] then p.L ++ [clS] else p.L) = p.L ∨ (if (howN nm).2 = true ∧ p.L ≠ [] then p.L ++ [clS] else p.L) = p.L ++ [clS]
    split
    · exact .inr rfl
    · exact .inl rfl
section
variable {w0 w w' w1 : World} {s sg : Slc} {Q : List OpA} {b : Nat} {p : Pa} {m : Mx}
attribute [local irreducible] Ld Sh.St Nw Nn LdS LdT LdST StT
theorem c_small (h : OpsV w0 s Q) (E : Ext (fun _ => False) w0 w) : C33 s w fun r w1 => Ext (fun _ => False) w w1 := by
  refine T33 _ _ _ ?_
  unfold S33
  have hm := maxLen_le
  have hmost := h.most
  rw [h.len]
  refine Br.dec (fun _ => Ext.refl _ _) fun _ => ?_
  refine ⟨fun n st w3 => ∃ i : Nat, st = (i : Int) ∧ i ≤ Q.length ∧ n = Q.length - i ∧ Ext (fun _ => False) w w3, Q.length, ⟨0, rfl, by omega, rfl, Ext.refl _ _⟩, ?_⟩
  rintro n st w3 ⟨i, rfl, hi, rfl, e3⟩
  unfold S33L2
  rw [h.len]
  refine Br.dec (fun e => ⟨by omega, by omega, ?_⟩) fun e => e3
  obtain ⟨a, q, ha, ⟨hnl, d, hql, hov, hot⟩, hq, c⟩ := h.get' (i := i) (by omega)
  obtain ⟨c0, c1, c2⟩ := c w3 (E.tr e3)
  rw [ha, Int.toNat_natCast]
  refine Nn.of (Ld.mk c0 (Ld.mk c1 (Ld.mk c2 ?_)))
  refine (Hn.start w3).nw fun w4 K => ?_
  simp only [List.nil_append, add_lit, Nat.zero_add] at K ⊢
  iterate 3 (refine K.st 0 rfl (by simp) fun _ K => ?_; simp only [List.set_cons_zero, List.set_cons_succ] at K)
  refine K.ld 0 rfl rfl ?_
  have e4 := e3.tr K.ext
  refine ⟨fun n st w5 => ∃ k : Nat, st = (k : Int) ∧ k ≤ q.2.length ∧ n = q.2.length - k ∧ Ext (fun _ => False) w w5, q.2.length, ⟨0, rfl, by omega, rfl, e4⟩, ?_⟩
  rintro n st w5 ⟨k, rfl, hk, rfl, e5⟩
  unfold S33L1
  rw [hov.1]
  refine Br.dec (fun e => ⟨by omega, by omega, ?_⟩) fun e => ?_
  · have hk : q.2[k]? = some q.2[k] := List.getElem?_eq_getElem (by omega)
    obtain ⟨p, hp, k0, k1, k2, k3, k4, k5⟩ := (hov.keep (E.tr e5)).get hk
    rw [hp, Int.toNat_natCast]
    refine Nn.of (Ld.mk k0 (Ld.mk k1 (Ld.mk k2 (Ld.mk k3 (Ld.mk k4 (Ld.mk k5 ?_))))))
    refine (Hn.start w5).nw fun w6 K2 => ?_
    simp only [List.nil_append, add_lit, Nat.zero_add] at K2 ⊢
    iterate 6 (refine K2.st 0 rfl (by simp) fun _ K2 => ?_; simp only [List.set_cons_zero, List.set_cons_succ] at K2)
    iterate 6 refine K2.ld 0 rfl rfl ?_
    refine (c_size d q.2[k] _ (hot _ (List.getElem_mem (by omega))) (E.tr (e5.tr K2.ext))).mono ?_
    intro r w7 e7
    have e7 := (e5.tr K2.ext).tr e7
    refine Br.dec (fun _ => e7) fun _ => ?_
    exact ⟨q.2.length - (k + 1), by omega, k + 1, by rw [i64_id (by omega)]; rfl, by omega, rfl, e7⟩
  · exact ⟨Q.length - (i + 1), by omega, i + 1, by rw [i64_id (by omega)]; rfl, by omega, rfl, e5⟩
theorem LS.noS {N : List (Nat × List Value × TypeId)} {M : List (Slc × List Sg)} (h : LS w0 w b p sg N M) : LS w0 w b p sg N [] := ⟨h.ext, h.pv, h.own, h.ge, h.pin, fun q hq => (List.not_mem_nil hq).elim⟩
theorem stays_law {W : World} (hbox : BoxOk) (hs : AS W) (hpm : PM W) (m : Mx) (hQ : OpsV W s Q) : C7 s m W fun r w1 => r = true ∧ Ext (fun _ => False) W w1 := by
  have hmx := maxLen_le
  have hmost := hQ.most
  refine T7 _ m _ _ ?_
  unfold S7
  refine (Hn.start W).nw fun w2 K => ?_
  simp only [List.nil_append, add_lit, Nat.zero_add] at K ⊢
  refine (c_lives hbox (hs.keep K.ext) (hpm.keep K.ext)).mono ?_
  rintro r w3 ⟨rfl, e3⟩
  have K := K.keep e3
  have s3 : W.heap.size < w3.heap.size := K.lt 0 rfl
  refine Br.f rfl ?_
  refine (c_new w3).mono ?_
  rintro r w4 ⟨b, rfl, hb, hpv, e4⟩
  have K := K.keep e4
  have H : LS W w4 b pa0 nilS [(W.heap.size, mrow m, 23)] [] := ⟨K.ext, hpv, fun j hj => (by obtain ⟨a', ha, _⟩ := hj; cases ha), by omega, fun q hq => by
    rw [List.mem_singleton.1 hq]
    exact ⟨K.get 0 rfl, fun hj => (by obtain ⟨a', ha, _⟩ := hj; cases ha), by show W.heap.size ≠ b; omega⟩, fun q hq => (List.not_mem_nil hq).elim⟩
  refine (c_small hQ H.ext).mono ?_
  intro r w5 e5
  have H := H.keep e5
  cases r with
  | false => exact Br.t rfl ⟨rfl, H.ext⟩
  | true =>
  refine Br.f rfl (Br.f rfl ?_)
  refine ⟨fun n st v => ∃ (i : Nat) (p : Pa) (sg : Slc), st = (i : Int) ∧ i ≤ Q.length ∧ n = Q.length - i ∧ LS W v b p sg [(W.heap.size, mrow m, 23)] [], Q.length, ⟨0, pa0, nilS, rfl, by omega, rfl, H⟩, ?_⟩
  clear H K e3 e4 e5 hpv hb
  rintro n st v ⟨i, p, sg, rfl, hi, rfl, H⟩
  unfold S7L1
  rw [hQ.len]
  refine Br.dec (fun q => ⟨by omega, by omega, ?_⟩) fun q => ⟨rfl, H.ext⟩
  obtain ⟨a, o, ha, hok, ho, hc⟩ := hQ.get' (i := i) (by omega)
  obtain ⟨c0, c1, c2⟩ := hc v H.ext
  rw [ha, Int.toNat_natCast]
  refine Nn.of (Ld.mk c0 (Ld.mk c1 (Ld.mk c2 ?_)))
  obtain ⟨hnl, dd, hql, hov, hot⟩ := hok
  have P0 := H.pv
  refine (Hn.start v).nw fun w6 K => ?_
  simp only [List.nil_append, add_lit, Nat.zero_add] at K ⊢
  iterate 3 (refine K.st 0 rfl (by simp) fun _ K => ?_; simp only [List.set_cons_zero, List.set_cons_succ] at K)
  have H := (H.keep K.ext).push (K.get 0 rfl) P0 (Nat.le_refl _)
  simp only [List.cons_append, List.nil_append] at H
  have P1 := H.pv
  have hfew := P1.few
  refine (c_segs H.pv).mono ?_
  rintro r25 w7 ⟨h25, e7⟩
  have H := (H.keep e7).pushS h25 P1
  simp only [List.nil_append] at H
  have l25 : r25.len = p.L.length := h25.sv.1
  have opb := H.get 1 rfl
  refine Ld.of opb rfl ?_
  refine (r_paints _ _).mono ?_
  rintro r w8 ⟨rfl, rfl⟩
  have hi1 : IntKind.i64.wrap ((i : Int) + 1) = ((i + 1 : Nat) : Int) := by rw [i64_id (by omega)]; rfl
  have next : ∀ {v' : World} {p' : Pa} {sg' : Slc} {N : List (Nat × List Value × TypeId)} {M : List (Slc × List Sg)}, LS W v' b p' sg' ((W.heap.size, mrow m, 23) :: N) M → ∃ n', n' < Q.length - i ∧ ∃ (k : Nat) (p : Pa) (sg : Slc), IntKind.i64.wrap ((i : Int) + 1) = (k : Int) ∧ k ≤ Q.length ∧ n' = Q.length - k ∧ LS W v' b p sg [(W.heap.size, mrow m, 23)] [] := fun {v' p' sg' N M} h =>
    ⟨Q.length - (i + 1), by omega, i + 1, p', sg', hi1, by omega, rfl, h.ext, h.pv, h.own, h.ge, fun q hq => h.pin q (by rw [List.mem_singleton.1 hq]; exact List.mem_cons_self ..), fun q hq => (List.not_mem_nil hq).elim⟩
  refine Br.dec (fun hten => ?_) fun hten => ?_
  · iterate 3 refine Ld.of opb rfl ?_
    refine (LS.paint_ hs hpm H (hov.keep H.ext) (by omega) hnl rfl).mono ?_
    rintro r77 is e w9 ⟨rfl, rfl, sp, rfl, hsv, hso, sg', H, hnil, hcap⟩
    have hcs := paint_cases p (bl o.1.1) (bl o.1.2.2) o.2
    generalize paintP p (bl o.1.1) (bl o.1.2.2) o.2 = q at hcs hsv hnil H ⊢
    have P2 := H.pv
    refine (Hn.start w9).nw (cs := Sig.cells LPt pt0) fun _ K => ?_
    simp only [List.nil_append] at K
    refine StT.blk (pre := []) (post := []) (zs := Sig.cells LPt pt0) (ts := LPt) (by rw [List.append_nil]; exact K.get 0 rfl) rfl rfl fun w10 g10 e10 => ?_
    rw [List.append_nil] at g10
    have E10 : Ext (fun _ => False) w9 w10 := Ext.new K.ext e10 fun j hj => by have hj : j = w9.heap.size := hj; omega
    have H := (H.keep E10).push g10 P2 (Nat.le_refl _)
    simp only [List.cons_append, List.nil_append] at H
    refine (c_segs H.pv).mono ?_
    rintro r83 w11 ⟨h83, e11⟩
    have H := H.keep e11
    have hsv := (hsv.keep E10).keep e11
    have l83 : r83.len = q.p.L.length := h83.sv.1
    rcases hcs with ⟨k1, k2, k3⟩ | ⟨k1, k2, k3⟩ | ⟨k1, k2, k3, k4, k5⟩
    · rw [k2]
      refine Br.t (by simpa using k1) (Br.f rfl ?_)
      refine (c_same (H.gets 0 rfl) h83.sv (by show p.L.length ≤ 100000; omega)).mono ?_
      rintro r w12 ⟨rfl, e12⟩
      have H := H.keep e12
      rw [decide_eq_true (show p.L = q.p.L by rw [k3])]
      exact Br.f rfl (Br.f (by simpa using k1) (Br.f rfl (Br.f rfl (next H))))
    · rw [k1, k2, l83, k3]
      exact Br.f rfl (Br.t rfl (Br.f rfl (Br.f rfl (Br.f rfl (next H)))))
    · have hb := H.get 2 rfl
      rw [k2] at hb ⊢
      rw [k1, l83, k3]
      refine Br.f rfl (Br.t rfl (Br.f rfl (Br.t rfl ?_)))
      have hb : Blk w11 w9.heap.size (Sig.cells LPt (mkPt q.how sp (fillG _) (strkG _))).toArray 76 := hb
      have lsp : sp.len = q.L.length := hsv.1
      have lq : p.L.length ≤ q.L.length ∧ q.L.length ≤ p.L.length + 1 ∧ q.L.take p.L.length = p.L := by
        rcases k5 with k5 | k5 <;> rw [k5]
        · exact ⟨Nat.le_refl _, by omega, List.take_length⟩
        · exact ⟨by rw [List.length_append]; omega, by rw [List.length_append]; simp, List.take_left⟩
      refine Ld.of hb rfl ?_
      show Br (decide (((sp.len : Nat) : Int) < ((r25.len : Nat) : Int))) _ _
      rw [lsp, l25]
      refine Br.dec (fun hh => by omega) fun _ => Ld.of hb rfl ?_
      show Br (decide (((sp.len : Nat) : Int) > IntKind.i64.wrap (((p.L.length : Nat) : Int) + 1))) _ _
      rw [lsp, i64_id (n := ((p.L.length : Nat) : Int) + 1) (by omega)]
      refine Br.dec (fun hh => by omega) fun _ => Ld.of hb rfl ?_
      show 0 ≤ ((p.L.length : Nat) : Int) ∧ ((p.L.length : Nat) : Int) ≤ ((sp.cap : Nat) : Int) ∧ _
      refine ⟨by omega, by omega, ?_⟩
      rw [Int.toNat_natCast]
      refine (c_same (hsv.take (n := p.L.length) lq.1) (H.gets 0 rfl) (by rw [List.length_take]; omega)).mono ?_
      rintro r w12 ⟨rfl, e12⟩
      have H := H.keep e12
      rw [decide_eq_true (show _ = p.L from lq.2.2)]
      refine Br.f rfl (Br.t rfl (Ld.of (e12.blk hb id) rfl ?_))
      exact Br.f (show (q.how == 0) = false by simpa using k4) (next H)
  · iterate 3 refine Ld.of opb rfl ?_
    have mb := H.get 0 rfl
    iterate 6 refine Ld.of mb rfl ?_
    refine (LS.do_ hs H (hov.keep H.ext) (by omega) rfl).mono ?_
    rintro r124 w9 ⟨rfl, sg', H⟩
    have P2 := H.pv
    refine (c_segs H.pv).mono ?_
    rintro r126 w10 ⟨h126, e10⟩
    have H := H.keep e10
    obtain ⟨⟨T, hT⟩, hsame⟩ := doP_app (p := p) (nm := bl o.1.1) (d := bl o.1.2.2) (L := o.2) (m := m) rfl
    have l126 : r126.len = p.L.length + T.length := by rw [h126.sv.1, hT, List.length_append]
    have hcp := rcap h126.1
    rw [l126, l25]
    refine Br.dec (fun hh => by omega) fun _ => ⟨by omega, by omega, ?_⟩
    rw [Int.toNat_natCast]
    refine (c_same (h126.sv.take (n := p.L.length) (by rw [hT, List.length_append]; omega)) (H.gets 0 rfl) (by rw [List.length_take]; omega)).mono ?_
    rintro r w11 ⟨rfl, e11⟩
    have H := H.keep e11
    rw [decide_eq_true (show _ = p.L by rw [hT, List.take_left])]
    refine Br.f rfl ?_
    refine Br.ne (fun hne => ?_) fun _ => next H
    have := hsame hne
    rw [this] at hT
    have hT0 : T.length = 0 := by
      have := congrArg List.length hT
      rw [List.length_append] at this
      omega
    refine Br.ne (fun hh => absurd (by omega) hh) fun _ => next H
end
end Pat
end Go.Proofs.YtjbeembbnkmpeaaDoor
