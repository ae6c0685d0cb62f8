/- Inflate: the reference's lengths, block, All. Conditions: sizes. -/
import Derived.Test.YtapgacggllbhiaaDoorInN
namespace Go.Proofs.YtapgacggllbhiaaDoor
namespace Inf
open Sh Bit
set_option linter.unusedVariables false
set_option linter.unusedSimpArgs false
set_option maxRecDepth 4000
set_option maxHeartbeats 2000000
def dynT (l : List Int) (n q : Nat) : Except Int (List Int × List Int × Nat) := if l.getD 256 0 = 0 then .error 13 else if chk (l.take n) ≠ 0 then .error (chk (l.take n))
  else if chk (l.drop n) ≠ 0 then .error (chk (l.drop n)) else .ok (l.take n, l.drop n, q)
theorem take_own {s : Slc} {n j : Nat} (h : (s.cut 1 0 n s.cap).own j) : s.own j := by
  obtain ⟨a, ha, rfl⟩ := h
  have ha : (if s.cap = 0 then s.p else s.p.map (·.add (0 * 1))) = some a := ha
  split at ha
  · exact ⟨a, ha, rfl⟩
  · obtain ⟨x, hx, rfl⟩ := Option.map_eq_some_iff.1 ha
    exact ⟨x, hx, (add_block x _).symm⟩
theorem take_len {l : List Int} (n : Nat) (hn : n ≤ l.length) : (l.take n).length = n := by rw [List.length_take]; omega
attribute [local irreducible] Ld St Nw Nn Lt LdS
section
variable {w : World} {o : Slc} {s : ByteArray} {out : List UInt8} {p most : Nat}
theorem r_lengths (hs : s.size ≤ 1000000) (hp : p ≤ 8 * s.size) (w : World) : C51 s (p : Int) w fun a b q e w1 => Ext (fun _ => False) w w1 ∧ ((∃ y : Int, dyn s p = .error y ∧ e = y ∧ y ≠ 0) ∨
    ∃ (l : List Int) (n q1 : Nat), e = 0 ∧ q = (q1 : Int) ∧ q1 ≤ 8 * s.size ∧ 257 ≤ n ∧ n ≤ l.length ∧ IV w1 a (l.take n) ∧ IV w1 b (l.drop n) ∧ dyn s p = dynT l n q1 ∧ (∀ j, a.own j → w.heap.size ≤ j ∧ j < w1.heap.size) ∧ ∀ j, b.own j → w.heap.size ≤ j ∧ j < w1.heap.size) := by
  refine T51 _ _ _ _ ?_
  unfold S51
  have h32 : (2 : Int) ^ 5 = 32 := by decide
  have h16 : (2 : Int) ^ 4 = 16 := by decide
  generalize hR : dyn s p = R0
  unfold dyn at hR
  refine (r_number (n := 5) (by omega) hs hp w).mono ?_
  rintro hl q e w1 ⟨hn, e1⟩
  rcases hn with ⟨p1, hn, rfl, rfl⟩ | ⟨hn, rfl⟩
  rotate_left
  · rw [hn] at hR
    exact Br.t rfl ⟨e1, .inl ⟨4, hR.symm, rfl, by decide⟩⟩
  refine Br.f rfl ?_
  rw [hn] at hR
  dsimp only at hR
  obtain ⟨a0, a1, rfl, a3⟩ := num_bd hn
  refine Br.dec (fun q1 => ?_) fun q1 => ?_
  · rw [if_pos (by omega)] at hR
    exact ⟨e1, .inl ⟨3, hR.symm, rfl, by decide⟩⟩
  rw [if_neg (by omega)] at hR
  refine (r_number (n := 5) (by omega) hs (by omega) w1).mono ?_
  rintro hd q e w2 ⟨hn, e2⟩
  have E2 := e1.tr e2
  rcases hn with ⟨p2, hn, rfl, rfl⟩ | ⟨hn, rfl⟩
  rotate_left
  · rw [hn] at hR
    exact Br.t rfl ⟨E2, .inl ⟨4, hR.symm, rfl, by decide⟩⟩
  refine Br.f rfl ?_
  rw [hn] at hR
  dsimp only at hR
  obtain ⟨b0, b1, rfl, b3⟩ := num_bd hn
  refine Br.dec (fun q2 => ?_) fun q2 => ?_
  · rw [if_pos (by omega)] at hR
    exact ⟨E2, .inl ⟨3, hR.symm, rfl, by decide⟩⟩
  rw [if_neg (by omega)] at hR
  refine (r_number (n := 4) (by omega) hs (by omega) w2).mono ?_
  rintro hc q e w3 ⟨hn, e3⟩
  have E3 := E2.tr e3
  rcases hn with ⟨p3, hn, rfl, rfl⟩ | ⟨hn, rfl⟩
  rotate_left
  · rw [hn] at hR
    exact Br.t rfl ⟨E3, .inl ⟨4, hR.symm, rfl, by decide⟩⟩
  refine Br.f rfl ?_
  rw [hn] at hR
  dsimp only at hR
  obtain ⟨c0, c1, rfl, c3⟩ := num_bd hn
  obtain ⟨hl, rfl⟩ := Int.eq_ofNat_of_zero_le a0
  obtain ⟨hd, rfl⟩ := Int.eq_ofNat_of_zero_le b0
  obtain ⟨hc, rfl⟩ := Int.eq_ofNat_of_zero_le c0
  simp only [Int.toNat_natCast] at hR
  refine (Hn.start w3).nw fun w4 H => ?_
  simp only [List.nil_append] at H
  have H : Hn w3 w4 [(w3.heap.size, ints (ordI order), 3)] := H
  obtain ⟨w5, hrun, hw5⟩ := elI.make (zs := [.int .i64 0]) rfl w4 19 (by omega) (by omega)
  refine ⟨_, w5, hrun, ?_⟩
  have H : Hn w3 w5 [(w3.heap.size, ints (ordI order), 3), (w4.heap.size, ints (List.replicate 19 0), 3)] := by
    have hlt := H.lt 0 rfl
    rw [hw5, flat_zero]
    exact (H.keep ((Ext.refl _ _).alloc _)).push (Blk.new _ _ _) H.size (by simp; omega)
  generalize hR19 : lens19 s (order.take (hc + 4)) (List.replicate 19 0) (p + 5 + 5 + 4) = R19
  rw [hR19] at hR
  refine ⟨fun n st w6 => ∃ (i : Nat) (l : List Int) (q : Nat), st = ((q : Int), (i : Int)) ∧ i ≤ hc + 4 ∧ n = hc + 4 - i ∧ l.length = 19 ∧ q ≤ 8 * s.size ∧ Hn w3 w6 [(w3.heap.size, ints (ordI order), 3), (w4.heap.size, ints l, 3)] ∧ lens19 s ((order.take (hc + 4)).drop i) l q = R19, hc + 4, ⟨0, _, _, rfl, by omega, rfl, by simp, by omega, H, hR19⟩, ?_⟩
  rintro n st w6 ⟨i, l, q, rfl, hi, rfl, hl19, hq, H, hres⟩
  unfold S51L1
  dsimp only
  rw [i64_id (n := (hc : Int) + 4) (by omega)]
  have E6 := E3.tr H.ext
  refine Br.dec (fun q3 => ?_) fun q3 => ?_
  · have hol := order_lt i (by omega)
    have hdrop : (order.take (hc + 4)).drop i = order.getD i 0 :: (order.take (hc + 4)).drop (i + 1) := by
      have hlen : (order.take (hc + 4)).length = hc + 4 := by rw [List.length_take]; show min (hc + 4) 19 = _; omega
      rw [List.drop_eq_getElem_cons (by omega)]
      congr 1
      rw [List.getElem_take, List.getD_eq_getElem?_getD, List.getElem?_eq_getElem (by show i < 19; omega)]
      rfl
    rw [hdrop] at hres
    unfold lens19 at hres
    refine (r_number (n := 3) (by omega) hs hq w6).mono ?_
    rintro x q e w7 ⟨hn, e7⟩
    rcases hn with ⟨p7, hn, rfl, rfl⟩ | ⟨hn, rfl⟩
    rotate_left
    · rw [hn] at hres
      rw [← hres] at hR
      exact Br.t rfl ⟨E6.tr e7, .inl ⟨4, hR.symm, rfl, by decide⟩⟩
    refine Br.f rfl ?_
    rw [hn] at hres
    dsimp only at hres
    obtain ⟨x0, x1, rfl, x3⟩ := num_bd hn
    have H := H.keep e7
    refine ⟨by omega, by show (i : Int) < ((19 : Nat) : Int); omega, Nn.of ?_⟩
    simp only [add_lit, Int.toNat_natCast, Nat.mul_one, Nat.zero_add]
    refine H.ld 0 rfl (x := ((order.getD i 0 : Nat) : Int)) (by rw [ints_get (by rw [ordI_len]; show i < 19; omega), ordI_get]) ⟨by omega, by show ((order.getD i 0 : Nat) : Int) < ((19 : Nat) : Int); omega, Nn.of ?_⟩
    simp only [add_lit, Int.toNat_natCast, Nat.mul_one, Nat.zero_add]
    refine H.st 1 rfl (by rw [ints_len]; omega) fun w8 H => ?_
    simp only [List.set_cons_zero, List.set_cons_succ] at H
    rw [ints_set] at H
    exact ⟨hc + 4 - (i + 1), by omega, i + 1, _, _, by rw [i64_id (by omega)]; rfl, by omega, rfl, by rw [List.length_set]; exact hl19, x3, H, hres⟩
  · have hi4 : i = hc + 4 := by omega
    subst hi4
    have hd0 : (order.take (hc + 4)).drop (hc + 4) = [] := List.drop_eq_nil_of_le (by rw [List.length_take]; omega)
    rw [hd0] at hres
    have hres : Except.ok (l, q) = R19 := hres
    rw [← hres] at hR
    dsimp only at hR
    have hvl : IV w6 ⟨some ⟨w4.heap.size, 0, none⟩, 19, 19⟩ l := IV.blk (H.get 1 rfl) hl19.symm
    refine (r_chk hvl).mono ?_
    rintro r w6 ⟨rfl, rfl⟩
    refine Br.ne (fun h7 => ?_) fun h7 => ?_
    · rw [if_pos h7] at hR
      exact ⟨E6, .inl ⟨_, hR.symm, rfl, h7⟩⟩
    rw [if_neg (fun hh => hh h7)] at hR
    rw [i64_id (n := (hl : Int) + 257) (by omega), i64_id (n := (hl : Int) + 257 + (hd : Int)) (by omega), i64_id (n := (hl : Int) + 257 + (hd : Int) + 1) (by omega), show (hl : Int) + 257 + (hd : Int) + 1 = ((hl + 257 + (hd + 1) : Nat) : Int) by omega]
    refine (r_all hvl (chk_lok h7) hl19 hs hq (many := hl + 257 + (hd + 1)) (by omega)).mono ?_
    rintro r q e w8 ⟨e8, h8⟩
    have E8 := E6.tr e8
    rcases h8 with ⟨l2, q2, h8, rfl, rfl, hv2, hcap2, own2⟩ | ⟨y, h8, rfl, hy⟩
    rotate_left
    · rw [h8] at hR
      exact Br.t (by simpa using hy) ⟨E8, .inl ⟨_, hR.symm, rfl, hy⟩⟩
    refine Br.f rfl ?_
    rw [h8] at hR
    dsimp only at hR
    obtain ⟨f1, f2, f3⟩ := lensF_ok _ _ _ hq (Nat.zero_le _) h8
    have hln := hv2.1
    rw [show (hl : Int) + 257 = ((hl + 257 : Nat) : Int) by omega, Int.toNat_natCast]
    have z6 := E6.size
    have hvd := (hv2.drop hcap2 (d := hl + 257) (by omega)).1
    refine ⟨by omega, by omega, by omega, by omega, E8.drew, .inr ⟨l2, hl + 257, q2, rfl, rfl, f2, by omega, by omega, (hv2.take (by omega)).keep (Ext.refl _ _).drew, hvd.keep (Ext.refl _ _).drew, hR.symm, fun j hj => ?_, fun j hj => ?_⟩⟩
    · have := own2 j (take_own hj)
      show w.heap.size ≤ j ∧ j < w8.heap.size
      omega
    · have := own2 j (cut_own hj)
      show w.heap.size ≤ j ∧ j < w8.heap.size
      omega
theorem r_block {kind : Int} (h : BRow w o out) (hm : most ≤ 1048576) (hl : out.length ≤ most) (hs : s.size ≤ 1000000) (hp : p ≤ 8 * s.size) : C32 s (p : Int) kind o (most : Int) w fun x q e w1 => OutE (block s most kind out p) w w1 o x q e := by
  refine T32 _ _ _ _ _ _ _ ?_
  unfold S32
  generalize hR : block s most kind out p = R0
  unfold block at hR
  refine Br.eq (fun h3 => ?_) fun h3 => Br.eq (fun h0 => ?_) fun h0 => ?_
  · rw [if_pos h3] at hR
    exact .inr ⟨3, hR.symm, rfl, by decide, Ext.refl _ _⟩
  · rw [if_neg h3, if_pos h0] at hR
    refine (r_stored h hm hl hs hp).mono ?_
    rintro x q e w1 hx
    rw [hR] at hx
    exact hx
  rw [if_neg h3, if_neg h0] at hR
  refine (r_Fixed w).mono ?_
  rintro fa fb w1 ⟨va, vb, e1, oa, ob⟩
  have z1 := e1.size
  have H1 := h.keep e1 fun _ _ h => h
  have olt : ∀ j, o.own j → j < w.heap.size := fun j hj => h.own_lt hj
  refine Br.eq (fun h2 => ?_) fun h2 => ?_
  · rw [if_pos h2] at hR
    refine (r_lengths hs hp w1).mono ?_
    rintro a b q e w2 ⟨e2, hd⟩
    have E2 := e1.tr e2
    have z2 := E2.size
    rcases hd with ⟨y, hd, rfl, hy⟩ | ⟨l, n, q2, rfl, rfl, hq2, hn1, hn2, ha, hb, hd, owna, ownb⟩
    · rw [hd] at hR
      exact Br.t (by simpa using hy) (.inr ⟨_, hR.symm, rfl, hy, no_own E2⟩)
    refine Br.f rfl ?_
    rw [hd] at hR
    unfold dynT at hR
    have htl := take_len (l := l) n hn2
    obtain ⟨g, hg, hc⟩ := ha.get (i := 256) (by omega)
    have hlen := ha.1
    have h256 : (l.take n).getD 256 0 = l.getD 256 0 := by
      rw [List.getD_eq_getElem?_getD, List.getElem?_take_of_lt (by omega), List.getD_eq_getElem?_getD]
    rw [hg]
    refine ⟨by omega, by omega, Nn.of (Ld.mk hc ?_)⟩
    rw [h256]
    refine Br.eq (fun q3 => ?_) fun q3 => ?_
    · rw [if_pos q3] at hR
      exact .inr ⟨13, hR.symm, rfl, by decide, no_own E2⟩
    rw [if_neg q3] at hR
    refine (r_chk ha).mono ?_
    rintro r w2 ⟨rfl, rfl⟩
    refine Br.ne (fun q4 => ?_) fun q4 => ?_
    · rw [if_pos q4] at hR
      exact .inr ⟨_, hR.symm, rfl, q4, no_own E2⟩
    rw [if_neg (fun hh => hh q4)] at hR
    refine (r_chk hb).mono ?_
    rintro r w2 ⟨rfl, rfl⟩
    refine Br.ne (fun q5 => ?_) fun q5 => ?_
    · rw [if_pos q5] at hR
      exact .inr ⟨_, hR.symm, rfl, q5, no_own E2⟩
    rw [if_neg (fun hh => hh q5)] at hR
    refine (r_signs (H1.keep e2 fun _ _ h => h) hm hl hs hq2 ha (chk_lok q4) (fun j hj => ⟨fun e => ?_, (owna j hj).2⟩) hb (chk_lok q5) (fun j hj => ⟨fun e => ?_, (ownb j hj).2⟩)).mono ?_
    · have := owna j hj; have := olt j e; omega
    · have := ownb j hj; have := olt j e; omega
    · rintro x q e w3 hx
      dsimp only at hR
      rw [hR] at hx
      exact hx.pre E2
  · rw [if_neg h2] at hR
    refine (r_signs H1 hm hl hs hp va (chk_lok chk_fixL) (fun j hj => ⟨fun e => ?_, (oa j hj).2⟩) vb (chk_lok chk_fixD) (fun j hj => ⟨fun e => ?_, (ob j hj).2⟩)).mono ?_
    · have := oa j hj; have := olt j e; omega
    · have := ob j hj; have := olt j e; omega
    · rintro x q e w3 hx
      rw [hR] at hx
      exact hx.pre e1
theorem r_All (hs : s.size ≤ 1000000) (m : Int) (w : World) : C10 s m w fun d n e w1 => (d, n, e) = allR s m ∧ Ext (fun _ => False) w w1 := by
  refine T10 _ _ _ _ ?_
  unfold S10
  refine Br.dec (fun h1 => ⟨by unfold allR; rw [if_pos h1], Ext.refl _ _⟩) fun h1 => ?_
  have hmost : (if 1048576 < m then (1048576 : Int) else m) = (((min m 1048576).toNat : Nat) : Int) := by
    split <;> omega
  have hmb : (min m 1048576).toNat ≤ 1048576 := by omega
  have hall : allR s m = match allF s (min m 1048576).toNat (8 * s.size + 1) [] 0 with
      | .error e => (⟨#[]⟩, 0, e)
      | .ok (o, n) => (⟨o.toArray⟩, (n : Int), 0) := by
    unfold allR
    rw [if_neg (by omega)]
    cases allF s (min m 1048576).toNat (8 * s.size + 1) [] 0 <;> rfl
  generalize (min m 1048576).toNat = mm at *
  generalize hRR : allF s mm (8 * s.size + 1) [] 0 = R0 at hall
  refine ⟨fun n st w7 => ∃ (out1 : List UInt8) (o1 : Slc) (q : Nat), st = (o1, (q : Int)) ∧ BRow w7 o1 out1 ∧ out1.length ≤ mm ∧ q ≤ 8 * s.size ∧ (∀ j, o1.own j → w.heap.size ≤ j) ∧ Ext (fun _ => False) w w7 ∧ 8 * s.size < q + n ∧ allF s mm n out1 q = R0, 8 * s.size + 1, ⟨[], ⟨none, 0, 0⟩, 0, rfl, BRow.nil _, Nat.zero_le _, Nat.zero_le _, nil_own _, Ext.refl _ _, by omega, hRR⟩, ?_⟩
  rintro n st w1 ⟨out1, o1, q, rfl, H1, hl1, hq, own1, e1, hfu, hres⟩
  unfold S10L1
  dsimp only
  obtain ⟨n, rfl⟩ : ∃ n', n = n' + 1 := ⟨n - 1, by omega⟩
  unfold allF at hres
  refine (r_number (n := 1) (by omega) hs hq w1).mono ?_
  rintro last q e w2 ⟨hn, e2⟩
  have E2 := e1.tr e2
  rcases hn with ⟨q2, hn, rfl, rfl⟩ | ⟨hn, rfl⟩
  rotate_left
  · rw [hn] at hres
    exact Br.t rfl ⟨by rw [hall, ← hres], E2⟩
  refine Br.f rfl ?_
  rw [hn] at hres
  dsimp only at hres
  obtain ⟨a0, a1, rfl, a3⟩ := num_bd hn
  refine (r_number (n := 2) (by omega) hs (by omega) w2).mono ?_
  rintro kind q e w3 ⟨hn, e3⟩
  have E3 := E2.tr e3
  rcases hn with ⟨q3, hn, rfl, rfl⟩ | ⟨hn, rfl⟩
  rotate_left
  · rw [hn] at hres
    exact Br.t rfl ⟨by rw [hall, ← hres], E3⟩
  refine Br.f rfl ?_
  rw [hn] at hres
  dsimp only at hres
  obtain ⟨b0, b1, rfl, b3⟩ := num_bd hn
  rw [hmost]
  refine (r_block (kind := kind) ((H1.keep e2 fun _ _ h => h).keep e3 fun _ _ h => h) hmb hl1 hs b3).mono ?_
  rintro x q e w4 hx
  rcases hx with ⟨out4, q4, hb, rfl, rfl, H4, e4, own4⟩ | ⟨y, hb, rfl, hy, e4⟩
  rotate_left
  · rw [hb] at hres
    exact Br.t (by simpa using hy) ⟨by rw [hall, ← hres], new_ext E3 own1 e4⟩
  refine Br.f rfl ?_
  rw [hb] at hres
  dsimp only at hres
  obtain ⟨c1, c2, c3⟩ := block_ok b3 hl1 hb
  have E4 := new_ext E3 own1 e4
  refine Br.eq (fun h5 => ?_) fun h5 => ?_
  · rw [if_pos h5] at hres
    refine ⟨_, _, str_row H4, ?_, E4⟩
    rw [hall, ← hres]
    dsimp only
    rw [i64_id (n := (q4 : Int) + 7) (by omega), tdiv_id (by omega), i64_id (by omega)]
    congr 2
  · rw [if_neg h5] at hres
    exact ⟨n, by omega, out4, x, q4, rfl, H4, c3, c2, new_own E3 own1 own4, E4, by omega, hres⟩
end
end Inf
end Go.Proofs.YtapgacggllbhiaaDoor
