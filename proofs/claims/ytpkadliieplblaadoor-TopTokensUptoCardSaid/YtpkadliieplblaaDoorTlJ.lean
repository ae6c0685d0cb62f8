/- TopTokens: the law. Condition: the table of powers of ten is laid. -/
import Derived.Test.YtpkadliieplblaaDoorTlI
namespace Go.Proofs.YtpkadliieplblaaDoor
namespace Tl
open Sh Fix Tk Bui Go.Lib
set_option linter.unusedVariables false
set_option linter.unusedSimpArgs false
set_option maxRecDepth 8000
set_option maxHeartbeats 4000000
section
variable {w w' w1 : World} {s t : ByteArray}
attribute [local irreducible] Ld Sh.St Nw Nn Lt LdS
theorem c_six (s : ByteArray) (c : UInt8) (w : World) : C27 s (⟨#[c]⟩ : ByteArray) w fun r w1 => r = indexByte (bl s) c ∧ w1 = w :=
  (Tryd.strings_Index_one s c w).mono fun e w' h => ⟨_, h.1, rfl, h.2⟩
theorem ib_le : ∀ (l : By) (c : UInt8), indexByte l c ≤ (l.length : Int)
  | [], c => by simp [indexByte]
  | d :: l, c => by
    have := ib_le l c
    unfold indexByte
    simp only [List.length_cons]
    split
    · omega
    · split <;> omega
theorem c_find0 (hz : 0 ∈ bl s) (hs : s.size ≤ 1000) (w : World) : C12 s (⟨#[0]⟩ : ByteArray) 0 w fun r w1 => 0 ≤ r ∧ Ext (fun _ => False) w w1 := by
  refine T12 _ _ _ _ _ ?_
  unfold S12
  have e0 : (if (0 : Int) > 0 then (0 : Int) else 0) = 0 := by decide
  rw [e0]
  rw [eqL]
  refine Br.f (decide_eq_false (by decide)) (Br.dec (fun h => by omega) fun _ => ⟨by decide, by omega, ?_⟩)
  have ex : s.extract ((0 : Int).toNat) s.size = s := by
    rw [← ba_bl (s.extract _ _), bl_ext, ← bl_size, show (0 : Int).toNat = 0 from rfl, List.drop_zero, Nat.sub_zero, List.take_length, ba_bl]
  rw [ex]
  refine (c_six s 0 w).mono ?_
  rintro r w1 ⟨rfl, rfl⟩
  have h := ix_contains (bl s) 0
  rw [List.contains_iff_mem.2 hz, decide_eq_true_eq] at h
  have hlt : indexByte (bl s) 0 ≤ (s.size : Int) := by
    have := ib_le (bl s) 0
    rw [bl_size] at this
    exact this
  refine Br.dec (fun _ => ⟨?_, Ext.refl _ _⟩) fun q => absurd h q
  rw [i64_id (by omega)]
  omega
theorem tokens_law (n u : Int) (s nm : ByteArray) (hn0 : -9223372036854775808 ≤ n) (hn1 : n ≤ 9223372036854775807) (w : World) (hT : PT w) {R : Bool → World → Prop} (hR : ∀ w1, Ext (fun _ => False) w w1 → R true w1) : C4 n u s nm w R fun _ _ => False := by
  refine T4 _ _ _ _ _ _ _ ?_
  unfold S4
  refine (c_all toks_three (by simp) w).mono ?_
  rintro r12 r13 w2 ⟨v12, rfl, e2⟩
  have n12 : r12.len = 3 := v12.1
  refine (Hn.start w2).nw (cs := [.int .i64 0, .int .i64 0]) fun w3 H => ?_
  simp only [List.nil_append, add_lit, Nat.zero_add] at H ⊢
  iterate 2 (refine H.st 0 rfl (by simp) fun _ H => ?_; simp only [List.set_cons_zero, List.set_cons_succ] at H)
  rw [n12]
  refine Br.f rfl (H.ld 0 rfl rfl (Br.f rfl (Br.dec (fun _ => hR _ (e2.tr H.ext)) fun hs => Br.dec (fun _ => hR _ (e2.tr H.ext)) fun hnm => ?_)))
  have hss : s.size ≤ 1000 := by omega
  have hns : nm.size ≤ 100 := by omega
  have E := e2.tr H.ext
  have hT := hT.keep E
  clear H v12
  refine (c_int hn0 hn1 hT).mono ?_ fun _ _ h => h
  rintro a w1 wa ⟨ha, ea⟩
  have E := E.tr ea
  refine (c_real u wa).mono ?_
  rintro b w2' wb ⟨hb, eb⟩
  have E := E.tr eb
  refine (c_string hss wb).mono ?_ fun _ _ h => h
  rintro c w3' wc ⟨rfl, hc, ec⟩
  have E := E.tr ec
  refine (c_name hns wc).mono ?_ fun _ _ h => h
  rintro d w4 wd ⟨hd, ed⟩
  have E := E.tr ed
  refine (c_phex hss wd).mono ?_
  rintro g w5 we ⟨rfl, hg, eg⟩
  have E := E.tr eg
  -- an error
  have bad : (n < -2147483647 ∨ n > 2147483647) ∨ inW u = false ∨ 0 ∈ bl nm → Br (decide (n < (-2147483647))) (R true we) (Br (decide (n > 2147483647)) (R true we) (Br (decide (u < (-1073741824))) (R true we) (Br (decide (u > 1073741824)) (R true we) (C12 nm (⟨#[0]⟩ : ByteArray) 0 we fun r52 vw53 => R (decide (r52 ≥ 0)) vw53)))) := by
    intro h
    refine Br.dec (fun _ => hR _ E) fun h1 => Br.dec (fun _ => hR _ E) fun h2 => Br.dec (fun _ => hR _ E) fun h3 => Br.dec (fun _ => hR _ E) fun h4 => ?_
    have hz : 0 ∈ bl nm := by
      rcases h with h | h | h
      · omega
      · rw [inW_no] at h; omega
      · exact h
    refine (c_find0 hz (by omega) we).mono ?_
    rintro r w6 ⟨hr, e6⟩
    rw [decide_eq_true hr]
    exact hR _ (E.tr e6)
  rcases ha with ⟨rfl, hn2, hn3, DA, hA⟩ | ⟨rfl, hn⟩
  rotate_left
  · exact Br.t rfl (bad (.inl hn))
  refine Br.f rfl ?_
  rcases hb with ⟨rfl, hu, W, P, hB⟩ | ⟨rfl, hu⟩
  rotate_left
  · exact Br.t rfl (bad (.inr (.inl hu)))
  refine Br.f rfl (Br.f rfl ?_)
  rcases hd with ⟨rfl, h0, hd⟩ | ⟨rfl, h0⟩
  rotate_left
  · exact Br.t rfl (bad (.inr (.inr h0)))
  refine Br.f rfl (Br.f rfl ?_)
  clear bad
  have la := hA.len
  have lb := hB.len.1
  rw [bl_size] at la lb
  have a21 := hA.d21
  have las : a.size ≤ 22 := by split at la <;> omega
  have hxs : hexL (bl s) = (bl s).flatMap hx2 := rfl
  have lc : c.size ≤ 4002 := by
    have := flat_len escS_len (bl s)
    rw [bl_size] at this
    rw [← bl_size, hc]
    unfold strF
    simp only [List.length_cons, List.length_append, List.length_nil]
    omega
  have ld : d.size ≤ 301 := by
    have := flat_len escN_len (bl nm)
    rw [bl_size] at this
    rw [← bl_size, hd]
    unfold nameF
    simp only [List.length_cons]
    omega
  have lg : g.size ≤ 2002 := by
    have := hex_len (bl s)
    rw [bl_size] at this
    rw [← bl_size, hg]
    unfold hexF
    simp only [List.length_cons, List.length_append, List.length_nil, this]
    omega
  refine Nw.of ?_
  have e7 : Ext (fun _ => False) we (we.alloc (.cells #[.string a, .string b, .string c, .string d, .string g, .string ((⟨#[111, 98, 106]⟩ : ByteArray))] 9)) := (Ext.refl _ _).alloc _
  have hblk := Blk.new we #[.string a, .string b, .string c, .string d, .string g, .string ((⟨#[111, 98, 106]⟩ : ByteArray))] 9
  have hV : VRow (we.alloc (.cells #[.string a, .string b, .string c, .string d, .string g, .string ((⟨#[111, 98, 106]⟩ : ByteArray))] 9)) ⟨some ⟨we.heap.size, 0, none⟩, 6, 6⟩ 1 ([a, b, c, d, g, (⟨#[111, 98, 106]⟩ : ByteArray)].map Value.string) := VRow.of hblk rfl
  generalize we.alloc (.cells #[.string a, .string b, .string c, .string d, .string g, .string ((⟨#[111, 98, 106]⟩ : ByteArray))] 9) = w7 at e7 hblk hV ⊢
  have E := E.tr e7
  refine (c_join hV (by simp) (by
    intro x hx
    simp only [List.mem_cons, List.not_mem_nil, or_false] at hx
    rcases hx with rfl | rfl | rfl | rfl | rfl | rfl <;> first | omega | decide)).mono ?_
  rintro j w8 ⟨hj, e8⟩
  have E := E.tr e8
  have hne : ∀ {t D : By} {n : Int}, IntT n t D → t ≠ [] := fun h e => by obtain ⟨c, T', h⟩ := h.head; rw [h] at e; cases e
  have hneb : bl b ≠ [] := fun e => by have := hB.len.2; rw [e] at this; simp at this
  have hj2 : bl j = bl a ++ 32 :: (bl b ++ (strF (bl s) ++ (nameF (bl nm) ++ (hexF (bl s) ++ objB)))) := by
    rw [hj]
    refine Eq.trans ?_ (join_six (hne hA) hneb hA.reg hB.reg (bl s) (bl nm))
    show joinF 32 [bl a, bl b, bl c, bl d, bl g, _] = _
    rw [hc, hd, hg]
  have js : j.size ≤ 1099511627776 := by
    have h1 := hex_len (bl s)
    have h2 := flat_len escN_len (bl nm)
    have h3 := flat_len escS_len (bl s)
    rw [bl_size] at h1 h2 h3
    rw [← bl_size, hj2]
    unfold strF nameF hexF
    simp only [List.length_append, List.length_cons, List.length_nil, bl_size, h1, objB]
    omega
  obtain ⟨L, hL, hm⟩ := toks_six hA hn2 hn3 hB hu (by rw [bl_size]; omega) (by rw [bl_size]; omega) h0 js hj2
  have hlen : L.length = 6 := by
    have := congrArg List.length hm
    simpa using this
  refine (c_all hL (by omega) w8).mono ?_
  rintro r57 r58 w9 ⟨v9, rfl, e9⟩
  have E := E.tr e9
  refine (Hn.start w9).nw (cs := [.int .i64 0, .int .i64 0]) fun w10 H => ?_
  simp only [List.nil_append, add_lit, Nat.zero_add] at H ⊢
  iterate 2 (refine H.st 0 rfl (by simp) fun _ H => ?_; simp only [List.set_cons_zero, List.set_cons_succ] at H)
  have n57 : r57.len = 6 := by rw [v9.1, hlen]
  rw [n57]
  refine H.ld 0 rfl rfl (Br.f rfl (Br.f rfl ?_))
  have v9 := v9.keep H.ext
  have EF := E.tr H.ext
  have tk : ∀ (i : Nat) (x : Int × Int × ByteArray), ([(1, n, ⟨#[]⟩), (2, u, ⟨#[]⟩), (3, 0, ba (bl s)), (4, 0, ba (bl nm)), (3, 0, ba (bl s)), (5, 0, ba objB)] : List (Int × Int × ByteArray))[i]? = some x → ∃ t : TT, L[i]? = some t ∧ (t.1, t.2.2.2) = x := fun i x hx => by
    rw [← hm, List.getElem?_map, Option.map_eq_some_iff] at hx
    exact hx
  obtain ⟨t0, g0, h0'⟩ := tk 0 _ rfl
  obtain ⟨t1, g1, h1'⟩ := tk 1 _ rfl
  obtain ⟨t2, g2, h2'⟩ := tk 2 _ rfl
  obtain ⟨t3, g3, h3'⟩ := tk 3 _ rfl
  obtain ⟨t4, g4, h4'⟩ := tk 4 _ rfl
  obtain ⟨t5, g5, h5'⟩ := tk 5 _ rfl
  obtain ⟨A, hA', c0⟩ := v9.get g0
  obtain ⟨A', hA2, c1⟩ := v9.get g1
  rw [hA'] at hA2; cases hA2
  obtain ⟨A', hA2, c2⟩ := v9.get g2
  rw [hA'] at hA2; cases hA2
  obtain ⟨A', hA2, c3⟩ := v9.get g3
  rw [hA'] at hA2; cases hA2
  obtain ⟨A', hA2, c4⟩ := v9.get g4
  rw [hA'] at hA2; cases hA2
  obtain ⟨A', hA2, c5⟩ := v9.get g5
  rw [hA'] at hA2; cases hA2
  rw [hA']
  simp only [Prod.mk.injEq] at h0' h1' h2' h3' h4' h5'
  have k0 := c0 0 _ rfl
  have k0' := c0 3 _ rfl
  have k1 := c1 0 _ rfl
  have k1' := c1 3 _ rfl
  have k2 := c2 0 _ rfl
  have k2' := c2 4 _ rfl
  have k3 := c3 0 _ rfl
  have k3' := c3 4 _ rfl
  have k4 := c4 0 _ rfl
  have k4' := c4 4 _ rfl
  have k5 := c5 0 _ rfl
  have k5' := c5 4 _ rfl
  rw [h0'.1] at k0
  rw [congrArg Prod.fst h0'.2] at k0'
  rw [h1'.1] at k1
  rw [congrArg Prod.fst h1'.2] at k1'
  rw [h2'.1] at k2
  rw [congrArg Prod.snd h2'.2, ba_bl] at k2'
  rw [h3'.1] at k3
  rw [congrArg Prod.snd h3'.2, ba_bl] at k3'
  rw [h4'.1] at k4
  rw [congrArg Prod.snd h4'.2, ba_bl] at k4'
  rw [h5'.1] at k5
  rw [congrArg Prod.snd h5'.2] at k5'
  refine ⟨by decide, by decide, Nn.of (Ld.mk (x := (1 : Int)) k0 (Br.t rfl ⟨by decide, by decide, Nn.of (Ld.mk (x := n) k0' (Br.t (by simp) ?_))⟩))⟩
  refine ⟨by decide, by decide, Nn.of (Ld.mk (x := (2 : Int)) k1 (Br.t rfl ⟨by decide, by decide, Nn.of (Ld.mk (x := u) k1' (Br.t (by simp) ?_))⟩))⟩
  refine ⟨by decide, by decide, Nn.of (Ld.mk (x := (3 : Int)) k2 (Br.t rfl ⟨by decide, by decide, Nn.of (Ld.mk (x := s) k2' (Br.t (by simp) ?_))⟩))⟩
  refine ⟨by decide, by decide, Nn.of (Ld.mk (x := (4 : Int)) k3 (Br.t rfl ⟨by decide, by decide, Nn.of (Ld.mk (x := nm) k3' (Br.t (by simp) ?_))⟩))⟩
  refine ⟨by decide, by decide, Nn.of (Ld.mk (x := (3 : Int)) k4 (Br.t rfl ⟨by decide, by decide, Nn.of (Ld.mk (x := s) k4' (Br.t (by simp) ?_))⟩))⟩
  refine ⟨by decide, by decide, Nn.of (Ld.mk (x := (5 : Int)) k5 (Br.t rfl ⟨by decide, by decide, Nn.of (Ld.mk (x := ba objB) k5' ?_)⟩))⟩
  rw [eqL, decide_eq_true (show (ba objB).data.toList = (⟨#[111, 98, 106]⟩ : ByteArray).data.toList from rfl)]
  exact hR _ EF
end
end Tl
end Go.Proofs.YtpkadliieplblaaDoor
