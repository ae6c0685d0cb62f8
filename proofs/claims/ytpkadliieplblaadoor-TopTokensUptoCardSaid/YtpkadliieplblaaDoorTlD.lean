/- The lexer: told, hex digits, a hexadecimal string, a name. Conditions: sizes. -/
import Derived.Test.YtpkadliieplblaaDoorTlC
import Derived.Test.YtpkadliieplblaaDoorTkI
namespace Go.Proofs.YtpkadliieplblaaDoor
namespace Tl
open Sh Fix Tk Bui Go.Lib
set_option linter.unusedVariables false
set_option linter.unusedSimpArgs false
set_option maxRecDepth 8000
set_option maxHeartbeats 4000000
theorem ior_add {a b i : Nat} (ha : a * 2 ^ i < 9223372036854775808) (hb : b < 2 ^ i) (h2 : a * 2 ^ i + b < 9223372036854775808) : ior .i64 (((a * 2 ^ i : Nat)) : Int) (b : Int) = ((a * 2 ^ i + b : Nat) : Int) := by
  unfold ior
  have e : (BitVec.ofInt IntKind.i64.bits (((a * 2 ^ i : Nat)) : Int) ||| BitVec.ofInt IntKind.i64.bits (b : Int)).toNat = a * 2 ^ i + b := by
    rw [BitVec.toNat_or]
    have hbits : IntKind.i64.bits = 64 := rfl
    have t : ∀ n : Nat, n < 9223372036854775808 → (BitVec.ofInt IntKind.i64.bits (n : Int)).toNat = n := fun n hn => by
      rw [BitVec.toNat_ofInt, hbits]
      omega
    rw [t _ ha, t b (by omega)]
    have h3 := Nat.shiftLeft_add_eq_or_of_lt hb a
    rw [Nat.shiftLeft_eq] at h3
    exact h3.symm
  rw [e]
  exact i64_id (by omega)
/-- Two digits are a byte. -/
theorem two_dig (c : UInt8) : IntKind.u8.wrap (ior .i64 (IntKind.i64.wrap (((c.toNat / 16 : Nat) : Int) * 2 ^ 4)) ((c.toNat % 16 : Nat) : Int)) = (c.toNat : Int) := by
  have hc := byte_lt c
  have e : ((c.toNat / 16 : Nat) : Int) * 2 ^ 4 = ((c.toNat / 16 * 2 ^ 4 : Nat) : Int) := by
    show ((c.toNat / 16 : Nat) : Int) * 16 = ((c.toNat / 16 * 16 : Nat) : Int)
    omega
  rw [e, i64_id (by omega), ior_add (by omega) (by omega) (by omega), u8_id (by omega)]
  show ((c.toNat / 16 * 16 + c.toNat % 16 : Nat) : Int) = _
  omega
theorem hx_val {n : Nat} (h : n < 16) : (hx n).toNat = if n < 10 then 48 + n else 55 + n := by
  unfold hx
  split
  · rw [UInt8.toNat_ofNat']; omega
  · rw [UInt8.toNat_ofNat']; omega
theorem hx_reg {n : Nat} (h : n < 16) : regB (hx n) = true ∧ whB (hx n) = false ∧ hx n ≠ 62 := by
  have : ∀ m : Fin 16, regB (hx m.val) = true ∧ whB (hx m.val) = false ∧ hx m.val ≠ 62 := by decide
  exact this ⟨n, h⟩
theorem hex_len : ∀ l : By, (hexL l).length = 2 * l.length
  | [] => rfl
  | c :: l => by
    have := hex_len l
    unfold hexL at this ⊢
    rw [List.flatMap_cons, List.length_append, this, List.length_cons]
    simp [hx2]
    omega
/-- What follows a part of the bytes that are formatted one by one. -/
theorem flat_drop {f : UInt8 → By} (l rest : By) (k : Nat) : (l.flatMap f ++ rest).drop ((l.take k).flatMap f).length = (l.drop k).flatMap f ++ rest := by
  have h : l.flatMap f = (l.take k).flatMap f ++ (l.drop k).flatMap f := by rw [← List.flatMap_append, List.take_append_drop]
  rw [h, List.append_assoc]
  exact drop_len rfl
theorem at_drop {l : By} {i j : Nat} {t : By} (h : l.drop i = t) {c : UInt8} (hc : t[j]? = some c) : l[i + j]? = some c := by
  rw [← h, List.getElem?_drop] at hc
  exact hc
section
variable {w0 w : World} {s t : ByteArray}
attribute [local irreducible] Ld Sh.St Nw Nn Lt LdS
theorem c_told (x kind to most : Int) (h : ((t.size : Nat) : Int) ≤ most) (w : World) : C68 (s, x) kind to t most w fun r e w1 => r = (kind, x, to, 0, t) ∧ e = 0 ∧ Ext (fun _ => False) w w1 := by
  refine T68 (s, x) _ _ _ _ _ _ ?_
  unfold S68
  refine (Hn.start w).nw (cs := [.string s, .int .i64 x]) fun w2 H => ?_
  refine H.nw (cs := [.int .i64 0, .int .i64 0, .int .i64 0, .int .i64 0, .string ⟨#[]⟩]) fun w3 H => ?_
  simp only [List.cons_append, List.nil_append, add_lit, Nat.zero_add] at H ⊢
  refine Br.dec (fun q => by omega) fun _ => ?_
  refine H.ld 0 rfl rfl ?_
  iterate 5 (refine H.st 1 rfl (by simp) fun _ H => ?_; simp only [List.set_cons_zero, List.set_cons_succ] at H)
  iterate 5 refine H.ld 1 rfl rfl ?_
  exact ⟨rfl, by trivial, H.ext⟩
theorem c_dig {n : Nat} (h : n < 16) (w : World) : C69 ((hx n).toNat : Int) w fun r w1 => r = (n : Int) ∧ w1 = w := by
  refine T69 _ _ _ ?_
  unfold S69
  have hv := hx_val h
  generalize (hx n).toNat = m at hv
  have u8 : ∀ z : Int, 0 ≤ z → z < 256 → IntKind.u8.wrap z = z := fun z h1 h2 => u8_id (by omega)
  by_cases h10 : n < 10
  · rw [if_pos h10] at hv
    refine Br.dec (fun _ => Br.dec (fun _ => ⟨?_, rfl⟩) fun q => absurd q (by omega)) fun q => absurd q (by omega)
    rw [u8 _ (by omega) (by omega), i64_id (by omega)]
    omega
  · rw [if_neg h10] at hv
    refine Br.dec (fun _ => Br.dec (fun q => absurd q (by omega)) fun _ => Br.dec (fun _ => Br.dec (fun _ => ⟨?_, rfl⟩) fun q => absurd q (by omega)) fun q => absurd q (by omega)) fun q => absurd q (by omega)
    rw [u8 _ (by omega) (by omega), i64_id (n := (m : Int) - 65) (by omega), i64_id (by omega)]
    omega
theorem c_unhex (c : UInt8) (ht : bl t = hx2 c) (w : World) : C71 t w fun r e w1 => bl r = [c] ∧ e = 0 ∧ Ext (fun _ => False) w w1 := by
  refine T71 _ _ _ ?_
  unfold S71
  have hc := byte_lt c
  have hts : t.size = 2 := by rw [← bl_size, ht]; rfl
  rw [hts]
  refine Br.ne (fun q => absurd (show Int.tmod ((2 : Nat) : Int) 2 = 0 by decide) q) fun _ => ?_
  obtain ⟨r0, w0, hr0, hR0, he0, ho0⟩ := bytes_make w 0 1 (by omega) (by omega)
  refine ⟨r0, w0, hr0, ?_⟩
  refine ⟨fun n st v => (n = 1 ∧ st = (r0, 0) ∧ v = w0) ∨ (n = 0 ∧ ∃ sl, st = (sl, 2) ∧ BRow v sl [c] ∧ Ext (fun _ => False) w v), 1, .inl ⟨rfl, rfl, rfl⟩, ?_⟩
  rintro n st v (⟨rfl, rfl, rfl⟩ | ⟨rfl, sl, rfl, hR, hE⟩)
  · unfold S71L1
    have b0 : bAt t 0 = ((hx (c.toNat / 16)).toNat : Int) := bAt_bl (i := 0) (by rw [ht]; rfl)
    have b1 : bAt t 1 = ((hx (c.toNat % 16)).toNat : Int) := bAt_bl (i := 1) (by rw [ht]; rfl)
    have i1 : IntKind.i64.wrap (0 + 1) = 1 := by decide
    have i2 : IntKind.i64.wrap (0 + 2) = 2 := by decide
    dsimp only
    rw [hts, i1, i2, b0, b1]
    refine Br.t rfl ⟨by decide, by omega, by decide, by omega, (c_dig (by omega) _).mono ?_⟩
    rintro r v1 ⟨rfl, rfl⟩
    refine (c_dig (by omega) _).mono ?_
    rintro r v1 ⟨rfl, rfl⟩
    refine Br.dec (fun q => absurd q (by omega)) fun _ => Br.dec (fun q => absurd q (by omega)) fun _ => Nw.of ?_
    rw [two_dig]
    have e1 : Ext (fun _ => False) v.drew (v.drew.alloc (.cells (bcs [c]).toArray 5)) := (Ext.refl _ _).alloc _
    have hR' : BRow v.drew r0 (List.replicate 0 0) := hR0.keep (Ext.refl (fun _ => False) v).drew fun _ _ h => h
    obtain ⟨sl', v', hrun, hR', he', ho'⟩ := app_one (ty := 56) (b := c) (hR'.keep e1 fun _ _ h => h) (Blk.new v.drew (bcs [c]).toArray 5) (by simp)
    exact ⟨sl', v', hrun, 0, by omega, .inr ⟨rfl, sl', rfl, hR', Ext.new' (he0.drew.tr e1) he' fun j hj => ho0 j hj⟩⟩
  · unfold S71L1
    dsimp only
    rw [hts]
    refine Br.f rfl ⟨_, _, str_row hR, ?_, rfl, hE⟩
    exact bl_ba _
/-- A hexadecimal string is read. -/
theorem c_hexs {b : Nat} {l rest : By} (hd : (bl s).drop b = hexF l ++ rest) (hb : b ≤ s.size) (hs : s.size ≤ 1099511627776) (hl : l.length ≤ 1000) (w : World) :
    C49 (s, (b : Int)) w fun r e w1 => r = (3, (b : Int), ((b + (hexF l).length : Nat) : Int), 0, ba l) ∧ e = 0 ∧ Ext (fun _ => False) w w1 := by
  refine T49 (s, (b : Int)) _ _ ?_
  unfold S49
  have hbs := bl_size s
  have hba : (ba l).size = l.length := by rw [← bl_size, bl_ba]
  have hlen := hex_len l
  have hF : (hexF l).length = 2 * l.length + 2 := by unfold hexF; rw [List.length_cons, List.length_append, hlen]; rfl
  have hsz : b + (hexF l).length ≤ s.size := by
    have := congrArg List.length hd
    rw [List.length_drop, List.length_append, bl_size] at this
    omega
  have hd1 : (bl s).drop (b + 1) = hexL l ++ 62 :: rest := by
    rw [← List.drop_drop, hd]
    simp [hexF]
  refine (Hn.start w).nw (cs := [.string s, .int .i64 (b : Int)]) fun w2 H => ?_
  refine H.nw (cs := [.int .i64 0, .int .i64 0, .int .i64 0, .int .i64 0, .string ⟨#[]⟩]) fun w3 H => ?_
  simp only [List.cons_append, List.nil_append, add_lit, Nat.zero_add] at H ⊢
  have h23 : w2.heap.size < w3.heap.size := H.lt 1 rfl
  have h12 : w.heap.size < w2.heap.size := by have := H.lt 0 rfl; have := H.ge 1 rfl; have := H.h.nodup; rcases Nat.lt_or_ge w.heap.size w2.heap.size with h | h; exact h; exact absurd (show w.heap.size = w2.heap.size by omega) (by intro e; rw [e] at this; simp [arr] at this)
  refine H.ld 0 rfl rfl ?_
  rw [i64_id (by omega)]
  refine ⟨fun n st v => ∃ (k : Nat) (sl : Slc), k ≤ l.length ∧ BRow v sl (l.take k) ∧ (∀ j, sl.own j → w3.heap.size ≤ j) ∧ Hn w v [(w.heap.size, [.string s, .int .i64 (b : Int)], 81), (w2.heap.size, [.int .i64 0, .int .i64 0, .int .i64 0, .int .i64 0, .string ⟨#[]⟩], 32)] ∧ w3.heap.size ≤ v.heap.size ∧
      ((st = (sl, -1, ((b + 1 + 2 * k : Nat) : Int)) ∧ n = 2 * (l.length - k)) ∨ (∃ c, l[k]? = some c ∧ st = (sl, ((c.toNat / 16 : Nat) : Int), ((b + 1 + 2 * k + 1 : Nat) : Int)) ∧ n + 1 = 2 * (l.length - k))), 2 * l.length,
    ⟨0, ⟨none, 0, 0⟩, by omega, BRow.nil _, (fun j hj => by obtain ⟨a, ha, _⟩ := hj; cases ha), H, Nat.le_refl _, .inl ⟨rfl, rfl⟩⟩, ?_⟩
  rintro n st v ⟨k, sl, hk, hR, ho, H, hz3, hst⟩
  unfold S49L1
  have at2 : ∀ {k : Nat} {c : UInt8}, l[k]? = some c → (bl s)[b + 1 + 2 * k]? = some (hx (c.toNat / 16)) ∧ (bl s)[b + 1 + 2 * k + 1]? = some (hx (c.toNat % 16)) := fun {k c} hc => by
    have h := flat_drop (f := hx2) l (62 :: rest) k
    have h2 : ((l.take k).flatMap hx2).length = 2 * k := by
      have := hex_len (l.take k)
      unfold hexL at this
      rw [this, List.length_take]
      have := (List.getElem?_eq_some_iff.1 hc).1
      omega
    rw [h2, drop_c hc, List.flatMap_cons] at h
    have h3 : (bl s).drop (b + 1 + 2 * k) = hx2 c ++ ((l.drop (k + 1)).flatMap hx2 ++ 62 :: rest) := by
      rw [← List.drop_drop, hd1]
      unfold hexL
      rw [h, List.append_assoc]
    exact ⟨at_drop (j := 0) h3 rfl, at_drop (j := 1) h3 rfl⟩
  have b62 : ∀ {m : Nat}, m < 16 → (((hx m).toNat : Int) == 62) = false := fun {m} hm => by
    rw [beq_eq_false_iff_ne]
    intro h
    exact (hx_reg hm).2.2 (UInt8.toNat_inj.1 (by have : ((62 : UInt8).toNat : Int) = 62 := rfl; omega))
  rcases hst with ⟨rfl, rfl⟩ | ⟨c, hc, rfl, hn⟩
  · dsimp only
    refine H.ld 0 rfl rfl (Br.dec (fun q => H.ld 0 rfl rfl ⟨by omega, by omega, ?_⟩) fun q => absurd (by omega) q)
    by_cases hkl : k < l.length
    · have hc := List.getElem?_eq_getElem hkl
      generalize l[k] = c at hc
      have hlt := byte_lt c
      rw [bAt_bl (at2 hc).1, b62 (by omega)]
      refine Br.f rfl ((c_dig (by omega) v).mono ?_)
      rintro r v1 ⟨rfl, rfl⟩
      refine (c_white _ v1).mono ?_
      rintro r v2 ⟨rfl, rfl⟩
      rw [(hx_reg (show c.toNat / 16 < 16 by omega)).2.1]
      refine Br.f rfl (Br.dec (fun q => absurd q (by omega)) fun _ => Br.dec (fun _ => ?_) fun q => absurd (by decide) q)
      exact ⟨2 * (l.length - k) - 1, by omega, k, sl, hk, hR, ho, H, hz3, .inr ⟨c, hc, by rw [i64_id (by omega)]; rfl, by omega⟩⟩
    · have hkl : k = l.length := by omega
      subst hkl
      have h62 : (bl s)[b + 1 + 2 * l.length]? = some 62 := by
        refine at_drop (j := 2 * l.length) hd1 ?_
        rw [List.getElem?_append_right (by omega), hlen, Nat.sub_self]
        rfl
      rw [bAt_bl h62]
      refine Br.t rfl (Br.dec (fun q => absurd q (by decide)) fun _ => ?_)
      iterate 2 refine H.ld 0 rfl rfl ?_
      rw [List.take_length] at hR
      refine ⟨_, _, str_row hR, ?_⟩
      refine (c_told _ _ _ _ (show (((ba l).size : Nat) : Int) ≤ 32767 by omega) v).mono ?_
      rintro r e v1 ⟨rfl, rfl, he⟩
      have H := H.keep he
      iterate 5 (refine H.st 1 rfl (by simp) fun _ H => ?_; simp only [List.set_cons_zero, List.set_cons_succ] at H)
      iterate 5 refine H.ld 1 rfl rfl ?_
      refine ⟨?_, by trivial, H.ext⟩
      rw [hF, i64_id (by omega)]
      have : ((b + 1 + 2 * l.length : Nat) : Int) + 1 = ((b + (2 * l.length + 2) : Nat) : Int) := by omega
      rw [this]
  · dsimp only
    have hkl := (List.getElem?_eq_some_iff.1 hc).1
    have hlt := byte_lt c
    refine H.ld 0 rfl rfl (Br.dec (fun q => H.ld 0 rfl rfl ⟨by omega, by omega, ?_⟩) fun q => absurd (by omega) q)
    rw [bAt_bl (at2 hc).2, b62 (by omega)]
    refine Br.f rfl ((c_dig (by omega) v).mono ?_)
    rintro r v1 ⟨rfl, rfl⟩
    refine (c_white _ v1).mono ?_
    rintro r v2 ⟨rfl, rfl⟩
    rw [(hx_reg (show c.toNat % 16 < 16 by omega)).2.1]
    refine Br.f rfl (Br.dec (fun q => absurd q (by omega)) fun _ => Br.dec (fun q => absurd q (by omega)) fun _ => Nw.of ?_)
    rw [two_dig]
    have e1 : Ext (fun _ => False) v2 (v2.alloc (.cells (bcs [c]).toArray 5)) := (Ext.refl _ _).alloc _
    obtain ⟨sl', v', hrun, hR', he', ho'⟩ := app_one (ty := 56) (b := c) (hR.keep e1 fun _ _ h => h) (Blk.new v2 (bcs [c]).toArray 5) (by rw [List.length_take]; omega)
    refine ⟨sl', v', hrun, n - 1, by omega, k + 1, sl', by omega, by rw [take_c hc]; exact hR', ?_, ?_, ?_, .inl ⟨by rw [i64_id (by omega)]; congr 2, by omega⟩⟩
    · intro j hj
      rcases ho' j hj with h | h
      · exact ho j h
      · have := e1.size; omega
    · refine (H.keep e1).other he' fun j hj => ?_
      have hj := ho j hj
      refine ⟨by omega, ?_⟩
      simp only [List.map_cons, List.map_nil, List.mem_cons, List.not_mem_nil, or_false]
      omega
    · have := e1.size; have := he'.size; omega
end
end Tl
end Go.Proofs.YtpkadliieplblaaDoor
