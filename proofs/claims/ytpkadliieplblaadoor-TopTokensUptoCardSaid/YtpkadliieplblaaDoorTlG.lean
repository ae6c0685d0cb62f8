/- The lexer: a literal string. Conditions: sizes. -/
import Derived.Test.YtpkadliieplblaaDoorTlF
namespace Go.Proofs.YtpkadliieplblaaDoor
namespace Tl
open Sh Fix Tk Bui Go.Lib
set_option linter.unusedVariables false
set_option linter.unusedSimpArgs false
set_option maxRecDepth 8000
set_option maxHeartbeats 4000000
theorem u8_eq {c d : UInt8} (h : (c.toNat : Int) = (d.toNat : Int)) : c = d := UInt8.toNat_inj.1 (by omega)
theorem no_esc {d : UInt8} (h : d.toNat < 98) : ([110, 114, 116, 98, 102] : By).contains d = false := by
  rw [← Bool.not_eq_true, List.contains_iff_mem]
  intro hm
  simp only [List.mem_cons, List.not_mem_nil, or_false] at hm
  rcases hm with rfl | rfl | rfl | rfl | rfl <;> exact absurd h (by decide)
/-- The value of the first digits. -/
def ov (c : UInt8) : Nat → Nat
  | 0 => 0
  | 1 => c.toNat / 64
  | 2 => c.toNat / 8
  | _ => c.toNat
theorem oct_dig (c : UInt8) {j : Nat} (h : j < 3) : ∃ d : UInt8, (oct3 c)[j]? = some d ∧ 48 ≤ d.toNat ∧ d.toNat ≤ 55 ∧ ov c (j + 1) = 8 * ov c j + (d.toNat - 48) := by
  have hc := byte_lt c
  have v : ∀ x, x < 8 → (UInt8.ofNat (48 + x)).toNat = 48 + x := fun x hx => by rw [UInt8.toNat_ofNat']; omega
  match j, h with
  | 0, _ =>
    refine ⟨_, rfl, ?_⟩
    rw [v _ (by omega)]
    simp only [ov]
    omega
  | 1, _ =>
    refine ⟨_, rfl, ?_⟩
    rw [v _ (by omega)]
    simp only [ov]
    omega
  | 2, _ =>
    refine ⟨_, rfl, ?_⟩
    rw [v _ (by omega)]
    simp only [ov]
    omega
theorem ov_lt (c : UInt8) (j : Nat) : ov c j < 256 := by
  have hc := byte_lt c
  match j with
  | 0 => simp [ov]
  | 1 => simp only [ov]; omega
  | 2 => simp only [ov]; omega
  | j + 3 => simp only [ov]; omega
section
variable {w0 w : World} {s t : ByteArray}
attribute [local irreducible] Ld Sh.St Nw Nn Lt LdS
theorem c_end {i : Nat} {c : UInt8} (x : Int) (hc : (bl s)[i]? = some c) (h13 : c ≠ 13) (h10 : c ≠ 10) (w : World) : C72 (s, x) (i : Int) w fun r b w1 => r = (i : Int) ∧ b = false ∧ Ext (fun _ => False) w w1 := by
  refine T72 (s, x) _ _ _ ?_
  unfold S72
  have hi := (List.getElem?_eq_some_iff.1 hc).1
  rw [bl_size] at hi
  refine (Hn.start w).nw (cs := [.string s, .int .i64 x]) fun w2 H => ?_
  simp only [List.nil_append, add_lit, Nat.zero_add] at H ⊢
  refine H.ld 0 rfl rfl ⟨by omega, by omega, ?_⟩
  rw [bAt_bl hc]
  refine Br.eq (fun q => absurd (u8_eq (d := 13) q) h13) fun _ => ?_
  refine H.ld 0 rfl rfl ⟨by omega, by omega, ?_⟩
  rw [bAt_bl hc]
  exact Br.eq (fun q => absurd (u8_eq (d := 10) q) h10) fun _ => ⟨by trivial, by trivial, H.ext⟩
/-- An escape sequence of String. -/
theorem c_escaped {i : Nat} {c : UInt8} {more tl : By} (x : Int) (hE : escS c = 92 :: tl) (hd : (bl s).drop (i + 1) = tl ++ more) (hi : i + 1 ≤ s.size) (hs : s.size ≤ 1099511627776) (w : World) :
    C73 (s, x) ((i + 1 : Nat) : Int) w fun r to w1 => r = ⟨#[c]⟩ ∧ to = ((i + (escS c).length : Nat) : Int) ∧ Ext (fun _ => False) w w1 := by
  refine T73 (s, x) _ _ _ ?_
  unfold S73
  have hcl := byte_lt c
  have hbs := bl_size s
  have hlen : i + 1 + tl.length + more.length = s.size := by
    have := congrArg List.length hd
    rw [List.length_drop, List.length_append, bl_size] at this
    omega
  have htl : (∃ _ : c = 40 ∨ c = 41 ∨ c = 92, tl = [c]) ∨ tl = oct3 c := by
    unfold escS at hE
    split at hE
    · rename_i h
      exact .inl ⟨h, by injection hE with _ h; exact h.symm⟩
    · rename_i hn
      split at hE
      · exact .inr (by injection hE with _ h; exact h.symm)
      · injection hE with h
        exact absurd (.inr (.inr h)) hn
  refine (Hn.start w).nw (cs := [.string s, .int .i64 x]) fun w2 H => ?_
  simp only [List.nil_append, add_lit, Nat.zero_add] at H ⊢
  have i1 : IntKind.i64.wrap (((i + 1 : Nat) : Int) + 1) = ((i + 2 : Nat) : Int) := by rw [i64_id (by omega)]; rfl
  have i3 : IntKind.i64.wrap (((i + 1 : Nat) : Int) + 3) = ((i + 4 : Nat) : Int) := by rw [i64_id (by omega)]; rfl
  rw [hE]
  rcases htl with ⟨h3, rfl⟩ | rfl
  · have hat : (bl s)[i + 1]? = some c := at_drop (j := 0) hd rfl
    have hlen : i + 1 + 1 + more.length = s.size := hlen
    have hlt : c.toNat < 98 := by rcases h3 with rfl | rfl | rfl <;> decide
    have hoc : ¬ (48 ≤ c.toNat ∧ c.toNat ≤ 55) := by rcases h3 with rfl | rfl | rfl <;> decide
    refine H.ld 0 rfl rfl ⟨by omega, by omega, ?_⟩
    rw [bAt_bl hat]
    refine (c_ixb _ c w2).mono ?_
    rintro r w3 ⟨rfl, rfl⟩
    rw [ix_contains, show bl (⟨#[110, 114, 116, 98, 102]⟩ : ByteArray) = [110, 114, 116, 98, 102] from rfl, no_esc hlt]
    refine Br.f rfl ?_
    iterate 2 refine H.ld 0 rfl rfl ?_
    refine (c_end x hat (by rcases h3 with rfl | rfl | rfl <;> decide) (by rcases h3 with rfl | rfl | rfl <;> decide) _).mono ?_
    rintro r b w4 ⟨rfl, rfl, e4⟩
    have H := H.keep e4
    have J : S73J1 w ((i + 1 : Nat) : Int) (fun r to w1 => r = ⟨#[c]⟩ ∧ to = ((i + [92, c].length : Nat) : Int) ∧ Ext (fun _ => False) w w1) (0, ((i + 1 : Nat) : Int)) w4 := by
      unfold S73J1
      refine Br.dec (fun q => absurd q (by show ¬ ((i + 1 : Nat) : Int) > _; omega)) fun _ => H.ld 0 rfl rfl ?_
      rw [i1]
      refine ⟨by omega, by omega, by omega, by omega, ?_, rfl, H.ext⟩
      rw [← ba_bl (s.extract _ _), bl_ext, Int.toNat_natCast, Int.toNat_natCast, hd, show i + 2 - (i + 1) = 1 by omega]
      rfl
    refine Br.f rfl (Join.intro ⟨fun n st v => st = (0, ((i + 1 : Nat) : Int)) ∧ v = w4, 0, ⟨rfl, rfl⟩, ?_⟩)
    rintro n st v ⟨rfl, rfl⟩
    unfold S73L1
    refine H.ld 0 rfl rfl (Br.dec (fun _ => ?_) fun q => J)
    rw [i3]
    refine Br.dec (fun _ => H.ld 0 rfl rfl ?_) fun q => J
    dsimp only
    have hbat := bAt_bl hat
    rw [bAt_bl hat]
    refine ⟨by omega, by omega, Br.dec (fun q1 => H.ld 0 rfl rfl ?_) fun q => J⟩
    exact ⟨by omega, by omega, Br.dec (fun q2 => absurd ⟨by omega, by omega⟩ hoc) fun q => J⟩
  · have hlen : i + 1 + 3 + more.length = s.size := hlen
    obtain ⟨d0, g0, l0, u0, _⟩ := oct_dig c (j := 0) (by decide)
    have hat : (bl s)[i + 1]? = some d0 := at_drop (j := 0) hd (by rw [List.getElem?_append_left (by show 0 < 3; decide)]; exact g0)
    refine H.ld 0 rfl rfl ⟨by omega, by omega, ?_⟩
    rw [bAt_bl hat]
    refine (c_ixb _ d0 w2).mono ?_
    rintro r w3 ⟨rfl, rfl⟩
    rw [ix_contains, show bl (⟨#[110, 114, 116, 98, 102]⟩ : ByteArray) = [110, 114, 116, 98, 102] from rfl, no_esc (by omega)]
    refine Br.f rfl ?_
    iterate 2 refine H.ld 0 rfl rfl ?_
    refine (c_end x hat (fun e => by subst e; exact absurd l0 (by decide)) (fun e => by subst e; exact absurd l0 (by decide)) _).mono ?_
    rintro r b w4 ⟨rfl, rfl, e4⟩
    have H := H.keep e4
    refine Br.f rfl (Join.intro ⟨fun n st v => ∃ j, j ≤ 3 ∧ n = 3 - j ∧ st = (((ov c j : Nat) : Int), ((i + 1 + j : Nat) : Int)) ∧ v = w4, 3, ⟨0, by omega, rfl, rfl, rfl⟩, ?_⟩)
    rintro n st v ⟨j, hj, rfl, rfl, rfl⟩
    unfold S73L1
    dsimp only
    rw [i3]
    have J : j = 3 → S73J1 w ((i + 1 : Nat) : Int) (fun r to w1 => r = ⟨#[c]⟩ ∧ to = ((i + (92 :: oct3 c).length : Nat) : Int) ∧ Ext (fun _ => False) w w1) (((ov c j : Nat) : Int), ((i + 1 + j : Nat) : Int)) v := by
      rintro rfl
      unfold S73J1
      refine Br.dec (fun _ => Nw.of ?_) fun q => absurd (show ((i + 1 + 3 : Nat) : Int) > ((i + 1 : Nat) : Int) by omega) q
      have e1 : Ext (fun _ => False) v (v.alloc (.cells (bcs [c]).toArray 5)) := (Ext.refl _ _).alloc _
      have R1 : BRow (v.alloc (.cells (bcs [c]).toArray 5)) ⟨some ⟨v.heap.size, 0, none⟩, 1, 1⟩ [c] := Row.new v (bcs [c]).toArray 5 1 1 rfl
      have hov : IntKind.u8.wrap ((ov c 3 : Nat) : Int) = (c.toNat : Int) := u8_id (n := ((c.toNat : Nat) : Int)) (by omega)
      dsimp only
      rw [hov]
      exact ⟨_, _, str_row R1, rfl, rfl, (H.keep e1).ext⟩
    refine H.ld 0 rfl rfl (Br.dec (fun q1 => ?_) fun q => J (by omega))
    refine Br.dec (fun q2 => H.ld 0 rfl rfl ?_) fun q => J (by omega)
    have hj3 : j < 3 := by omega
    obtain ⟨d, g, ld, ud, hv⟩ := oct_dig c hj3
    have hatj : (bl s)[i + 1 + j]? = some d := at_drop (j := j) hd (by rw [List.getElem?_append_left (by show j < 3; omega)]; exact g)
    have hov := ov_lt c j
    have hbat := bAt_bl hatj
    rw [bAt_bl hatj]
    refine ⟨by omega, by omega, Br.dec (fun _ => H.ld 0 rfl rfl ⟨by omega, by omega, Br.dec (fun _ => H.ld 0 rfl rfl ⟨by omega, by omega, Lt.of ?_⟩) fun q => absurd (by omega) q⟩) fun q => absurd (by omega) q⟩
    refine ⟨3 - (j + 1), by omega, j + 1, by omega, rfl, ?_, rfl⟩
    rw [hv, hbat, u8_id (by omega), i64_id (n := 8 * ((ov c j : Nat) : Int)) (by omega), i64_id (n := ((d.toNat : Nat) : Int) - 48) (by omega), i64_id (by omega), i64_id (by omega)]
    congr 1
    omega
end
end Tl
end Go.Proofs.YtpkadliieplblaaDoor
