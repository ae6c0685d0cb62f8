/- Inflate: the program's table writes; the law's sized and backed. Conditions: sizes. -/
import Derived.Test.YtapgacggllbhiaaCwX
import Derived.Test.YtapgacggllbhiaaBitW
namespace Go.Proofs.Ytapgacggllbhiaa
namespace Inf
open Sh Bit
set_option linter.unusedVariables false
set_option linter.unusedSimpArgs false
set_option maxRecDepth 4000
set_option maxHeartbeats 2000000
theorem put_bit {way : Int} {st : WS} (h : way = 0 ∨ way = 1) {b : Nat} (hb : b ≤ 1) : putR way st (b : Int) 1 1 = (0, oneS 1 st b, 1) := by
  rw [putR_ok (by
    have : (2 : Int) ^ (1 : Int).toNat = 2 := by decide
    rw [this]
    omega)]
  rw [if_pos (by decide)]
  show (0, oneS 1 st (vbit 1 (b : Int).toNat 1 0), 1) = _
  have : vbit 1 (b : Int).toNat 1 0 = b := by
    unfold vbit
    rw [if_pos rfl, Int.toNat_natCast, Nat.pow_zero, Nat.div_one]
    omega
  rw [this]
theorem put_low {way : Int} {st : WS} (h : way = 0 ∨ way = 1) {v n : Nat} (hv : v < 2 ^ n) (hn : n ≤ 24) : putR way st (v : Int) (n : Int) 1 = (0, lw st v n, if 0 < (n : Int) then 1 else way) := by
  have e : ((2 ^ n : Nat) : Int) = 2 ^ n := by simp
  rw [putR_ok (by rw [Int.toNat_natCast]; omega), Int.toNat_natCast, Int.toNat_natCast]
  rfl
theorem codes_get {lens : List Int} {g : Nat} (h : g < lens.length) : (codes lens).getD g 0 = codeL lens g := by
  unfold codes
  rw [List.getD_eq_getElem?_getD, List.getElem?_map, List.getElem?_range h]
  rfl
theorem Wn.of {w w1 : World} {b : Nat} {s : Slc} (h : Ext (fun _ => False) w w1) : Wn w w1 b s s := ⟨h.mono fun _ _ e => e.elim, fun _ h => .inl h⟩
attribute [local irreducible] Ld St Nw Nn Lt LdS
section
variable {w : World} {lo hi tb wb : Nat} {way : Int} {ws : Slc} {st : WS} {lens : List Int}
theorem c_write (ht : TB w lo hi tb lens) (hc : chk lens = 0) (hw : WrB w wb ws way st) (hin : WInv way st) (hway : way = 0 ∨ way = 1) (hsz : st.1.length ≤ 200000000000) (hsep : ∀ j, fp wb ws j → j < lo ∨ hi ≤ j)
    {g n : Nat} (hg : g < lens.length) (hn : lens.getD g 0 = (n : Int)) (h0 : 0 < n) :
    C25 (some (⟨tb, 0, none⟩ : Addr)) (at1 wb) (g : Int) w fun e w1 => e = 0 ∧ ∃ ws', WrB w1 wb ws' 1 (cw lens st g) ∧ Wn w w1 wb ws ws' := by
  refine T25 _ _ _ _ _ ?_
  unfold S25
  obtain ⟨s1, s2, s3, h1, h2, h3, h4, h5, h6, h7, h8, h9⟩ := ht
  obtain ⟨n1, n15, _, c, hcc, hci, _, hlt⟩ := code_of hc hg hn h0
  have hlen := (chk_lok hc).len
  have hok : WOK 1 st := hin.to (by omega)
  refine Br.f rfl (Br.f rfl (Br.f (by simp) (Nn.of (Ld.of h1 (o := 0) (x := s1) rfl ?_))))
  rw [h2.1]
  refine Br.f (by simp; omega) (Nn.of (Ld.of h1 (o := 0) (x := s1) rfl ⟨by omega, by rw [h2.1]; omega, ?_⟩))
  obtain ⟨a, ha, hcell⟩ := h2.get hg
  rw [ha, Int.toNat_natCast]
  refine Nn.of (Ld.mk hcell ?_)
  rw [hn]
  refine Br.f (by simp; omega) ?_
  rw [i64_id (by omega)]
  have e : cw lens st g = Inf.hw st c n n := by unfold cw; rw [hcc, hn, Int.toNat_natCast]
  rw [e]
  refine ⟨fun k s12 w3 => ∃ i : Nat, i ≤ n ∧ k = n - i ∧ s12 = (n : Int) - 1 - (i : Int) ∧ ∃ ws', WrB w3 wb ws' (if i = 0 then way else 1) (Inf.hw st c n i) ∧ Wn w w3 wb ws ws', n, ⟨0, by omega, by omega, by omega, ws, hw, Wn.refl _ _ _⟩, ?_⟩
  rintro k s12 w3 ⟨i, hi, rfl, rfl, ws', hb, hwn⟩
  unfold S25L1
  have hl := hw_len st c n i
  refine Br.dec (fun q => ?_) fun q => ?_
  · have hin' : i < n := by omega
    have hB := hwn.ext.blk h1 fun hf => by have := hsep _ hf; omega
    have hV := h3.keepF hwn.ext fun j hj hf => by have := hsep _ hf; have := h8 j hj; omega
    obtain ⟨a2, ha2, hc2⟩ := hV.get (i := g) (by unfold codes; simpa using hg)
    rw [codes_get hg, ← hci] at hc2
    refine Nn.of ?_
    simp only [add_lit, Nat.zero_add]
    refine Ld.of hB (o := 1) (x := s2) rfl ⟨by omega, by rw [hV.1]; unfold codes; simp; omega, ?_⟩
    rw [ha2, Int.toNat_natCast]
    refine Nn.of (Ld.mk hc2 ⟨by omega, ?_⟩)
    have e3 : ((n : Int) - 1 - (i : Int)).toNat = n - 1 - i := by omega
    have hp15 : 2 ^ n ≤ 2 ^ 15 := Nat.pow_le_pow_right (by decide) n15
    rw [e3, Nat.min_eq_left (by omega), vbit_low c (n - 1 - i) (by omega)]
    have hw2 : (if i = 0 then way else 1) = 0 ∨ (if i = 0 then way else 1) = 1 := by split <;> omega
    have hinv : WInv (if i = 0 then way else 1) (Inf.hw st c n i) := by
      by_cases hi0 : i = 0
      · subst hi0; exact hin
      · rw [if_neg hi0]; exact ⟨hw_ok hok c n i, fun hh => by cases hh⟩
    refine (c_wlow hb hinv (by omega) _ 1).mono ?_
    rw [put_bit hw2 (bit_le _)]
    rintro r w4 ⟨rfl, ws2, hb2, hn2⟩
    refine Br.f rfl ⟨n - (i + 1), by omega, i + 1, by omega, rfl, by rw [i64_id (by omega)]; omega, ws2, ?_, hwn.trans hn2⟩
    rw [if_neg (by omega)]
    exact hb2
  · have : i = n := by omega
    subst this
    rw [if_neg (by omega)] at hb
    exact ⟨rfl, ws', hb, hwn⟩

end
end Inf
end Go.Proofs.Ytapgacggllbhiaa
