/- Codes: laws CodeLeast and CodeNobody. Conditions: none. -/
import Derived.Test.YtapgacggllbhiaaCdC
namespace Go.Proofs.Ytapgacggllbhiaa
namespace Cd
open Sh Pm Inf Bit
set_option linter.unusedVariables false
set_option linter.unusedSimpArgs false
set_option maxRecDepth 4000
set_option maxHeartbeats 4000000
theorem why_zero {c : List Int} {most : Int} (h : why c most = 0) : c.length ≤ 288 ∧ 1 ≤ most ∧ most ≤ 15 ∧ ∀ i, i < c.length → 0 ≤ c.getD i 0 ∧ c.getD i 0 ≤ 2147483647 := by
  have h1 : c.length ≤ 288 := by
    rcases Nat.lt_or_ge 288 c.length with q | q
    · unfold why at h
      rw [if_pos q] at h
      cases h
    · exact q
  have h2 : ¬ (most < 1 ∨ 15 < most) := fun q => by
    unfold why at h
    rw [if_neg (by omega), if_pos q] at h
    cases h
  refine ⟨h1, by omega, by omega, fun i hi => ?_⟩
  rcases Classical.em (c.getD i 0 < 0 ∨ 2147483647 < c.getD i 0) with q | q
  · rw [Srt.why_arg h1 (by omega) hi q] at h
    cases h
  · omega
attribute [local irreducible] Ld St Nw Nn Lt LdS
section
variable {w w1 : World} {s s2 : Slc} {l c : List Int}
theorem least_law (h : IV w s c) (most : Int) : C4 s most w (fun r w1 => r = true ∧ Ext (fun _ => False) w w1) fun _ _ => False := by
  refine T4 _ _ _ _ _ ?_
  unfold S4
  have h1 := h.1
  have lv : ∀ {w1 : World}, Ext (fun _ => False) w w1 → C8 w1 (fun r w2 => r = true ∧ Ext (fun _ => False) w w2) fun _ _ => False := fun he => (c_lives _).mono (fun r w2 ⟨hr, h2⟩ => ⟨hr, he.tr h2⟩) fun _ _ h => h
  refine ⟨fun (_ : Unit) w1 => w1 = w, ?_, ?_⟩
  rotate_left
  · exact Br.dec (fun q => Br.dec (fun q2 => lv (Ext.refl _ _)) fun q2 => rfl) fun q => rfl
  rintro _ w0 hw0
  rw [hw0]
  clear hw0
  unfold S4J1
  dsimp only
  refine (Srt.c_lengths (most := most) h).mono ?_ fun _ _ h => h
  rintro r e w1 ⟨rfl, e1, hz, hl⟩
  refine (r_counts (most := most) (h.keep e1)).mono ?_
  rintro v w1 ⟨rfl, rfl⟩
  refine Br.ne (fun q => Srt.Br.t (by simp) (Srt.Br.t (by rw [hz q]; rfl) (lv e1))) fun q => ?_
  obtain ⟨l, il, hlr⟩ := hl q
  obtain ⟨y1, y2, y3, y4⟩ := why_zero q
  obtain ⟨mo, rfl⟩ : ∃ mo : Nat, most = (mo : Int) := ⟨most.toNat, by omega⟩
  rw [Int.toNat_natCast] at hlr
  have hll := il.1
  rw [hlr.len] at hll
  refine Br.ne (fun q2 => absurd q q2) fun _ => Br.ne (fun q2 => by omega) fun _ => ?_
  refine (r_chk il).mono ?_
  rintro v w1 ⟨rfl, rfl⟩
  refine Br.ne (fun q2 => absurd hlr.chk q2) fun _ => ?_
  refine ⟨fun n st w2 => ∃ i : Nat, st = (i : Int) ∧ i ≤ c.length ∧ n = c.length - i ∧ Ext (fun _ => False) w1 w2, c.length, ⟨0, rfl, by omega, rfl, Ext.refl _ _⟩, ?_⟩
  rintro n st w2 ⟨i, rfl, hi, rfl, e2⟩
  unfold S4L1
  rw [hll, h1]
  refine Br.dec (fun q => ⟨by omega, by omega, ?_⟩) fun q => ?_
  · have hlt : i < c.length := by omega
    obtain ⟨a, ha, hcell⟩ := (il.keep e2.drew).get (i := i) (by rw [hlr.len]; exact hlt)
    obtain ⟨a2, ha2, hcell2⟩ := ((h.keep e1).keep e2.drew).get hlt
    obtain ⟨m1, m2, m3⟩ := hlr.most i hlt
    rw [ha, ha2, Int.toNat_natCast, i64_id (n := (i : Int) + 1) (by omega)]
    refine Nn.of (Ld.mk hcell (Br.dec (fun q2 => by omega) fun q2 => ⟨by omega, by omega, Nn.of (Ld.mk hcell ⟨by omega, by omega, Nn.of (Ld.mk hcell2 ?_)⟩)⟩))
    refine Srt.Br.f ?_ ⟨c.length - (i + 1), by omega, i + 1, rfl, by omega, rfl, e2.drew⟩
    by_cases hz0 : c.getD i 0 = 0
    · rw [m3.2 hz0, hz0]
      rfl
    · have hz1 : l.getD i 0 ≠ 0 := fun hh => hz0 (m3.1 hh)
      have b1 : (l.getD i 0 == 0) = false := by rw [beq_eq_false_iff_ne]; exact hz1
      have b2 : (c.getD i 0 == 0) = false := by rw [beq_eq_false_iff_ne]; exact hz0
      rw [b1, b2]
      rfl
  · refine (r_cost (il.keep e2) ((h.keep e1).keep e2) (by rw [hlr.len]; omega)).mono ?_
    rintro r w3 ⟨rfl, e3⟩
    refine (r_least (mo := mo) (((h.keep e1).keep e2).keep e3) y1 y4 (by omega) (by omega)).mono ?_
    rintro r w4 ⟨rfl, e4⟩
    refine Srt.Br.t (beq_yes ?_) (lv (e1.tr (e2.tr (e3.tr e4))))
    rw [hlr.len, Nat.min_self]
    exact hlr.cost
theorem nobody_law (b : ByteArray) (sign : Int) : C7 b sign w (fun r w1 => r = true ∧ Ext (fun _ => False) w w1) fun _ _ => False := by
  refine T7 _ _ _ _ _ ?_
  unfold S7
  have lv : ∀ {w1 : World}, Ext (fun _ => False) w w1 → C8 w1 (fun r w2 => r = true ∧ Ext (fun _ => False) w w2) fun _ _ => False := fun he => (c_lives _).mono (fun r w2 ⟨hr, h2⟩ => ⟨hr, he.tr h2⟩) fun _ _ h => h
  refine Br.dec (fun q => lv (Ext.refl _ _)) fun q => ?_
  have hs : b.size ≤ 100 := by omega
  refine (Bit.c_from w b).mono ?_
  rintro rr w1 ⟨rfl, hr, e1⟩
  refine (Bit.c_new w1).mono ?_
  rintro rw w2 ⟨rfl, hw, e2⟩
  refine lit (l := [1, 1]) w2 rfl fun w3 i3 e3 => ?_
  refine (Inf.c_new i3).mono ?_
  rintro rt e w4 ⟨rfl, e4, _, ht⟩
  have k1 : chk [1, 1] = 0 := by decide +kernel
  obtain ⟨tb, rfl, htb⟩ := ht k1
  rw [k1]
  have E4 := e1.tr (e2.tr (e3.tr e4))
  refine Srt.Br.f rfl (Srt.Br.f rfl ?_)
  have t1 : ∀ (x : Option Addr) (w : World), C21 none x w fun a e w1 => e = 1 ∧ w1 = w := fun x w => T21 _ _ _ _ (by unfold S21; exact Srt.Br.t rfl ⟨rfl, rfl⟩)
  have t2 : ∀ (w : World), C21 (some ⟨tb, 0, none⟩) none w fun a e w1 => e = 1 ∧ w1 = w := fun w => T21 _ _ _ _ (by unfold S21; exact Srt.Br.f rfl (Srt.Br.t rfl ⟨rfl, rfl⟩))
  have t3 : ∀ (x : Option Addr) (w : World), C25 none x sign w fun e w1 => e = 1 ∧ w1 = w := fun x w => T25 _ _ _ _ _ (by unfold S25; exact Srt.Br.t rfl ⟨rfl, rfl⟩)
  have t4 : ∀ (w : World), C25 (some ⟨tb, 0, none⟩) none sign w fun e w1 => e = 1 ∧ w1 = w := fun w => T25 _ _ _ _ _ (by unfold S25; exact Srt.Br.f rfl (Srt.Br.t rfl ⟨rfl, rfl⟩))
  refine (t1 _ _).mono ?_
  rintro a e w4 ⟨rfl, rfl⟩
  refine (t2 _).mono ?_
  rintro a e w4 ⟨rfl, rfl⟩
  refine Srt.Br.t rfl (Srt.Br.t rfl ((t3 _ _).mono ?_))
  rintro e w4 ⟨rfl, rfl⟩
  refine Srt.Br.t rfl ((t4 _).mono ?_)
  rintro e w4 ⟨rfl, rfl⟩
  refine Srt.Br.t rfl ?_
  have hr4 : RdB w4 w.heap.size b 0 0 := (e2.tr (e3.tr e4)).blk hr id
  refine (c_left hr4 (Nat.zero_le _) (by omega)).mono ?_
  rintro x w5 ⟨rfl, rfl⟩
  refine Srt.Br.t (beq_yes ?_) ?_
  · rw [i64_id (by omega)]
    omega
  have hw4 := (hw.keep (e3.tr e4).drew fun _ _ h => h)
  refine (c_wlen hw4).mono ?_
  rintro x w5 ⟨rfl, rfl⟩
  exact Srt.Br.t rfl (lv E4.drew)
end
end Cd
end Go.Proofs.Ytapgacggllbhiaa
