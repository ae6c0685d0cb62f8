/- What the reference's writer does, call by call. Conditions: the writer is not nil, it holds at most 2^38 bytes. -/
import Derived.Test.YtjlaijhmnlkpiaaBitW
namespace Go.Proofs.Ytjlaijhmnlkpiaa
namespace Bit
open Sh
set_option linter.unusedVariables false
set_option linter.unusedSimpArgs false

section
variable {w w2 : World} {b : Nat} {s : Slc} {way : Int} {st : List UInt8 × Nat}

theorem r_new (w : World) : C72 w fun r w1 => r = at1 w.heap.size ∧ WrR w1 w.heap.size ⟨none, 0, 0⟩ 0 ([], 0) ∧ Ext (fun _ => False) w w1 := by
  refine T72 _ _ ?_
  unfold S72
  refine (Hx.start w (fun _ => False)).nw fun w2 H => ⟨rfl, ⟨H.get 0 rfl, BRow.nil _, ?_⟩, H.ext⟩
  rintro ⟨a, ha, _⟩
  cases ha
theorem vbitR (v i : Nat) : Int.tmod (Int.fdiv (v : Int) (2 ^ i)) 2 = ((v / 2 ^ i % 2 : Nat) : Int) := by
  have h := @ediv_pow_bd (v : Int) i (by omega)
  rw [fdiv_pow, tmod_id h.1]
  simp
theorem newByteR {w' : Int} (h : WOK w' st) {x : Nat} (hx : x ≤ 1) :
    IntKind.u8.wrap (((lastN (grow st) : Nat) : Int) + IntKind.u8.wrap (IntKind.i64.wrap ((x : Int) * 2 ^ min (((pl w' st.2 : Nat) : Int)).toNat 64))) =
      (((UInt8.ofNat (lastN (grow st) + x * 2 ^ pl w' st.2)).toNat : Nat) : Int) := by
  obtain ⟨h1, h2, h3⟩ := place_new h hx
  have hlt := h.lt
  have hp : pl w' st.2 ≤ 7 := by unfold pl; split <;> omega
  have e : ((x : Int) * 2 ^ min (((pl w' st.2 : Nat) : Int)).toNat 64) = ((x * 2 ^ pl w' st.2 : Nat) : Int) := by
    rw [Int.toNat_natCast, Nat.min_eq_left (by omega)]
    simp
  rw [e, i64_id (by omega), u8_id (n := ((x * 2 ^ pl w' st.2 : Nat) : Int)) (by omega), u8_id (by omega), UInt8.toNat_ofNat_of_lt' h1]
  simp

theorem r_put (h : WrR w b s way st) (hi : WInv way st) (hsz : st.1.length ≤ 274877906944) (v n : Int) {w' : Int} (hw' : w' = 1 ∨ w' = 2) :
    C94 (at1 b) v n w' w fun e w1 => e = (putR way st v n w').1 ∧ ∃ s', WrR w1 b s' (putR way st v n w').2.2 (putR way st v n w').2.1 ∧ Wn w w1 b s s' := by
  refine T94 _ _ _ _ _ _ ?_
  unfold S94
  have no : (n < 0 ∨ 24 < n ∨ v < 0 ∨ 2 ^ n.toNat ≤ v ∨ (way ≠ 0 ∧ way ≠ w')) → (1 : Int) = (putR way st v n w').1 ∧ ∃ s', WrR w b s' (putR way st v n w').2.2 (putR way st v n w').2.1 ∧ Wn w w b s s' := fun hc => by
    rw [putR_arg hc]; exact ⟨rfl, s, h, Wn.refl _ _ _⟩
  refine Join.intro (Br_of (fun e => ?_) fun _ => Br_of (fun e => ?_) fun e1 => Br_of (fun e => ?_) fun e2 => Br_of (fun e => ?_) fun e3 => ⟨by simpa using e1, Br_of (fun e => ?_) fun e4 => ?_⟩)
  · cases e
  · exact no (.inl (by simpa using e))
  · exact no (.inr (.inl (by simpa using e)))
  · exact no (.inr (.inr (.inl (by simpa using e))))
  all_goals
    have h0 : ¬ n < 0 := by simpa using e1
    have h24 : n ≤ 24 := by simpa using e2
    have hv0 : ¬ v < 0 := by simpa using e3
    obtain ⟨m, rfl⟩ := Int.eq_ofNat_of_zero_le (show 0 ≤ n by omega)
    obtain ⟨u, rfl⟩ := Int.eq_ofNat_of_zero_le (show 0 ≤ v by omega)
    have hp24 := two_pow_24 (show m ≤ 24 by omega)
    have hpp := two_pow_pos m
    have hwr : IntKind.i64.wrap (1 * 2 ^ min ((m : Int)).toNat 64) = 2 ^ m := by
      rw [Int.toNat_natCast, Nat.min_eq_left (by omega), Int.one_mul, i64_id (by omega)]
  · have e : (2 : Int) ^ m ≤ (u : Int) := by rw [hwr] at e; simpa using e
    exact no (.inr (.inr (.inr (.inl (by rw [Int.toNat_natCast]; exact e)))))
  have hlt : (u : Int) < 2 ^ m := by rw [hwr] at e4; simpa using e4
  have go : ¬ (way ≠ 0 ∧ way ≠ w') → S94J2 (at1 b) u m w' (fun e w1 => e = (putR way st u m w').1 ∧ ∃ s', WrR w1 b s' (putR way st u m w').2.2 (putR way st u m w').2.1 ∧ Wn w w1 b s s') () w := fun hno => by
    have hall : ¬ ((m : Int) < 0 ∨ 24 < (m : Int) ∨ (u : Int) < 0 ∨ 2 ^ ((m : Int)).toNat ≤ (u : Int) ∨ (way ≠ 0 ∧ way ≠ w')) := by
      rw [Int.toNat_natCast]; omega
    have hok := hi.to hno
    rw [putR_ok hall, Int.toNat_natCast, Int.toNat_natCast]
    have hu24 : u < 16777216 := by omega
    unfold S94J2
    refine ⟨fun k i w3 => ∃ j : Nat, j ≤ m ∧ k = m - j ∧ i = (j : Int) ∧ ∃ s', WrR w3 b s' (if 0 < (j : Int) then w' else way) (putS w' u m st j) ∧ Wn w w3 b s s', m, ⟨0, by omega, by omega, rfl, s, h, Wn.refl _ _ _⟩, ?_⟩
    rintro k i w3 ⟨j, hj, rfl, rfl, s', hb, hn⟩
    unfold S94L1
    have hokj := hok.put u m j
    have hlen := putS_len w' u m st j
    refine Br_of (fun e => ?_) fun e => ?_
    · have hjm : j < m := by simpa using e
      have hlt8 := hokj.lt
      have tail : ∀ (w4 : World) (s1 : Slc), Blk w4 b #[Slc.v s1, .int .i64 (((putS w' u m st j).2 : Nat) : Int), .int .i64 (if 0 < (j : Int) then w' else way)] 133 → BRow w4 s1 (grow (putS w' u m st j)) → ¬ s1.own b → Wn w w4 b s s1 →
          S94J1 (at1 b) u m w' (j : Int) (fun s' w'_1 => ∃ n', n' < m - j ∧ ∃ j : Nat, j ≤ m ∧ n' = m - j ∧ s' = (j : Int) ∧ ∃ s'_1, WrR w'_1 b s'_1 (if 0 < (j : Int) then w' else way) (putS w' u m st j) ∧ Wn w w'_1 b s s'_1) () w4 := fun w4 s1 hb4 hrow ho1 hn4 => by
        unfold S94J1
        have HD : Hx w4 (fp b s1) w4.drew _ := (Hx.one hb4).drew
        have hrow := hrow.keep (Ext.refl (fun _ => False) _).drew fun _ _ h => h
        have hlen1 := hrow.len
        have hgn := grow_ne hokj
        have hpos : 0 < (grow (putS w' u m st j)).length := List.length_pos_iff.2 hgn
        have hgl := grow_len (putS w' u m st j)
        obtain ⟨y, hy, hyN⟩ := last_get hgn
        obtain ⟨g, hp, hc⟩ := hrow.get hy
        obtain ⟨g', hp', hcan, hset, he5⟩ := hrow.set (show (grow (putS w' u m st j)).length - 1 < (grow (putS w' u m st j)).length by omega) (UInt8.ofNat (lastN (grow (putS w' u m st j)) + vbit w' u m j * 2 ^ pl w' (putS w' u m st j).2))
        have : g' = g := by rw [hp] at hp'; cases hp'; rfl
        subst this
        have hgne : g' ≠ b := fun e => ho1 ⟨_, hp, e⟩
        have hgb : ∀ i, i = g' → i ∉ [b] := fun i hi hm => hgne (by rw [← hi]; simpa using hm)
        have H5 := HD.other he5 hgb fun i hi => .inl (.inr (by rw [hi]; exact ⟨_, hp, rfl⟩))
        have hnb := newByteR hokj (vbit_le w' u m j)
        have fin : ∀ w8, Hx w4 (fp b s1) w8 [(b, #[Slc.v s1, .int .i64 (Int.tmod (IntKind.i64.wrap ((((putS w' u m st j).2 : Nat) : Int) + 1)) 8), .int .i64 w'], 133)] → BRow w8 s1 ((grow (putS w' u m st j)).set ((grow (putS w' u m st j)).length - 1) (UInt8.ofNat (lastN (grow (putS w' u m st j)) + vbit w' u m j * 2 ^ pl w' (putS w' u m st j).2))) →
            ∃ n', n' < m - j ∧ ∃ j' : Nat, j' ≤ m ∧ n' = m - j' ∧ IntKind.i64.wrap ((j : Int) + 1) = (j' : Int) ∧ ∃ s'_1, WrR w8 b s'_1 (if 0 < (j' : Int) then w' else way) (putS w' u m st j') ∧ Wn w w8 b s s'_1 := fun w8 H8 hr8 => by
          refine ⟨m - (j + 1), by omega, j + 1, by omega, rfl, by rw [i64_id (by omega)]; rfl, s1, ⟨?_, hr8, ho1⟩, hn4.trans ⟨H8.ext, fun _ h => .inl h⟩⟩
          have := H8.get 0 rfl
          rw [i64_id (by omega), tmod_id (by omega)] at this
          rw [if_pos (show (0 : Int) < ((j + 1 : Nat) : Int) by omega)]
          exact this
        refine Nn.of (Ld.of hb4 rfl ?_)
        rw [hlen1, i64_id (n := ((((grow (putS w' u m st j)).length : Nat) : Int) - 1)) (by omega), show ((((grow (putS w' u m st j)).length : Nat) : Int) - 1).toNat * 1 = (grow (putS w' u m st j)).length - 1 by omega]
        have lastLd : Ld w4.drew ((⟨g', 0, none⟩ : Addr).add ((grow (putS w' u m st j)).length - 1)) (Value.int .u8) (fun x => x = ((lastN (grow (putS w' u m st j)) : Nat) : Int)) := ⟨_, by rw [add_lit, Nat.zero_add, hc, hyN], rfl⟩
        obtain ⟨x0, hx0, rfl⟩ := lastLd
        have rest : ∀ X : Int, X = (((UInt8.ofNat (lastN (grow (putS w' u m st j)) + vbit w' u m j * 2 ^ pl w' (putS w' u m st j).2)).toNat : Nat) : Int) →
            St w4.drew ((⟨g', 0, none⟩ : Addr).add ((grow (putS w' u m st j)).length - 1)) (.int .u8 X) fun vw60 =>
              Nn (at1 b) fun a61 => Ld vw60 (a61.add 1) (Value.int .i64) fun (x62 : Int) => Nn (at1 b) fun a63 => St vw60 (a63.add 1) (.int .i64 (Int.tmod (IntKind.i64.wrap (x62 + 1)) 8)) fun vw64 =>
              Nn (at1 b) fun a65 => St vw64 (a65.add 2) (.int .i64 w') fun vw66 => ∃ n', n' < m - j ∧ ∃ j' : Nat, j' ≤ m ∧ n' = m - j' ∧ IntKind.i64.wrap ((j : Int) + 1) = (j' : Int) ∧ ∃ s'_1, WrR vw66 b s'_1 (if 0 < (j' : Int) then w' else way) (putS w' u m st j') ∧ Wn w vw66 b s s'_1 := fun X hX => by
          rw [hX]
          refine ⟨by rw [add_lit, Nat.zero_add]; exact hcan, ?_⟩
          rw [add_lit, Nat.zero_add]
          refine Nn.of (H5.ld 0 rfl rfl (Nn.of (H5.st' 0 rfl (by simp) (.inl (.inl rfl)) fun w6 H6 he6 => Nn.of (H6.st' 0 rfl (by simp) (.inl (.inl rfl)) fun w7 H7 he7 => ?_))))
          exact fin w7 H7 ((hset.keep he6 fun i hi e => ho1 (by have e : i = b := e; rw [← e]; exact hi)).keep he7 fun i hi e => ho1 (by have e : i = b := e; rw [← e]; exact hi))
        rcases hw' with rfl | rfl
        · simp only [beq_self_eq_true, Br_true]
          refine Nn.of (HD.ld 0 rfl rfl (Nn.of (HD.ld 0 rfl rfl ?_)))
          rw [hlen1, hp]
          refine ⟨by omega, by omega, Nn.of ⟨_, hx0, by omega, Nn.of (HD.ld 0 rfl rfl ⟨by omega, Lt.of ⟨by omega, by omega, Nn.of (rest _ ?_)⟩⟩)⟩⟩
          rw [← hnb, Int.toNat_natCast, Nat.min_eq_left (show j ≤ 64 by omega), vbitR]
          simp [vbit, pl]
        · simp only [show ((2 : Int) == 1) = false by rfl, Br_false]
          refine Nn.of (HD.ld 0 rfl rfl (Nn.of (HD.ld 0 rfl rfl ?_)))
          rw [hlen1, hp, i64_id (n := (m : Int) - 1) (by omega), i64_id (n := (m : Int) - 1 - (j : Int)) (by omega)]
          refine ⟨by omega, by omega, Nn.of ⟨_, hx0, by omega, Lt.of (Nn.of (HD.ld 0 rfl rfl ?_))⟩⟩
          rw [i64_id (n := 7 - (((putS 2 u m st j).2 : Nat) : Int)) (by omega)]
          refine ⟨by omega, Lt.of ⟨by omega, by omega, Nn.of (rest _ ?_)⟩⟩
          rw [← hnb, show ((m : Int) - 1 - (j : Int)).toNat = m - 1 - j by omega, Nat.min_eq_left (show m - 1 - j ≤ 64 by omega), vbitR, show (7 - (((putS 2 u m st j).2 : Nat) : Int)).toNat = 7 - (putS 2 u m st j).2 by omega]
          simp [vbit, pl]
      refine Join.intro (Nn.of (Ld.of hb.blk rfl (Br_of (fun e => ?_) fun e => ?_)))
      · have e0 : (putS w' u m st j).2 = 0 := by simpa using e
        have H0 : Hx w3 (fp b s') w3 _ := Hx.one hb.blk
        refine Nn.of (H0.ld 0 rfl rfl (H0.nw' fun w4 H he => ?_))
        have hr1 := hb.row.keep he fun _ _ h => h
        obtain ⟨s1, w5, hrun, hrow, hext, hnew⟩ := app_one (ty := 128) (b := 0) hr1 (H.get 1 rfl) (by omega)
        refine ⟨s1, w5, hrun, Nn.of ?_⟩
        have hsub : ∀ i, s'.own i → i ∉ [b, w3.heap.size] := fun i hi hm => by
          rcases List.mem_cons.1 hm with h | h
          · exact hb.own (h ▸ hi)
          · have := hb.row.own_lt hi
            have : i = w3.heap.size := by simpa using h
            omega
        have H := H.other hext (fun i hi => hsub i hi) fun i hi => .inl (.inr hi)
        have hf1 : ∀ i, s1.own i → s'.own i ∨ w3.heap.size ≤ i := fun i hi => (hnew i hi).imp id fun h => Nat.le_trans he.size h
        have ho1 : ¬ s1.own b := fun hj => (hf1 b hj).elim hb.own fun h => by have := hb.blk.lt; omega
        refine H.st' 0 rfl (by simp) (.inl (.inl rfl)) fun w6 H he4 => ?_
        have hrow := hrow.keep he4 fun i hi e => ho1 (by have e : i = b := e; rw [← e]; exact hi)
        have hg : (putS w' u m st j).1 ++ [0] = grow (putS w' u m st j) := by unfold grow; rw [if_pos e0]
        rw [hg] at hrow
        exact tail w6 s1 (H.get 0 rfl) hrow ho1 (hn.trans ⟨H.ext, hf1⟩)
      · have e0 : ¬ (putS w' u m st j).2 = 0 := by
          have : ¬ (((putS w' u m st j).2 : Nat) : Int) = 0 := by simpa using e
          omega
        have hrow : BRow w3 s' (grow (putS w' u m st j)) := by unfold grow; rw [if_neg e0]; exact hb.row
        exact tail w3 s' hb.blk hrow hb.own hn
    · have hge : j = m := by
        have : ¬ (j : Int) < m := by simpa using e
        omega
      subst hge
      exact ⟨rfl, s', hb, hn⟩
  refine Nn.of (Ld.of h.blk rfl (Br_of (fun e => ?_) fun e => ?_))
  · refine Nn.of (Ld.of h.blk rfl (Br_of (fun e' => ?_) fun e' => ?_))
    · exact no (.inr (.inr (.inr (.inr ⟨by simpa using e, by simpa using e'⟩))))
    · exact go (fun hh => hh.2 (by simpa using e'))
  · exact go (fun hh => hh.1 (by simpa using e))
theorem r_whigh (h : WrR w b s way st) (hi : WInv way st) (hsz : st.1.length ≤ 274877906944) (v n : Int) :
    C73 (at1 b) v n w fun e w1 => e = (putR way st v n 2).1 ∧ ∃ s', WrR w1 b s' (putR way st v n 2).2.2 (putR way st v n 2).2.1 ∧ Wn w w1 b s s' :=
  T73 _ _ _ _ _ (r_put h hi hsz v n (.inr rfl))
theorem r_walign (h : WrR w b s way st) : C75 (at1 b) w fun w1 => WrR w1 b s 0 (st.1, 0) ∧ Ext (· = b) w w1 := by
  refine T75 _ _ _ ?_
  unfold S75
  refine Br_of (fun _ => ?_) fun e => by cases e
  refine Nn.of ((Hx.one (F := (· = b)) h.blk).st 0 rfl (by simp) (.inl rfl) fun w2 H => Nn.of (H.st 0 rfl (by simp) (.inl rfl) fun w3 H => ?_))
  exact ⟨⟨H.get 0 rfl, h.row.keep H.ext fun i hi e => h.own (by have e : i = b := e; rw [← e]; exact hi), h.own⟩, H.ext⟩
theorem r_wtext (h : WrR w b s way st) : C77 (at1 b) w fun x w1 => x = ⟨st.1.toArray⟩ ∧ w1 = w := by
  refine T77 _ _ _ ?_
  unfold S77
  refine Br_of (fun e => ?_) fun _ => Nn.of (Ld.of h.blk rfl ?_)
  · cases e
  exact ⟨_, w, str_row h.row, rfl, rfl⟩
end
end Bit
end Go.Proofs.Ytjlaijhmnlkpiaa
