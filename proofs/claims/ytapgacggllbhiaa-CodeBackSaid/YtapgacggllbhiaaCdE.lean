/- Codes: laws CodeReads and CodeBack. Conditions: none. -/
import Derived.Test.YtapgacggllbhiaaCdR
namespace Go.Proofs.Ytapgacggllbhiaa
namespace Cd
open Sh Pm Inf Bit
set_option linter.unusedVariables false
set_option linter.unusedSimpArgs false
set_option maxRecDepth 4000
set_option maxHeartbeats 4000000
theorem bne_no {x y : Int} (h : x = y) : (x != y) = false := by simpa using h
theorem getD_app_at {A R : List Nat} {g : Nat} : ((A ++ g :: R)[A.length]?) = some g := by simp
/-- Signs, one after another. -/
def cwL (lens : List Int) (A : List Nat) : WS := A.foldl (cw lens) ([], 0)
theorem cwL_snoc (lens : List Int) (A : List Nat) (g : Nat) : cwL lens (A ++ [g]) = cw lens (cwL lens A) g := by unfold cwL; simp
theorem snoc_ind {P : List Nat → Prop} (h0 : P []) (h1 : ∀ A g, P A → P (A ++ [g])) : ∀ (n : Nat) (A : List Nat), A.length = n → P A
  | 0, A, h => by rw [List.eq_nil_of_length_eq_zero h]; exact h0
  | n + 1, A, h => by
    rcases List.eq_nil_or_concat A with rfl | ⟨B, g, rfl⟩
    · exact h0
    · rw [List.concat_eq_append] at h ⊢
      exact h1 B g (snoc_ind h0 h1 n B (by simpa using h))
theorem cwL_ok (lens : List Int) (A : List Nat) : WOK 1 (cwL lens A) :=
  snoc_ind (P := fun A => WOK 1 (cwL lens A)) (WOK.zero _ _) (fun A g ih => by rw [cwL_snoc]; exact cw_ok ih g) _ A rfl
theorem cwL_len {lens : List Int} (hk : Lok lens) (A : List Nat) : (cwL lens A).1.length ≤ 15 * A.length :=
  snoc_ind (P := fun A => (cwL lens A).1.length ≤ 15 * A.length) (Nat.le_refl _) (fun A g ih => by
    rw [cwL_snoc, List.length_append]
    have := cw_len (st := cwL lens A) hk g
    simp only [List.length_singleton]
    omega) _ A rfl
/-- Every sign written has a code. -/
def Us (lens : List Int) (A : List Nat) : Prop := ∀ g ∈ A, g < lens.length ∧ 0 < lens.getD g 0
theorem back_all {lens : List Int} (hc : chk lens = 0) : ∀ (R A : List Nat), Us lens R → Agree 1 (pos (cwL lens A)) (cwL lens A).1 (cwL lens (A ++ R)).1 ∧ pos (cwL lens A) ≤ pos (cwL lens (A ++ R))
  | [], A, _ => by rw [List.append_nil]; exact ⟨Agree.refl _ _ _, Nat.le_refl _⟩
  | g :: R, A, h => by
    have e : A ++ g :: R = (A ++ [g]) ++ R := by simp
    obtain ⟨h1, h2⟩ := back_all hc R (A ++ [g]) fun x hx => h x (List.mem_cons_of_mem _ hx)
    obtain ⟨hg, h0⟩ := h g (by simp)
    obtain ⟨n, hn⟩ := Int.eq_ofNat_of_zero_le (show 0 ≤ lens.getD g 0 by omega)
    rw [e]
    rw [cwL_snoc] at h1 h2
    obtain ⟨b1, b2, _⟩ := cw_back hc (cwL_ok lens A) hg hn (by omega) h1
    exact ⟨b2, by omega⟩
theorem pos_len {st : WS} (h : WOK 1 st) : st.1.length = (pos st + 7) / 8 ∧ pos st ≤ 8 * st.1.length := by
  have h1 := h.lt
  unfold pos
  split
  · omega
  · rename_i h2
    have := List.length_pos_iff.2 (h.ne h2)
    omega
theorem back_at {lens : List Int} (hc : chk lens = 0) {A : List Nat} (hA : Us lens A) {i g : Nat} (hi : A[i]? = some g) : ∃ q, pos (cwL lens (A.take (i + 1))) = q ∧ sym3 lens ⟨(cwL lens A).1.toArray⟩ (pos (cwL lens (A.take i))) = ((g : Int), 0, q) := by
  obtain ⟨hlt, rfl⟩ := List.getElem?_eq_some_iff.1 hi
  have ht : A.take (i + 1) = A.take i ++ [A[i]] := by rw [List.take_add_one, List.getElem?_eq_getElem hlt]; rfl
  obtain ⟨h1, h2⟩ := back_all hc (A.drop (i + 1)) (A.take (i + 1)) fun x hx => hA x (List.mem_of_mem_drop hx)
  rw [List.take_append_drop] at h1 h2
  obtain ⟨hg, h0⟩ := hA A[i] (List.getElem_mem hlt)
  obtain ⟨n, hn⟩ := Int.eq_ofNat_of_zero_le (show 0 ≤ lens.getD A[i] 0 by omega)
  have hp := (pos_len (cwL_ok lens A)).2
  refine ⟨_, rfl, ?_⟩
  rw [ht, cwL_snoc] at h1 h2 ⊢
  obtain ⟨b1, b2, b3⟩ := cw_back hc (cwL_ok lens (A.take i)) hg hn (by omega) h1
  rw [b1]
  exact sym3_ok (b3 (by omega))
attribute [local irreducible] Ld St Nw Nn Lt LdS
section
variable {w w1 : World} {s s2 : Slc} {l c : List Int}
theorem reads_law (h : IV w s l) (b : ByteArray) (n : Int) : C5 s b n w (fun r w1 => r = true ∧ Ext (fun _ => False) w w1) fun _ _ => False := by
  refine T5 _ _ _ _ _ _ ?_
  unfold S5
  have h1 := h.1
  have lv : ∀ {w1 : World}, Ext (fun _ => False) w w1 → C8 w1 (fun r w2 => r = true ∧ Ext (fun _ => False) w w2) fun _ _ => False := fun he => (c_lives _).mono (fun r w2 ⟨hr, h2⟩ => ⟨hr, he.tr h2⟩) fun _ _ h => h
  refine Br.dec (fun q => lv (Ext.refl _ _)) fun q => Br.dec (fun q2 => lv (Ext.refl _ _)) fun q2 => ?_
  have hs : b.size ≤ 100 := by omega
  refine (Inf.c_new h).mono ?_
  rintro rt e w1 ⟨rfl, e1, _, ht⟩
  refine Br.ne (fun q => lv e1) fun q => ?_
  obtain ⟨tb, rfl, htb⟩ := ht q
  have hk := chk_lok q
  refine (Bit.c_from w1 b).mono ?_
  rintro rr w2 ⟨rfl, hr, e2⟩
  have E2 := e1.tr e2
  have t1 := Int.tmod_lt_of_pos n (show (0 : Int) < 40 by decide)
  have t2 := Int.lt_tmod_of_pos n (show (0 : Int) < 40 by decide)
  refine ⟨fun m st w3 => ∃ (p i : Nat), st = ((p : Int), (i : Int)) ∧ i ≤ 40 ∧ m = 40 - i ∧ RB w3 w1.heap.size b p ∧ TB w3 w.heap.size w1.heap.size tb l ∧ Ext (fun _ => False) w w3, 40, ⟨0, 0, rfl, by omega, rfl, ⟨Nat.zero_le _, 0, .inl rfl, hr⟩, htb.keep e2 fun _ _ _ h => h, E2⟩, ?_⟩
  rintro m st w3 ⟨p, i, rfl, hi, rfl, hrb, htb, e3⟩
  unfold S5L1
  dsimp only
  rw [i64_id (n := Int.tmod n 40) (by omega)]
  have hw1 : w.heap.size ≤ w1.heap.size := e1.size
  refine Br.dec (fun q4 => ?_) fun q4 => lv e3
  refine (c_tread3 htb hk hrb (by omega) (.inr (Nat.le_refl _))).mono ?_
  rintro v e w4 ⟨e4, rfl, rfl, hrb4⟩
  have E4 := Srt.Ext.new e3 e4 fun j hj => by subst hj; exact hw1
  have ht4 := htb.keep e4 fun j _ h2 hj => by have hj : j = w1.heap.size := hj; omega
  refine (r_sym3 (h.keep E4) hk (by omega) hrb.1).mono ?_
  rintro v a e w5 ⟨rfl, rfl, rfl, e5⟩
  have hrb5 := hrb4.keep e5 id
  refine Srt.Br.f (by simp) (Srt.Br.f (by simp) ?_)
  obtain ⟨hq, way, hway, hrd⟩ := hrb5
  refine (c_left hrd hq (by omega)).mono ?_
  rintro x w6 ⟨rfl, rfl⟩
  have E6 := (E4.tr e5).drew
  refine Srt.Br.f (bne_no ?_) ?_
  · rw [i64_id (n := 8 * ((b.size : Nat) : Int)) (by omega), i64_id (by omega)]
    omega
  refine Br.ne (fun q5 => lv E6) fun q5 => ?_
  refine ⟨40 - (i + 1), by omega, _, i + 1, by rw [i64_id (by omega)]; rfl, by omega, rfl, ⟨hq, way, hway, hrd⟩, (ht4.keep e5.drew fun _ _ _ h => h), E6⟩
theorem c_write_no {lo hi tb : Nat} {x : Option Addr} {sign : Int} (ht : TB w lo hi tb l) (hk : Lok l) (hx : x.isNone = false) (hn : sign < 0 ∨ (l.length : Int) ≤ sign ∨ l.getD sign.toNat 0 = 0) :
    C25 (some (⟨tb, 0, none⟩ : Addr)) x sign w fun e w1 => e = (if sign < 0 ∨ (l.length : Int) ≤ sign then 1 else 13) ∧ w1 = w := by
  refine T25 _ _ _ _ _ ?_
  unfold S25
  obtain ⟨s1, s2, s3, h1, h2, h3, h4, h5, h6, h7, h8, h9⟩ := ht
  have h21 := h2.1
  refine Srt.Br.f rfl (Srt.Br.f hx (Br.dec (fun q => ⟨by rw [if_pos (.inl q)], rfl⟩) fun q => Nn.of (Ld.of h1 (o := 0) (x := s1) rfl (Br.dec (fun q2 => ⟨by rw [if_pos (.inr (by omega))], rfl⟩) fun q2 => Nn.of (Ld.of h1 (o := 0) (x := s1) rfl ⟨by omega, by omega, ?_⟩)))))
  obtain ⟨g, rfl⟩ := Int.eq_ofNat_of_zero_le (show 0 ≤ sign by omega)
  obtain ⟨a, ha, hcell⟩ := h2.get (i := g) (by omega)
  rw [ha, Int.toNat_natCast]
  have hz : l.getD g 0 = 0 := by
    rcases hn with hn | hn | hn
    · omega
    · omega
    · simpa using hn
  rw [hz] at hcell
  exact Nn.of (Ld.mk hcell (Srt.Br.t rfl ⟨by rw [if_neg (by omega)], rfl⟩))
/-- While signs are written. -/
structure BW (w0 w1 : World) (lo hi tb wb : Nat) (ws put : Slc) (l : List Int) (A : List Nat) : Prop where
  tab : TB w1 lo hi tb l
  wr : ∃ way : Int, WrB w1 wb ws way (cwL l A) ∧ WInv way (cwL l A) ∧ (way = 0 ∨ way = 1)
  up : ∀ j, fp wb ws j → hi ≤ j
  row : Row w1 put 3 1 (ints (A.map fun g : Nat => (g : Int)))
  out : ∀ j, put.own j → hi ≤ j ∧ ¬ fp wb ws j
  us : Us l A
  ext : Ext (fun _ => False) w0 w1
theorem back_law (h : IV w s l) (k : IV w s2 c) : C6 s s2 w (fun r w1 => r = true ∧ Ext (fun _ => False) w w1) fun _ _ => False := by
  refine T6 _ _ _ _ _ ?_
  unfold S6
  have h1 := h.1
  have k1 := k.1
  have lv : ∀ {w1 : World}, Ext (fun _ => False) w w1 → C8 w1 (fun r w2 => r = true ∧ Ext (fun _ => False) w w2) fun _ _ => False := fun he => (c_lives _).mono (fun r w2 ⟨hr, h2⟩ => ⟨hr, he.tr h2⟩) fun _ _ h => h
  refine Br.dec (fun q => lv (Ext.refl _ _)) fun q => Br.dec (fun q2 => lv (Ext.refl _ _)) fun q2 => ?_
  refine (Inf.c_new h).mono ?_
  rintro rt e w1 ⟨rfl, e1, _, ht⟩
  refine Br.ne (fun q => lv e1) fun q => ?_
  obtain ⟨tb, rfl, htb⟩ := ht q
  have hk := chk_lok q
  have hlen := hk.len
  refine (Bit.c_new w1).mono ?_
  rintro rw w2 ⟨rfl, hw, e2⟩
  have hw1 : w.heap.size ≤ w1.heap.size := e1.size
  have nopos : ∀ j, ¬ (⟨none, 0, 0⟩ : Slc).own j := fun j hj => by obtain ⟨a, ha, _⟩ := hj; cases ha
  refine ⟨fun n st w3 => ∃ (i : Nat) (ws : Slc) (A : List Nat), st.2.1 = ((pos (cwL l A) : Nat) : Int) ∧ st.2.2 = (i : Int) ∧ i ≤ c.length ∧ A.length ≤ i ∧ n = c.length - i ∧ BW w w3 w.heap.size w1.heap.size tb w1.heap.size ws st.1 l A, c.length,
    ⟨0, ⟨none, 0, 0⟩, [], rfl, rfl, by omega, Nat.le_refl _, rfl, ⟨htb.keep e2 fun _ _ _ h => h, ⟨0, hw, WInv.zero _, .inl rfl⟩, fun j hj => hj.elim (fun hh => by omega) fun hh => absurd hh (nopos j), Row.nil _ _ _, fun j hj => absurd hj (nopos j), fun g hg => (by cases hg), e1.tr e2⟩⟩, ?_⟩
  rintro n ⟨put, cnt, i⟩ w3 ⟨i, ws, A, hcnt, hi, hil, hAi, rfl, B⟩
  unfold S6L2
  dsimp only at *
  subst hi hcnt
  rw [k1]
  have hAl := cwL_len hk A
  have hpos := pos_len (cwL_ok l A)
  have hputl : put.len = A.length := by
    have := (IV.row B.row).1
    rw [List.length_map] at this
    exact this
  refine Br.dec (fun q4 => ⟨by omega, by omega, ?_⟩) fun q4 => ?_
  · have hlt : i < c.length := by omega
    have ldk : ∀ {w4 : World} {K : Int → Prop}, Ext (fun _ => False) w w4 → K (c.getD i 0) → 0 ≤ (i : Int) ∧ (i : Int) < ((c.length : Nat) : Int) ∧ Nn s2.p fun a => Ld w4 (a.add (i * 1)) (Value.int .i64) K := fun {w4 K} he hk => by
      obtain ⟨a, ha, hc⟩ := (k.keep he).get hlt
      rw [ha]
      exact ⟨by omega, by omega, Nn.of (Ld.mk hc hk)⟩
    have ldl : ∀ {w4 : World} {K : Int → Prop} {x : Int} {g : Nat}, x = (g : Int) → g < l.length → Ext (fun _ => False) w w4 → K (l.getD g 0) → 0 ≤ x ∧ x < (s.len : Nat) ∧ Nn s.p fun a => Ld w4 (a.add (x.toNat * 1)) (Value.int .i64) K := fun {w4 K x g} hx hg he hk => by
      subst hx
      obtain ⟨a, ha, hc⟩ := (h.keep he).get hg
      rw [ha, Int.toNat_natCast]
      exact ⟨by omega, by omega, Nn.of (Ld.mk hc hk)⟩
    rw [Int.toNat_natCast, i64_id (n := (i : Int) + 1) (by omega)]
    refine (ldk B.ext ?_).2.2
    obtain ⟨way, hwr, hwin, hway⟩ := B.wr
    have skip : ∀ w4, w4 = w3 → ∃ n', n' < c.length - i ∧ ∃ (i' : Nat) (ws : Slc) (A' : List Nat), ((pos (cwL l A) : Nat) : Int) = ((pos (cwL l A') : Nat) : Int) ∧ (i : Int) + 1 = (i' : Int) ∧ i' ≤ c.length ∧ A'.length ≤ i' ∧ n' = c.length - i' ∧ BW w w4 w.heap.size w1.heap.size tb w1.heap.size ws put l A' := fun w4 e => by
      subst e
      exact ⟨c.length - (i + 1), by omega, i + 1, ws, A, rfl, rfl, by omega, by omega, rfl, B⟩
    by_cases hbad : c.getD i 0 < 0 ∨ (l.length : Int) ≤ c.getD i 0
    · refine (c_write_no (sign := c.getD i 0) (x := at1 w1.heap.size) B.tab hk rfl (by omega)).mono ?_
      rintro e w4 ⟨rfl, rfl⟩
      rw [if_pos hbad]
      refine ldk B.ext (Br.dec (fun q5 => Srt.Br.f rfl (skip _ rfl)) fun q5 => ldk B.ext (Br.dec (fun q6 => Srt.Br.f rfl (skip _ rfl)) fun q6 => by omega))
    obtain ⟨g, hg⟩ : ∃ g : Nat, c.getD i 0 = (g : Int) := Int.eq_ofNat_of_zero_le (by omega)
    have hgl : g < l.length := by omega
    by_cases hz : l.getD g 0 = 0
    · refine (c_write_no (sign := c.getD i 0) (x := at1 w1.heap.size) B.tab hk rfl (.inr (.inr (by rw [hg]; simpa using hz)))).mono ?_
      rintro e w4 ⟨rfl, rfl⟩
      rw [if_neg hbad]
      refine ldk B.ext (Br.dec (fun q5 => by omega) fun q5 => ldk B.ext (Br.dec (fun q6 => by omega) fun q6 => ldk B.ext (ldl hg hgl B.ext ?_)))
      rw [hz]
      exact Srt.Br.t rfl (Srt.Br.f rfl (skip _ rfl))
    · have hnn := hk.nn g
      obtain ⟨ln, hln⟩ := Int.eq_ofNat_of_zero_le hnn.1
      have hu : Us l (A ++ [g]) := fun x hx => by
        rcases List.mem_append.1 hx with hx | hx
        · exact B.us x hx
        · rw [List.mem_singleton.1 hx]
          exact ⟨hgl, by omega⟩
      rw [hg] at ldk ⊢
      refine (c_write B.tab q hwr hwin hway (by omega) (fun j hj => .inr (B.up j hj)) hgl hln (by omega)).mono ?_
      rintro e w4 ⟨rfl, ws', hwr4, hn4⟩
      have s3 := B.ext.size
      have hup4 : ∀ j, fp w1.heap.size ws' j → w1.heap.size ≤ j := fun j hj => by
        rcases hj with hj | hj
        · omega
        · rcases hn4.new j hj with hh | hh
          · exact B.up j (.inr hh)
          · have := hwr.lt w1.heap.size (.inl rfl)
            omega
      have E4 : Ext (fun _ => False) w w4 := Srt.Ext.new B.ext hn4.ext fun j hj => by have := B.up j hj; omega
      have ht4 := B.tab.keep hn4.ext fun j _ h2 hj => by have := B.up j hj; omega
      have hrow4 := B.row.keep hn4.ext fun j hj hf => (B.out j hj).2 hf
      have hout4 : ∀ j, put.own j → w1.heap.size ≤ j ∧ ¬ fp w1.heap.size ws' j := fun j hj => ⟨(B.out j hj).1, fun hf => by
        rcases hf with hf | hf
        · exact (B.out j hj).2 (.inl hf)
        · rcases hn4.new j hf with hh | hh
          · exact (B.out j hj).2 (.inr hh)
          · have := B.row.own_lt hj
            omega⟩
      refine ldk E4 (Br.dec (fun q5 => by omega) fun q5 => ldk E4 (Br.dec (fun q6 => by omega) fun q6 => ldk E4 (ldl rfl hgl E4 ?_)))
      refine Srt.Br.f (by simpa using hz) (Srt.Br.f rfl (ldk E4 ?_))
      refine (Hn.start w4).nw fun w5 H => ?_
      have hb5 := H.get 0 rfl
      have e5 := H.ext
      obtain ⟨put', w6, r1, r2, r3, r4, r5⟩ := elI.app1 (ty := 22) (ys := [.int .i64 (g : Int)]) (hrow4.keep e5 fun _ _ e => e) hb5 rfl (by intro v hv; rw [List.mem_singleton.1 hv]; rfl) (by omega) (by omega)
      have E5 := E4.tr e5
      have E6 : Ext (fun _ => False) w w6 := Srt.Ext.new E5 r4 fun j hj => by have := (hout4 j hj).1; omega
      refine ⟨put', w6, r1, ldk E6 (ldl rfl hgl E6 ?_)⟩
      have hcw : cwL l (A ++ [g]) = cw l (cwL l A) g := cwL_snoc _ _ _
      have hpp : pos (cwL l (A ++ [g])) = pos (cwL l A) + ln := by
        rw [hcw]
        exact (cw_back q (cwL_ok l A) hgl hln (by omega) (Agree.refl _ _ _)).1
      rw [hln]
      refine ⟨c.length - (i + 1), by omega, i + 1, ws', A ++ [g], by rw [i64_id (by omega), hpp]; omega, rfl, by omega, by rw [List.length_append]; simp; omega, rfl, ?_⟩
      refine ⟨(ht4.keep e5 fun _ _ _ h => h).keep r4 fun j _ h2 hj => by have := (hout4 j hj).1; omega, ⟨1, ?_, ⟨by rw [hcw]; exact cw_ok (cwL_ok l A) g, fun hh => by cases hh⟩, .inr rfl⟩, hup4, ?_, fun j hj => ?_, hu, E6⟩
      · rw [hcw]
        exact (hwr4.keep e5 fun _ _ h => h).keep r4 fun j hj hf => (hout4 j hf).2 hj
      · rw [List.map_append, ints_app]
        exact r2
      · rcases r5 j hj with hh | hh
        · exact hout4 j hh
        · have s5 := e5.size
          have l4 : ∀ j, fp w1.heap.size ws' j → j < w4.heap.size := hwr4.lt
          have := l4 w1.heap.size (.inl rfl)
          exact ⟨by omega, fun hf => by have := l4 j hf; omega⟩
  · have hic : i = c.length := by omega
    obtain ⟨way, hwr, hwin, hway⟩ := B.wr
    refine (c_wtext hwr (by omega)).mono ?_
    rintro x w4 ⟨rfl, e4⟩
    refine (Bit.c_from w4 ⟨(cwL l A).1.toArray⟩).mono ?_
    rintro rr w5 ⟨rfl, hr, e5⟩
    have E5 := B.ext.tr (e4.tr e5)
    have hsz : (⟨(cwL l A).1.toArray⟩ : ByteArray).size = (cwL l A).1.length := List.size_toArray
    have s4 := B.ext.size
    have s5 := e4.size
    have key : ∀ j, fp w1.heap.size ws j → j < w4.heap.size := fun j hj => by have := hwr.lt j hj; omega
    have keyp : ∀ j, put.own j → j < w4.heap.size := fun j hj => by have := B.row.own_lt hj; omega
    have tlt : w1.heap.size ≤ w4.heap.size := by have := hwr.lt w1.heap.size (.inl rfl); omega
    refine ⟨fun n st w6 => ∃ i : Nat, st = (i : Int) ∧ i ≤ A.length ∧ n = A.length - i ∧ RB w6 w4.heap.size ⟨(cwL l A).1.toArray⟩ (pos (cwL l (A.take i))) ∧ TB w6 w.heap.size w1.heap.size tb l ∧ WrB w6 w1.heap.size ws way (cwL l A) ∧ IV w6 put (A.map fun g : Nat => (g : Int)) ∧ Ext (fun _ => False) w w6, A.length,
      ⟨0, rfl, by omega, rfl, ⟨Nat.zero_le _, 0, .inl rfl, hr⟩, (B.tab.keep e4 fun _ _ _ h => h).keep e5 fun _ _ _ h => h, (hwr.keep e4 fun _ _ h => h).keep e5 fun _ _ h => h, ((IV.row B.row).keep e4).keep e5, E5⟩, ?_⟩
    rintro n st w6 ⟨i, rfl, hiA, rfl, hrb, htb6, hwr6, hput, e6⟩
    unfold S6L1
    dsimp only
    rw [hputl]
    refine Br.dec (fun q5 => ?_) fun q5 => ?_
    · obtain ⟨g, hgi⟩ : ∃ g, A[i]? = some g := ⟨_, List.getElem?_eq_getElem (by omega)⟩
      obtain ⟨q', hq', hsym⟩ := back_at q B.us hgi
      refine (c_tread3 htb6 hk hrb (by rw [hsz]; omega) (.inr tlt)).mono ?_
      rintro v e w7 ⟨e7, hv, he, hrb7⟩
      rw [hsym] at hv he hrb7
      subst hv he
      have E7 := Srt.Ext.new e6 e7 fun j hj => by subst hj; omega
      have hput7 := hput.keepF e7 fun j hj hf => by have := keyp j hj; have hf : j = w4.heap.size := hf; omega
      obtain ⟨a, ha, hcell⟩ := hput7.get (i := i) (by rw [List.length_map]; omega)
      have hval : (A.map fun g : Nat => (g : Int)).getD i 0 = (g : Int) := by
        rw [List.getD_eq_getElem?_getD, List.getElem?_map, hgi]
        rfl
      rw [hval] at hcell
      rw [ha, Int.toNat_natCast]
      refine Srt.Br.f rfl ⟨by omega, by omega, Nn.of (Ld.mk hcell (Srt.Br.f (by simp) ?_))⟩
      exact ⟨A.length - (i + 1), by omega, i + 1, by rw [i64_id (by omega)]; rfl, by omega, rfl, by rw [hq']; exact hrb7, htb6.keep e7 fun j _ h2 hf => by have hf : j = w4.heap.size := hf; omega, hwr6.keep e7 fun j hj hf => by have := key j hj; have hf : j = w4.heap.size := hf; omega, hput7, E7⟩
    · have hiA2 : i = A.length := by omega
      subst hiA2
      rw [List.take_length] at hrb
      refine (c_wlen hwr6).mono ?_
      rintro x w6 ⟨rfl, rfl⟩
      refine Srt.Br.t (beq_yes ?_) ?_
      · rw [i64_id (n := ((pos (cwL l A) : Nat) : Int) + 7) (by omega), tdiv_id (by omega), i64_id (by omega)]
        omega
      obtain ⟨hq, way', hway', hrd⟩ := hrb
      refine (c_left hrd hq (by rw [hsz]; omega)).mono ?_
      rintro x w7 ⟨rfl, rfl⟩
      refine (c_wlen (hwr6.keep (Ext.refl (fun _ => False) w6).drew fun _ _ h => h)).mono ?_
      rintro x w7 ⟨rfl, rfl⟩
      refine Srt.Br.t (beq_yes ?_) (lv e6.drew)
      rw [hsz, i64_id (n := 8 * (((cwL l A).1.length : Nat) : Int)) (by omega), i64_id (by omega)]
      omega
end
end Cd
end Go.Proofs.Ytapgacggllbhiaa
