/- BitBack, over the formulas of the code. Condition: the list of calls can be read. -/
import Derived.Test.YtahdpfjikmechaaBitC
namespace Go.Proofs.Ytahdpfjikmechaa
namespace Bit
open Sh
set_option linter.unusedVariables false
set_option linter.unusedSimpArgs false

theorem wrap_pow {n : Nat} (h : n < 25) : IntKind.i64.wrap (1 * 2 ^ min ((n : Int)).toNat 64) = 2 ^ n := by
  have := two_pow_24 (show n ≤ 24 by omega)
  have := two_pow_pos n
  rw [Int.toNat_natCast, Nat.min_eq_left (by omega), Int.one_mul, i64_id (by omega)]
theorem natAbs_pow (n : Nat) : ((2 : Int) ^ n).natAbs = 2 ^ n := by rw [Int.natAbs_pow]; rfl
theorem c_num (w : World) (q : Ask) : C44 (q.d, q.n, q.v, q.s) w fun n v w1 => n = (numN q : Int) ∧ v = (numV q : Int) ∧ Ext (fun _ => False) w w1 := by
  refine T44 _ _ _ ?_
  unfold S44
  dsimp only
  refine (Hx.start w (fun _ => False)).nw fun w2 H => H.ld 0 rfl rfl ?_
  have hN : (Int.tmod q.n 25).natAbs = numN q := by rw [Int.natAbs_tmod]; rfl
  have hlt := numN_lt q
  have hp := two_pow_pos (numN q)
  have h24 := two_pow_24 (show numN q ≤ 24 by omega)
  have hV : (Int.tmod q.v (2 ^ numN q)).natAbs = numV q := by rw [Int.natAbs_tmod, natAbs_pow]; rfl
  have hvl : (numV q : Int) < 2 ^ numN q := by exact_mod_cast numV_lt q
  refine Br_of (fun e => ?_) fun e => ?_
  · have e : Int.tmod q.n 25 < 0 := by simpa using e
    have hn : IntKind.i64.wrap (0 - Int.tmod q.n 25) = (numN q : Int) := by rw [i64_id (by omega)]; omega
    rw [hn]
    refine H.drew.ld 0 rfl rfl ?_
    rw [wrap_pow hlt]
    refine ⟨by omega, by omega, Lt.of (Br_of (fun e2 => ?_) fun e2 => ?_)⟩
    · have e2 : Int.tmod q.v (2 ^ numN q) < 0 := by simpa using e2
      exact ⟨rfl, by rw [i64_id (by omega)]; omega, H.drew.ext⟩
    · have e2 : ¬ Int.tmod q.v (2 ^ numN q) < 0 := by simpa using e2
      exact ⟨rfl, by omega, H.drew.ext⟩
  · have e : ¬ Int.tmod q.n 25 < 0 := by simpa using e
    have hn : Int.tmod q.n 25 = (numN q : Int) := by omega
    refine H.drew.ld 0 rfl rfl ?_
    rw [hn, wrap_pow hlt]
    refine ⟨by omega, by omega, Br_of (fun e2 => ?_) fun e2 => ?_⟩
    · have e2 : Int.tmod q.v (2 ^ numN q) < 0 := by simpa using e2
      exact Lt.of ⟨rfl, by rw [i64_id (by omega)]; omega, H.drew.ext⟩
    · have e2 : ¬ Int.tmod q.v (2 ^ numN q) < 0 := by simpa using e2
      exact ⟨rfl, by omega, H.drew.ext⟩

theorem putR_go {way : Int} {st : List UInt8 × Nat} {v n : Nat} {w' : Int} (hc : way = 0 ∨ way = w') (hn : n < 25) (hv : v < 2 ^ n) : putR way st v n w' = (0, putS w' v n st n, if 0 < (n : Int) then w' else way) := by
  have hv' : (v : Int) < 2 ^ n := by exact_mod_cast hv
  rw [putR_ok (by rw [Int.toNat_natCast]; omega), Int.toNat_natCast, Int.toNat_natCast]

/-- The tests ahead of an Align, as the code makes them. -/
theorem al_cases {w : World} {l : Slc} {f : Nat → Ask} (ha : Asks w l f) (hl : l.len ≤ 60) {j : Nat} (hj : j < l.len) {a : Addr} (hp : l.p = some a) {yes no : Prop} (hy : al f j → yes) (hn : ¬ al f j → no) :
    Br (decide ((j : Int) > 0)) (0 ≤ (j : Int) ∧ (j : Int) < (l.len : Nat) ∧ Nn (some a) fun a1 => Ld w (a1.add (((j : Int)).toNat * 4)) (Value.int .i64) fun (x1 : Int) =>
        0 ≤ (IntKind.i64.wrap ((j : Int) - 1)) ∧ (IntKind.i64.wrap ((j : Int) - 1)) < (l.len : Nat) ∧ Nn (some a) fun a2 => Ld w (a2.add ((IntKind.i64.wrap ((j : Int) - 1)).toNat * 4)) (Value.int .i64) fun (x2 : Int) =>
        Br (x1 != x2) yes (0 ≤ (j : Int) ∧ (j : Int) < (l.len : Nat) ∧ Nn (some a) fun a3 => Ld w (a3.add (((j : Int)).toNat * 4)) (Value.int .i64) fun (x3 : Int) =>
          Br (decide (x3 > 1)) yes (0 ≤ (j : Int) ∧ (j : Int) < (l.len : Nat) ∧ Nn (some a) fun a4 => Ld w (a4.add (((j : Int)).toNat * 4)) (Value.int .i64) fun (x4 : Int) => Br (decide (x4 < 0)) yes no)))
      (0 ≤ (j : Int) ∧ (j : Int) < (l.len : Nat) ∧ Nn (some a) fun a5 => Ld w (a5.add (((j : Int)).toNat * 4)) (Value.int .i64) fun (x5 : Int) =>
        Br (decide (x5 > 1)) yes (0 ≤ (j : Int) ∧ (j : Int) < (l.len : Nat) ∧ Nn (some a) fun a6 => Ld w (a6.add (((j : Int)).toNat * 4)) (Value.int .i64) fun (x6 : Int) => Br (decide (x6 < 0)) yes no)) := by
  have rd : ∀ i, i < l.len → w.cell? (a.add (i * 4)) = some (.int .i64 (f i).d) := fun i hi => by
    obtain ⟨a', hp', h, _⟩ := ha i hi
    rw [hp] at hp'
    cases hp'
    exact h
  have r1 := rd j hj
  simp only [Int.toNat_natCast]
  refine Br_of (fun e => ?_) fun e => ?_
  · have hpos : 0 < j := by
      have : (0 : Int) < (j : Int) := by simpa using e
      omega
    have r2 := rd (j - 1) (by omega)
    rw [i64_id (by omega), show ((j : Int) - 1).toNat = j - 1 by omega]
    refine ⟨by omega, by omega, Nn.of ⟨_, r1, by omega, by omega, Nn.of ⟨_, r2, Br_of (fun e1 => hy (.inl ⟨hpos, by simpa using e1⟩)) fun e1 => ⟨by omega, by omega, Nn.of ⟨_, r1, Br_of (fun e2 => hy (.inr (.inl (by simpa using e2)))) fun e2 => ⟨by omega, by omega, Nn.of ⟨_, r1, Br_of (fun e3 => hy (.inr (.inr (by simpa using e3)))) fun e3 => hn fun hal => ?_⟩⟩⟩⟩⟩⟩⟩
    have g1 : (f j).d = (f (j - 1)).d := by simpa using e1
    have g2 : ¬ 1 < (f j).d := by simpa using e2
    have g3 : ¬ (f j).d < 0 := by simpa using e3
    rcases hal with h | h | h
    · exact h.2 g1
    · exact g2 h
    · exact g3 h
  · have hpos : ¬ 0 < j := by
      have : ¬ (0 : Int) < (j : Int) := by simpa using e
      omega
    refine ⟨by omega, by omega, Nn.of ⟨_, r1, Br_of (fun e2 => hy (.inr (.inl (by simpa using e2)))) fun e2 => ⟨by omega, by omega, Nn.of ⟨_, r1, Br_of (fun e3 => hy (.inr (.inr (by simpa using e3)))) fun e3 => hn fun hal => ?_⟩⟩⟩⟩
    have g2 : ¬ 1 < (f j).d := by simpa using e2
    have g3 : ¬ (f j).d < 0 := by simpa using e3
    rcases hal with h | h | h
    · exact hpos h.1
    · exact g2 h
    · exact g3 h

/-- The writer of BitBack after some calls. -/
structure WS (w0 w : World) (b : Nat) (s : Slc) (W : Int × (List UInt8 × Nat)) : Prop where
  pb : WrB w b s W.1 W.2
  new : ∀ j, fp b s j → w0.heap.size ≤ j
  ext : Ext (fun _ => False) w0 w
theorem WS.step {w0 w w1 : World} {b : Nat} {s s' : Slc} {W W' : Int × (List UInt8 × Nat)} (h : WS w0 w b s W) (h1 : WrB w1 b s' W'.1 W'.2) (n1 : Wn w w1 b s s') : WS w0 w1 b s' W' :=
  ⟨h1, fun j hj => (fp_new n1 h.ext.size j hj).elim (h.new j) id, h.ext.fresh n1.ext h.new⟩
theorem WS.same {w0 w w1 : World} {b : Nat} {s : Slc} {W : Int × (List UInt8 × Nat)} (h : WS w0 w b s W) (he : Ext (fun _ => False) w w1) : WS w0 w1 b s W :=
  ⟨h.pb.keep he fun _ _ h => h, h.new, h.ext.tr he⟩

theorem stepA_len (f : Nat → Ask) (i : Nat) (W : Int × (List UInt8 × Nat)) : (stepA f i W).2.1 = W.2.1 := by
  by_cases ha : al f i
  · rw [stepA_yes ha]
  · rw [stepA_no ha]

theorem back (w : World) (l : Slc) (f : Nat → Ask) (ha : Asks w l f) : C6 l w fun r w1 => r = true ∧ Ext (fun _ => False) w w1 := by
  refine T6 _ _ _ ?_
  unfold S6
  refine Br_of (fun _ => liv (Ext.refl _ _)) fun e2 => ?_
  have hl : l.len ≤ 60 := by
    have : ¬ (60 : Int) < (l.len : Int) := by simpa using e2
    omega
  refine (c_new w).mono ?_
  rintro r w1 ⟨rfl, hb, he⟩
  refine Br_of (fun h => by cases h) fun _ => ?_
  refine ⟨fun n i w3 => ∃ (j : Nat) (s : Slc), i = (j : Int) ∧ j ≤ l.len ∧ n = l.len - j ∧ (∀ k, k < j → (f k).s.size ≤ 300) ∧ WS w w3 w.heap.size s (Wr f j),
    l.len, ⟨0, ⟨none, 0, 0⟩, rfl, by omega, by omega, fun k hk => by omega, hb, fun j hj => hj.elim (fun h => by omega) fun ⟨a, ha, _⟩ => by (cases ha), he⟩, ?_⟩
  rintro n i w3 ⟨j, s, rfl, hj, rfl, h300, hS⟩
  unfold S6L2
  refine Br_of (fun h => ?_) fun h => ?_
  · -- one more call is written
    have hjl : j < l.len := by
      have : (j : Int) < (l.len : Int) := by simpa using h
      omega
    have ha3 := ha.keep hS.ext
    obtain ⟨a, hp, q1, q2, q3, q4⟩ := ha3 j hjl
    obtain ⟨_, _, hr⟩ := Wr_facts f j
    have hlen := Wr_len f j h300
    have hgo : ∀ {u : World}, Ext (fun _ => False) w u → u.cell? (a.add (j * 4)) = some (.int .i64 (f j).d) ∧ u.cell? (a.add (j * 4 + 1)) = some (.int .i64 (f j).n) ∧ u.cell? (a.add (j * 4 + 2)) = some (.int .i64 (f j).v) ∧ u.cell? (a.add (j * 4 + 3)) = some (.string (f j).s) := fun he => by
      obtain ⟨a', hp', k1, k2, k3, k4⟩ := (ha.keep he) j hjl
      have : a' = a := by rw [hp] at hp'; cases hp'; rfl
      subst this
      exact ⟨k1, k2, k3, k4⟩
    rw [hp]
    refine ⟨by omega, by omega, Nn.of ⟨_, by simpa [add_add'] using q4, Br_of (fun _ => liv hS.ext) fun h30 => ?_⟩⟩
    have ht : (f j).s.size ≤ 300 := by
      have : ¬ (300 : Int) < ((f j).s.size : Int) := by simpa using h30
      omega
    have h300' : ∀ k, k < j + 1 → (f k).s.size ≤ 300 := fun k hk => by
      by_cases e : k = j
      · subst e; exact ht
      · exact h300 k (by omega)
    have fin : ∀ w5 s5, WS w w5 w.heap.size s5 (Wr f (j + 1)) → ∃ n', n' < l.len - j ∧ ∃ (j' : Nat) (s : Slc), IntKind.i64.wrap ((j : Int) + 1) = (j' : Int) ∧ j' ≤ l.len ∧ n' = l.len - j' ∧ (∀ k, k < j' → (f k).s.size ≤ 300) ∧ WS w w5 w.heap.size s (Wr f j') :=
      fun w5 s5 h5 => ⟨l.len - (j + 1), by omega, j + 1, s5, by rw [i64_id (by omega)]; rfl, by omega, rfl, h300', h5⟩
    have main : ∀ w4 s4, WS w w4 w.heap.size s4 (stepA f j (Wr f j)) → S6J2 l (at1 w.heap.size) (j : Int) (fun s' w' => ∃ n', n' < l.len - j ∧ ∃ (j : Nat) (s : Slc), s' = (j : Int) ∧ j ≤ l.len ∧ n' = l.len - j ∧ (∀ k, k < j → (f k).s.size ≤ 300) ∧ WS w w' w.heap.size s (Wr f j))
        (fun r w1 => r = true ∧ Ext (fun _ => False) w w1) () w4 := fun w4 s4 h4 => by
      unfold S6J2
      obtain ⟨k1, k2, k3, k4⟩ := hgo h4.ext
      rw [hp]
      simp only [Int.toNat_natCast, add_add']
      refine ⟨by omega, by omega, Nn.of ⟨_, k1, _, k2, _, k3, _, k4, (c_num w4 (f j)).mono ?_⟩⟩
      rintro n v w5 ⟨rfl, rfl, e5⟩
      have h5 := h4.same e5
      obtain ⟨k1, k2, k3, k4⟩ := hgo h5.ext
      have hN := numN_lt (f j)
      have hV := numV_lt (f j)
      have hsA := stepA_len f j (Wr f j)
      have hW : Wr f (j + 1) = stepC (f j) (stepA f j (Wr f j)) := rfl
      generalize stepA f j (Wr f j) = A at hr h5 hsA hW
      have hAl : A.2.1.length ≤ 300 * j := by rw [hsA]; exact hlen
      unfold stepC at hW
      refine Join.intro ⟨by omega, by omega, Nn.of ⟨_, k1, Br_of (fun d0 => ?_) fun d0 => ⟨by omega, by omega, Nn.of ⟨_, k1, Br_of (fun d1 => ?_) fun d1 => ?_⟩⟩⟩⟩
      · have d0 : (f j).d = 0 := by simpa using d0
        rw [if_pos d0] at hW
        refine (c_wlow h5.pb hr.inv (by omega) _ _).mono ?_
        rw [putR_go (hr.low d0) hN hV]
        rintro e w6 ⟨rfl, s6, h6, n6⟩
        have h6 : WS w w6 w.heap.size s6 (Wr f (j + 1)) := h5.step (by rw [hW]; exact h6) n6
        obtain ⟨k1, k2, k3, k4⟩ := hgo h6.ext
        refine Br_of (fun h => by cases h) fun _ => ⟨by omega, by omega, Nn.of ⟨_, k1, Br_of (fun d1 => ?_) fun _ => ?_⟩⟩
        · rw [d0] at d1; cases d1
        · unfold S6J1
          rw [hp]
          simp only [Int.toNat_natCast, add_add']
          refine ⟨by omega, by omega, Nn.of ⟨_, k1, Br_of (fun d3 => ?_) fun _ => fin _ _ h6⟩⟩
          rw [d0] at d3; cases d3
      · have d1 : (f j).d = 1 := by simpa using d1
        rw [if_neg (by omega), if_pos d1] at hW
        refine (c_whigh h5.pb hr.inv (by omega) _ _).mono ?_
        rw [putR_go (hr.high d1) hN hV]
        rintro e w6 ⟨rfl, s6, h6, n6⟩
        have h6 : WS w w6 w.heap.size s6 (Wr f (j + 1)) := h5.step (by rw [hW]; exact h6) n6
        obtain ⟨k1, k2, k3, k4⟩ := hgo h6.ext
        refine Br_of (fun h => by cases h) fun _ => ?_
        unfold S6J1
        rw [hp]
        simp only [Int.toNat_natCast, add_add']
        refine ⟨by omega, by omega, Nn.of ⟨_, k1, Br_of (fun d3 => ?_) fun _ => fin _ _ h6⟩⟩
        rw [d1] at d3; cases d3
      · have d0 : ¬ (f j).d = 0 := by simpa using d0
        have d1 : ¬ (f j).d = 1 := by simpa using d1
        rw [if_neg d0, if_neg d1] at hW
        unfold S6J1
        rw [hp]
        simp only [Int.toNat_natCast, add_add']
        refine ⟨by omega, by omega, Nn.of ⟨_, k1, Br_of (fun d3 => ?_) fun d3 => ?_⟩⟩
        · have d3 : (f j).d = 3 := by simpa using d3
          rw [if_pos d3] at hW
          refine ⟨by omega, by omega, Nn.of ⟨_, k4, (c_wraw h5.pb _ (by omega) (by omega)).mono ?_⟩⟩
          rintro w6 ⟨s6, h6, n6⟩
          exact fin _ _ (h5.step (by rw [hW]; exact h6) n6)
        · have d3 : ¬ (f j).d = 3 := by simpa using d3
          rw [if_neg d3] at hW
          exact fin _ _ (by rw [hW]; exact h5)
    have hSd := hS.same (Ext.refl _ _).drew
    refine Join.intro (al_cases (ha.keep hSd.ext) hl hjl hp (fun hal => ?_) fun hal => main _ _ (by rw [stepA_no hal]; exact hSd))
    refine (c_walign hSd.pb).mono ?_
    rintro w5 ⟨h5, e5⟩
    exact main _ _ (by rw [stepA_yes hal]; exact hSd.step h5 (Wn.one e5))
  · -- all are written: they are read back
    have hjl : j = l.len := by
      have : ¬ (j : Int) < (l.len : Int) := by simpa using h
      omega
    subst hjl
    have hlen := Wr_len f l.len h300
    refine (c_wtext hS.pb (by omega)).mono ?_
    rintro x w4 ⟨rfl, e4⟩
    have hS := hS.same e4
    refine (c_from w4 _).mono ?_
    rintro r w5 ⟨rfl, hc, e5⟩
    refine Br_of (fun h => by cases h) fun _ => ?_
    have hTs : (⟨(Wr f l.len).2.1.toArray⟩ : ByteArray).size = (Wr f l.len).2.1.length := by show (List.toArray _).size = _; simp
    have hs6 : (⟨(Wr f l.len).2.1.toArray⟩ : ByteArray).size ≤ 1000000 := by rw [hTs]; omega
    have hlt4 := hS.pb.lt
    have hfr : ∀ i, fp w.heap.size s i → i ≠ w4.heap.size := fun i hi => by have := hlt4 i hi; omega
    have hSm := hS.ext.size
    refine ⟨fun n i w6 => ∃ (j : Nat), i = (j : Int) ∧ j ≤ l.len ∧ n = l.len - j ∧ WS w w6 w.heap.size s (Wr f l.len) ∧ RdB w6 w4.heap.size ⟨(Wr f l.len).2.1.toArray⟩ (pos (Wr f j).2) (Wr f j).1, l.len, ⟨0, rfl, by omega, by omega, hS.same e5, hc⟩, ?_⟩
    rintro n i w6 ⟨j, rfl, hj, rfl, h6, hR⟩
    unfold S6L1
    obtain ⟨ag, hle⟩ := agree_all f l.len (l.len - j) j (by omega)
    obtain ⟨pl1, pl2⟩ := pos_le f l.len
    have hst : ∀ {u u2 : World}, WS w u w.heap.size s (Wr f l.len) → Ext (· = w4.heap.size) u u2 → WS w u2 w.heap.size s (Wr f l.len) := fun hu he =>
      ⟨hu.pb.keep he fun i hi e => hfr i hi e, hu.new, hu.ext.fresh he fun i hi => by omega⟩
    refine Br_of (fun h => ?_) fun h => ?_
    · have hjl : j < l.len := by
        have : (j : Int) < (l.len : Int) := by simpa using h
        omega
      obtain ⟨a, hp, _⟩ := ha j hjl
      have hgo : ∀ {u : World}, Ext (fun _ => False) w u → u.cell? (a.add (j * 4)) = some (.int .i64 (f j).d) ∧ u.cell? (a.add (j * 4 + 1)) = some (.int .i64 (f j).n) ∧ u.cell? (a.add (j * 4 + 2)) = some (.int .i64 (f j).v) ∧ u.cell? (a.add (j * 4 + 3)) = some (.string (f j).s) := fun he => by
        obtain ⟨a', hp', k1, k2, k3, k4⟩ := (ha.keep he) j hjl
        have : a' = a := by rw [hp] at hp'; cases hp'; rfl
        subst this
        exact ⟨k1, k2, k3, k4⟩
      obtain ⟨ag1, hle1⟩ := agree_all f l.len (l.len - (j + 1)) (j + 1) (by omega)
      have hB := back_of ag1
      obtain ⟨_, hA2⟩ := stepA_agree hB.before
      obtain ⟨_, _, hr⟩ := Wr_facts f j
      have main : ∀ w7, WS w w7 w.heap.size s (Wr f l.len) → RdB w7 w4.heap.size ⟨(Wr f l.len).2.1.toArray⟩ (pos (stepA f j (Wr f j)).2) (stepA f j (Wr f j)).1 →
          S6J4 l (at0 w4.heap.size) (j : Int) (fun s' w' => ∃ n', n' < l.len - j ∧ ∃ (j : Nat), s' = (j : Int) ∧ j ≤ l.len ∧ n' = l.len - j ∧ WS w w' w.heap.size s (Wr f l.len) ∧ RdB w' w4.heap.size ⟨(Wr f l.len).2.1.toArray⟩ (pos (Wr f j).2) (Wr f j).1)
            (fun r w1 => r = true ∧ Ext (fun _ => False) w w1) () w7 := fun w7 h7 hR7 => by
        unfold S6J4
        obtain ⟨k1, k2, k3, k4⟩ := hgo h7.ext
        rw [hp]
        simp only [Int.toNat_natCast, add_add']
        refine ⟨by omega, by omega, Nn.of ⟨_, k1, _, k2, _, k3, _, k4, (c_num w7 (f j)).mono ?_⟩⟩
        rintro n v w8 ⟨rfl, rfl, e8⟩
        have h8 := h7.same e8
        have hR8 := hR7.keep e8 id
        obtain ⟨k1, k2, k3, k4⟩ := hgo h8.ext
        have fin : ∀ w9, WS w w9 w.heap.size s (Wr f l.len) → RdB w9 w4.heap.size ⟨(Wr f l.len).2.1.toArray⟩ (pos (Wr f (j + 1)).2) (Wr f (j + 1)).1 →
            S6J3 l (j : Int) (fun s' w' => ∃ n', n' < l.len - j ∧ ∃ (j : Nat), s' = (j : Int) ∧ j ≤ l.len ∧ n' = l.len - j ∧ WS w w' w.heap.size s (Wr f l.len) ∧ RdB w' w4.heap.size ⟨(Wr f l.len).2.1.toArray⟩ (pos (Wr f j).2) (Wr f j).1)
              ((numV (f j) : Nat) : Int) (fun r w1 => r = true ∧ Ext (fun _ => False) w w1) (((numV (f j) : Nat) : Int), 0, (f j).s) w9 := fun w9 h9 hR9 => by
          unfold S6J3
          obtain ⟨k1, k2, k3, k4⟩ := hgo h9.ext
          rw [hp]
          simp only [Int.toNat_natCast, add_add']
          rw [bne_self, Br_false]
          refine Br_of (fun h => by cases h) fun _ => ⟨by omega, by omega, Nn.of ⟨_, k4, ?_⟩⟩
          dsimp only
          rw [str_self, Br_false]
          exact ⟨l.len - (j + 1), by omega, j + 1, by rw [i64_id (by omega)]; rfl, by omega, rfl, h9, hR9⟩
        refine ⟨by omega, by omega, Nn.of ⟨_, k4, Join.intro ⟨by omega, by omega, Nn.of ⟨_, k1, ?_⟩⟩⟩⟩
        have hN := numN_lt (f j)
        generalize stepA f j (Wr f j) = A at hr hB hR8 hA2
        have hple := hB.le
        refine Br_of (fun d0 => ?_) fun d0 => Br_of (fun d1 => ?_) fun d1 => Br_of (fun d3 => ?_) fun d3 => ?_
        · have d0 : (f j).d = 0 := by simpa using d0
          obtain ⟨g1, g2, g3⟩ := hB.low d0
          refine (c_low hR8 (by rw [hTs]; omega) hs6 _).mono ?_
          rw [tkR_go (hr.low d0) (by omega) (by rw [hTs]; omega), g1]
          rintro v e w9 ⟨rfl, rfl, h1, e9⟩
          refine fin w9 (hst h8 e9) ?_
          rw [g2, g3]
          exact h1
        · have d1 : (f j).d = 1 := by simpa using d1
          obtain ⟨g1, g2, g3⟩ := hB.high d1
          refine (c_high hR8 (by rw [hTs]; omega) hs6 _).mono ?_
          rw [tkR_go (hr.high d1) (by omega) (by rw [hTs]; omega), g1]
          rintro v e w9 ⟨rfl, rfl, h1, e9⟩
          refine fin w9 (hst h8 e9) ?_
          rw [g2, g3]
          exact h1
        · have d3 : (f j).d = 3 := by simpa using d3
          obtain ⟨g1, g2, g3⟩ := hB.raw d3
          obtain ⟨_, hw2⟩ := hr.whole (by omega) (by omega)
          have hp8 : pos A.2 % 8 = 0 := by unfold pos; rw [if_pos hw2]; omega
          refine ⟨by omega, by omega, Nn.of ⟨_, k4, (c_raw hR8 (by rw [hTs]; omega) hs6 _).mono ?_⟩⟩
          rw [rawR_ok (by omega) (by rw [hTs]; omega), Int.toNat_natCast, extract_eq (by omega) g3]
          rintro v e w9 ⟨rfl, rfl, h1, e9⟩
          refine fin w9 (hst h8 e9) ?_
          rw [g1, g2]
          exact h1
        · have d0 : ¬ (f j).d = 0 := by simpa using d0
          have d1 : ¬ (f j).d = 1 := by simpa using d1
          have d3 : ¬ (f j).d = 3 := by simpa using d3
          refine fin w8 h8 ?_
          rw [hB.other d0 d1 d3]
          exact hR8
      have h6d := h6.same (Ext.refl _ _).drew
      have hRd : RdB w6.drew w4.heap.size ⟨(Wr f l.len).2.1.toArray⟩ (pos (Wr f j).2) (Wr f j).1 := hR
      refine Join.intro ?_
      rw [hp]
      refine al_cases (ha.keep h6d.ext) hl hjl hp (fun hal => ?_) fun hal => main _ h6d (by rw [stepA_no hal]; exact hRd)
      refine (c_align hRd (by rw [hTs]; omega) hs6).mono ?_
      rintro w7 ⟨h7, e7⟩
      refine main _ (hst h6d e7) ?_
      rw [stepA_yes hal]
      obtain ⟨p1, p2⟩ := pos_le f j
      have : pos (0, (Wr f j).2.1, 0).2 = (pos (Wr f j).2 + 7) / 8 * 8 := by
        show 8 * (Wr f j).2.1.length = _
        omega
      rw [this]
      exact h7
    · have hjl : j = l.len := by
        have : ¬ (j : Int) < (l.len : Int) := by simpa using h
        omega
      subst hjl
      refine (c_at hR (by rw [hTs]; omega) hs6).mono ?_
      rintro x w7 ⟨rfl, rfl⟩
      refine (c_wlen h6.pb).mono ?_
      rintro x w8 ⟨rfl, rfl⟩
      refine Br_of (fun _ => ?_) fun h => ?_
      · refine (c_left hR (by rw [hTs]; omega) hs6).mono ?_
        rintro x w9 ⟨rfl, rfl⟩
        refine Br_of (fun _ => liv h6.ext.drew) fun h => ?_
        rw [hTs] at h
        have : ¬ ((8 * (Wr f l.len).2.1.length - pos (Wr f l.len).2 : Nat) : Int) < 8 := by simpa using h
        omega
      · have : ¬ (((pos (Wr f l.len).2 + 7) / 8 : Nat) : Int) = (((Wr f l.len).2.1.length : Nat) : Int) := by simpa using h
        omega
end Bit
end Go.Proofs.Ytahdpfjikmechaa
