/- BitWrites, over the formulas of the code. Condition: the list of calls can be read. -/
import Derived.Test.YtahdpfjikmechaaBitB
import Derived.Test.YtahdpfjikmechaaBitV
namespace Go.Proofs.Ytahdpfjikmechaa
namespace Bit
open Sh
set_option linter.unusedVariables false
set_option linter.unusedSimpArgs false

/-- The two writers side by side. -/
structure WPair (w0 w : World) (b c : Nat) (s1 s2 : Slc) (way : Int) (st : List UInt8 × Nat) : Prop where
  pb : WrB w b s1 way st
  pc : WrR w c s2 way st
  inv : WInv way st
  apart : ∀ j, fp b s1 j → ¬ fp c s2 j
  newB : ∀ j, fp b s1 j → w0.heap.size ≤ j
  newC : ∀ j, fp c s2 j → w0.heap.size ≤ j
  ext : Ext (fun _ => False) w0 w
section
variable {w0 w w1 w2 : World} {b c : Nat} {s1 s2 s1' s2' : Slc} {way way' : Int} {st st' : List UInt8 × Nat}
theorem fp_new {m : Nat} {s s' : Slc} (h : Wn w w1 b s s') (hm : m ≤ w.heap.size) : ∀ j, fp b s' j → fp b s j ∨ m ≤ j := fun j hj =>
  hj.elim (fun h => .inl (.inl h)) fun h2 => (h.new j h2).elim (fun h => .inl (.inr h)) fun h => .inr (Nat.le_trans hm h)
theorem WPair.mid (h : WPair w0 w b c s1 s2 way st) (hn : Wn w w1 b s1 s1') : WrR w1 c s2 way st := h.pc.keep hn.ext fun j hj hj' => h.apart j hj' hj
theorem WPair.step (h : WPair w0 w b c s1 s2 way st) (h1 : WrB w1 b s1' way' st') (n1 : Wn w w1 b s1 s1') (h2 : WrR w2 c s2' way' st') (n2 : Wn w1 w2 c s2 s2') (hi : WInv way' st') : WPair w0 w2 b c s1' s2' way' st' := by
  have a1 : ∀ j, fp b s1' j → ¬ fp c s2 j := fun j hj hj' => (fp_new n1 (Nat.le_refl _) j hj).elim (fun hh => h.apart j hh hj') fun hh => by have := h.pc.lt j hj'; omega
  have b1 : ∀ j, fp b s1' j → w0.heap.size ≤ j := fun j hj => (fp_new n1 h.ext.size j hj).elim (h.newB j) id
  have e1 := h.ext.fresh n1.ext h.newB
  refine ⟨h1.keep n2.ext a1, h2, hi, fun j hj hj' => ?_, b1, fun j hj => (fp_new n2 e1.size j hj).elim (h.newC j) id, e1.fresh n2.ext h.newC⟩
  exact (fp_new n2 (Nat.le_refl _) j hj').elim (fun hh => a1 j hj hh) fun hh => by have := h1.lt j hj; omega
theorem WPair.same (h : WPair w0 w b c s1 s2 way st) (he : Ext (fun _ => False) w w1) : WPair w0 w1 b c s1 s2 way st :=
  ⟨h.pb.keep he fun _ _ h => h, h.pc.keep he fun _ _ h => h, h.inv, h.apart, h.newB, h.newC, h.ext.tr he⟩
end
theorem Wn.one {w w1 : World} {b : Nat} {s : Slc} (h : Ext (· = b) w w1) : Wn w w1 b s s := ⟨h.mono fun _ _ h => .inl h, fun _ h => .inl h⟩
theorem WInv.raw {way : Int} {st : List UInt8 × Nat} (h : WInv way st) (t : ByteArray) : WInv (rawWay way st) (rawS st t) := ⟨WOK.zero _ _, fun _ => rfl⟩

theorem writes (w : World) (l : Slc) (f : Nat → Ask) (ha : Asks w l f) : C4 l w fun r w1 => r = true ∧ Ext (fun _ => False) w w1 := by
  refine T4 _ _ _ ?_
  unfold S4
  refine Br_of (fun _ => liv (Ext.refl _ _)) fun e2 => ?_
  have hl : l.len ≤ 60 := by
    have : ¬ (60 : Int) < (l.len : Int) := by simpa using e2
    omega
  refine (c_new w).mono ?_
  rintro r w1 ⟨rfl, hb, he⟩
  refine (r_new w1).mono ?_
  rintro r w2 ⟨rfl, hc, he2⟩
  refine Br_of (fun h => by cases h) fun _ => ?_
  have hz : ∀ (b j : Nat), fp b ⟨none, 0, 0⟩ j → j = b := fun b j hj => hj.elim id fun ⟨a, ha, _⟩ => by cases ha
  have hlt := hb.blk.lt
  have start : WPair w w2 w.heap.size w1.heap.size ⟨none, 0, 0⟩ ⟨none, 0, 0⟩ 0 ([], 0) :=
    ⟨hb.keep he2 fun _ _ h => h, hc, WInv.zero _, fun j h1 h2 => by have := hz _ _ h1; have := hz _ _ h2; omega, fun j hj => by have := hz _ _ hj; omega, fun j hj => by have := hz _ _ hj; have := he.size; omega, he.tr he2⟩
  refine ⟨fun n i w3 => ∃ (j : Nat) (s1 s2 : Slc) (way : Int) (st : List UInt8 × Nat), i = (j : Int) ∧ j ≤ l.len ∧ n = l.len - j ∧ st.1.length ≤ 300 * j ∧ WPair w w3 w.heap.size w1.heap.size s1 s2 way st,
    l.len, ⟨0, _, _, _, _, rfl, by omega, by omega, by simp, start⟩, ?_⟩
  rintro n i w3 ⟨j, s1, s2, way, st, rfl, hj, rfl, hlen, hP⟩
  unfold S4L1
  refine Br_of (fun h => ?_) fun _ => liv hP.ext
  have hjl : j < l.len := by
    have : (j : Int) < (l.len : Int) := by simpa using h
    omega
  obtain ⟨a, hp, q1, q2, q3, q4⟩ := (ha.keep hP.ext) j hjl
  obtain ⟨a', hp', k1, k2, k3, k4⟩ := ha j hjl
  have : a' = a := by rw [hp] at hp'; cases hp'; rfl
  subst this
  rw [hp]
  simp only [Int.toNat_natCast, add_add']
  refine ⟨by omega, by omega, Nn.of ⟨_, q4, Br_of (fun _ => liv hP.ext) fun h300 => ?_⟩⟩
  have ht : (f j).s.size ≤ 300 := by
    have : ¬ (300 : Int) < ((f j).s.size : Int) := by simpa using h300
    omega
  refine Join.intro ⟨by omega, by omega, Nn.of ⟨_, q1, ?_⟩⟩
  have fin : ∀ (w4 : World) (s1' s2' : Slc) (way' : Int) (st' : List UInt8 × Nat), st'.1.length ≤ 300 * (j + 1) → WPair w w4 w.heap.size w1.heap.size s1' s2' way' st' →
      S4J1 (at1 w.heap.size) (at1 w1.heap.size) (j : Int) (fun s' w' => ∃ n', n' < l.len - j ∧ ∃ (j : Nat) (s1 s2 : Slc) (way : Int) (st : List UInt8 × Nat), s' = (j : Int) ∧ j ≤ l.len ∧ n' = l.len - j ∧ st.1.length ≤ 300 * j ∧ WPair w w' w.heap.size w1.heap.size s1 s2 way st)
        (fun r w1 => r = true ∧ Ext (fun _ => False) w w1) () w4 := fun w4 s1' s2' way' st' hl' h4 => by
    unfold S4J1
    refine (c_wlen h4.pb).mono ?_
    rintro x w5 ⟨rfl, rfl⟩
    refine (r_wlen h4.pc).mono ?_
    rintro x w6 ⟨rfl, rfl⟩
    rw [bne_self, Br_false]
    refine (c_wtext h4.pb (by omega)).mono ?_
    rintro x w7 ⟨rfl, e7⟩
    have h7 := h4.same e7
    refine (r_wtext h7.pc).mono ?_
    rintro x w8 ⟨rfl, rfl⟩
    rw [str_self, Br_false]
    exact ⟨l.len - (j + 1), by omega, j + 1, s1', s2', way', st', by rw [i64_id (by omega)]; rfl, by omega, rfl, hl', h7⟩
  have ldn : ∀ {x : Int} {o : Nat} {K : Int → Prop}, w.cell? (a'.add o) = some (.int .i64 x) → K x → LdS (fun w' => Ext (fun _ => False) w w') (a'.add o) (Value.int .i64) K := fun hc hk => ⟨_, fun w' he => he.cellOf hc id, hk⟩
  refine Br_of (fun _ => ?_) fun _ => Br_of (fun _ => ?_) fun _ => Br_of (fun _ => ?_) fun _ => Br_of (fun _ => ?_) fun _ => fin _ _ _ _ _ (by omega) hP
  · have hP := hP.same (Ext.refl _ _).drew
    refine ⟨fun w' => Ext (fun _ => False) w w', hP.ext, by omega, by omega, Nn.of (ldn k3 ⟨by omega, by omega, Nn.of (ldn k2 ⟨by omega, by omega, Nn.of (ldn k3 ⟨by omega, by omega, Nn.of (ldn k2 ?_)⟩)⟩)⟩)⟩
    refine (c_wlow hP.pb hP.inv (by omega) _ _).mono ?_
    rintro e w4 ⟨rfl, s1', h1, n1⟩
    refine ⟨hP.ext.fresh n1.ext hP.newB, (r_wlow (hP.mid n1) hP.inv (by omega) _ _).mono ?_⟩
    rintro e w5 ⟨rfl, s2', h2, n2⟩
    have := putR_len way st (f j).v (f j).n 1
    have hN := hP.step h1 n1 h2 n2 (hP.inv.put _ _ (by decide))
    rw [bne_self, Br_false]
    exact fin _ _ _ _ _ (by omega) hN
  · have hP := hP.same (Ext.refl _ _).drew
    refine ⟨fun w' => Ext (fun _ => False) w w', hP.ext, by omega, by omega, Nn.of (ldn k3 ⟨by omega, by omega, Nn.of (ldn k2 ⟨by omega, by omega, Nn.of (ldn k3 ⟨by omega, by omega, Nn.of (ldn k2 ?_)⟩)⟩)⟩)⟩
    refine (c_whigh hP.pb hP.inv (by omega) _ _).mono ?_
    rintro e w4 ⟨rfl, s1', h1, n1⟩
    refine ⟨hP.ext.fresh n1.ext hP.newB, (r_whigh (hP.mid n1) hP.inv (by omega) _ _).mono ?_⟩
    rintro e w5 ⟨rfl, s2', h2, n2⟩
    have := putR_len way st (f j).v (f j).n 2
    have hN := hP.step h1 n1 h2 n2 (hP.inv.put _ _ (by decide))
    rw [bne_self, Br_false]
    exact fin _ _ _ _ _ (by omega) hN
  · refine (c_walign hP.pb).mono ?_
    rintro w4 ⟨h1, n1⟩
    refine (r_walign (hP.mid (Wn.one n1))).mono ?_
    rintro w5 ⟨h2, n2⟩
    exact fin _ _ _ _ _ (by show st.1.length ≤ _; omega) (hP.step h1 (Wn.one n1) h2 (Wn.one n2) (WInv.zero _))
  · refine ⟨by omega, by omega, Nn.of ⟨_, q4, (c_wraw hP.pb _ (by omega) (by omega)).mono ?_⟩⟩
    rintro w4 ⟨s1', h1, n1⟩
    have e4 := hP.ext.fresh n1.ext hP.newB
    refine ⟨by omega, by omega, Nn.of ⟨_, e4.cellOf k4 id, (r_wraw (hP.mid n1) _ (by omega) (by omega)).mono ?_⟩⟩
    rintro w5 ⟨s2', h2, n2⟩
    have hsz : (f j).s.data.toList.length = (f j).s.size := Array.length_toList
    exact fin _ _ _ _ _ (by unfold rawS; rw [List.length_append, hsz]; omega) (hP.step h1 n1 h2 n2 (hP.inv.raw _))
end Bit
end Go.Proofs.Ytahdpfjikmechaa
