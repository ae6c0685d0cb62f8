/- What the writers of package bit and of its reference do, call by call. Conditions: the writer is not nil, it holds at most 2^39 bytes. -/
import Derived.Test.YtapgacggllbhiaaBitWB
import Derived.Test.YtapgacggllbhiaaBy
import Derived.Test.YtapgacggllbhiaaFnBit
namespace Go.Proofs.Ytapgacggllbhiaa
namespace Bit
open Sh
set_option linter.unusedVariables false

/-- The blocks of a writer. -/
def fp (b : Nat) (s : Slc) : Nat → Prop := fun j => j = b ∨ s.own j
/-- What a call may have done to the blocks of a writer. -/
structure Wn (w w' : World) (b : Nat) (s s' : Slc) : Prop where
  ext : Ext (fp b s) w w'
  new : ∀ j, s'.own j → s.own j ∨ w.heap.size ≤ j
theorem Wn.refl (w : World) (b : Nat) (s : Slc) : Wn w w b s s := ⟨Ext.refl _ _, fun _ h => .inl h⟩
theorem Wn.trans {w w1 w2 : World} {b : Nat} {s s1 s2 : Slc} (h : Wn w w1 b s s1) (k : Wn w1 w2 b s1 s2) : Wn w w2 b s s2 :=
  ⟨h.ext.trans k.ext (fun _ h => h) fun i hi hg => hg.elim .inl fun hg => (h.new i hg).elim .inr fun h2 => by omega,
    fun j hj => (k.new j hj).elim (h.new j) fun h2 => .inr (Nat.le_trans h.ext.size h2)⟩
theorem Wn.to {w w1 w2 : World} {b : Nat} {s s1 : Slc} (h : Wn w w1 b s s1) (k : Ext (· = b) w1 w2) : Wn w w2 b s s1 :=
  ⟨h.ext.trans k (fun _ h => h) fun i hi hg => .inl hg, h.new⟩
theorem Wn.to' {w w1 w2 : World} {b : Nat} {s s1 : Slc} (h : Wn w w1 b s s1) (k : Ext (fun _ => False) w1 w2) : Wn w w2 b s s1 :=
  ⟨h.ext.trans k (fun _ h => h) fun i hi hg => hg.elim, h.new⟩

/-- A writer of package bit: its bytes, how many bits of the last are used, the order. -/
structure WrB (w : World) (b : Nat) (s : Slc) (way : Int) (st : List UInt8 × Nat) : Prop where
  blk : Blk w b #[.int .i64 way, .int .i64 ((st.2 : Nat) : Int), Slc.v s] 78
  row : BRow w s st.1
  own : ¬ s.own b
abbrev at1 (b : Nat) : Option Addr := some ⟨b, 0, none⟩

section
variable {w w2 : World} {b : Nat} {s : Slc} {way : Int} {st : List UInt8 × Nat}
theorem WrB.keep {G : Nat → Prop} (h : WrB w b s way st) (he : Ext G w w2) (hn : ∀ j, fp b s j → ¬ G j) : WrB w2 b s way st :=
  ⟨he.blk h.blk (hn b (.inl rfl)), h.row.keep he fun j hj => hn j (.inr hj), h.own⟩
theorem WrB.lt (h : WrB w b s way st) : ∀ j, fp b s j → j < w.heap.size := fun j hj => hj.elim (fun e => e ▸ h.blk.lt) h.row.own_lt
theorem p_place {cs : Array Value} {t : TypeId} {u : Nat} (h : Blk w b cs t) (hu : cs[1]? = some (.int .i64 ((u : Nat) : Int))) (hlt : u < 8) (w' : Int) :
    C57 (at1 b) w' w fun x w1 => x = ((pl w' u : Nat) : Int) ∧ w1 = w := by
  refine T57 _ _ _ _ ?_
  unfold S57
  unfold pl
  by_cases hw : w' = 1
  · simp only [hw, beq_self_eq_true, Br_true]
    exact Nn.of (Ld.of h hu ⟨rfl, trivial⟩)
  · simp only [hw, if_false, beq_eq_false_iff_ne.2 hw, Br_false]
    exact Nn.of (Ld.of h hu ⟨by rw [i64_id (by omega)]; omega, trivial⟩)
theorem p_other {cs : Array Value} {t : TypeId} (h : Blk w b cs t) (hu : cs[0]? = some (.int .i64 way)) (w' : Int) :
    C51 (at1 b) w' w fun x w1 => x = (way != 0 && way != w') ∧ w1 = w := by
  refine T51 _ _ _ _ ?_
  unfold S51
  refine Nn.of (Ld.of h hu (Br_of (fun e => ?_) fun e => ?_))
  · exact Nn.of (Ld.of h hu ⟨by simp [e], rfl⟩)
  · exact ⟨by simp [e], rfl⟩

theorem c_new (w : World) : C24 w fun r w1 => r = at1 w.heap.size ∧ WrB w1 w.heap.size ⟨none, 0, 0⟩ 0 ([], 0) ∧ Ext (fun _ => False) w w1 := by
  refine T24 _ _ ?_
  unfold S24
  refine (Hx.start w (fun _ => False)).nw fun w2 H => ⟨rfl, ⟨H.get 0 rfl, BRow.nil _, ?_⟩, H.ext⟩
  rintro ⟨a, ha, _⟩
  cases ha

theorem last_get {l : List UInt8} (h : l ≠ []) : ∃ x, l[l.length - 1]? = some x ∧ x.toNat = lastN l := by
  have : 0 < l.length := List.length_pos_iff.2 h
  refine ⟨l[l.length - 1], List.getElem?_eq_getElem (by omega), ?_⟩
  unfold lastN
  simp [List.getD, List.getElem?_eq_getElem (show l.length - 1 < l.length by omega)]
theorem newByte {way : Int} (h : WOK way st) {x : Nat} (hx : x ≤ 1) :
    ior .u8 ((lastN (grow st) : Nat) : Int) (IntKind.u8.wrap (IntKind.i64.wrap ((x : Int) * 2 ^ min (((pl way st.2 : Nat) : Int)).toNat 64))) =
      (((UInt8.ofNat (lastN (grow st) + x * 2 ^ pl way st.2)).toNat : Nat) : Int) := by
  obtain ⟨h1, h2, h3⟩ := place_new h hx
  have hlt := h.lt
  have hp : pl way st.2 ≤ 7 := by unfold pl; split <;> omega
  have e : ((x : Int) * 2 ^ min (((pl way st.2 : Nat) : Int)).toNat 64) = ((x * 2 ^ pl way st.2 : Nat) : Int) := by
    rw [Int.toNat_natCast, Nat.min_eq_left (by omega)]
    simp
  rw [e, i64_id (by omega), u8_id (by omega), ior_u8_nat (lastN_lt _) h3, h2, UInt8.toNat_ofNat_of_lt' h1]

theorem c_wone (h : WrB w b s way st) {w' : Int} (hok : WOK w' st) (hsz : st.1.length ≤ 549755813888) {x : Nat} (hx : x ≤ 1) :
    C53 (at1 b) (x : Int) w' w fun w1 => ∃ s', WrB w1 b s' way (oneS w' st x) ∧ Wn w w1 b s s' := by
  refine T53 _ _ _ _ _ ?_
  unfold S53
  obtain ⟨hb, hr, ho⟩ := h
  have hlt := hok.lt
  have H0 : Hx w (fp b s) w _ := Hx.one hb
  refine Nn.of (H0.ld 0 rfl rfl (Br_of (fun e => ?a) fun e => ?b))
  case' a =>
    have e0 : st.2 = 0 := by simpa using e
    refine Nn.of (H0.ld 0 rfl rfl (H0.nw' fun w2 H he => ?_))
    have hr1 := hr.keep he fun _ _ h => h
    obtain ⟨s1, w3, hrun, hrow, hext, hnew⟩ := app_one (ty := 76) (b := 0) hr1 (H.get 1 rfl) (by omega)
    refine ⟨s1, w3, hrun, Nn.of ?_⟩
    have hsub : ∀ j, s.own j → j ∉ [b, w.heap.size] := fun j hj hm => by
      rcases List.mem_cons.1 hm with h | h
      · exact ho (h ▸ hj)
      · have := hr.own_lt hj
        have : j = w.heap.size := by simpa using h
        omega
    have H := H.other hext (fun j hj => hsub j hj) fun j hj => .inl (.inr hj)
    have hf1 : ∀ j, s1.own j → s.own j ∨ w.heap.size ≤ j := fun j hj => (hnew j hj).imp id fun h => Nat.le_trans he.size h
    have ho1 : ¬ s1.own b := fun hj => (hf1 b hj).elim ho fun h => by have := hb.lt; omega
    refine H.st' 0 rfl (by simp) (.inl (.inl rfl)) fun w4 H he4 => ?_
    have hrow := hrow.keep he4 fun j hj e => ho1 (by have e : j = b := e; rw [← e]; exact hj)
    have H := H.only 0 rfl
    have hg : st.1 ++ [0] = grow st := by unfold grow; rw [if_pos e0]
    rw [hg] at hrow
  case' b =>
    have e0 : ¬ st.2 = 0 := by
      have : ¬ ((st.2 : Nat) : Int) = 0 := by simpa using e
      omega
    have hrow : BRow w s (grow st) := by unfold grow; rw [if_neg e0]; exact hr
    have H := H0
    have hf1 : ∀ j, s.own j → s.own j ∨ w.heap.size ≤ j := fun j hj => .inl hj
    have ho1 := ho
  all_goals
    have HD := H.drew
    have hrow := hrow.keep (Ext.refl (fun _ => False) _).drew fun _ _ h => h
    have hlen := hrow.len
    have hgn := grow_ne hok
    have hpos : 0 < (grow st).length := List.length_pos_iff.2 hgn
    have hgl := grow_len st
    obtain ⟨y, hy, hyN⟩ := last_get hgn
    obtain ⟨g, hp, hc⟩ := hrow.get hy
    obtain ⟨g', hp', hcan, hset, he5⟩ := hrow.set (show (grow st).length - 1 < (grow st).length by omega) (UInt8.ofNat (lastN (grow st) + x * 2 ^ pl w' st.2))
    have : g' = g := by rw [hp] at hp'; cases hp'; rfl
    subst this
    refine ⟨fun w3 => w3 = _, rfl, Nn.of (LdS.of (fun w3 e => e ▸ HD.get 0 rfl) rfl (Nn.of (LdS.of (fun w3 e => e ▸ HD.get 0 rfl) rfl ?_)))⟩
    rw [hlen, i64_id (by omega), show ((((grow st).length : Nat) : Int) - 1).toNat * 1 = (grow st).length - 1 by omega, hp]
    refine ⟨by omega, by omega, Nn.of ⟨((lastN (grow st) : Nat) : Int), fun w3 e => by rw [e, add_lit, Nat.zero_add, hc, hyN], Nn.of ((p_place (HD.get 0 rfl) rfl hlt w').mono ?_)⟩⟩
    rintro r w3 ⟨rfl, rfl⟩
    refine ⟨rfl, by omega, by omega, by omega, Nn.of ⟨by rw [add_lit, Nat.zero_add]; exact hcan, Nn.of ?_⟩⟩
    rw [add_lit, Nat.zero_add, newByte hok hx]
    have hgne : g' ≠ b := fun e => ho1 ⟨_, hp, e⟩
    have hgb : ∀ j, j = g' → j ∉ [b] := fun j hj hm => hgne (by rw [← hj]; simpa using hm)
    have H5 := HD.other he5 hgb fun j hj => by rw [hj]; exact (hf1 g' ⟨_, hp, rfl⟩).imp .inr id
    refine H5.ld 0 rfl rfl (Nn.of (H5.st' 0 rfl (by simp) (.inl (.inl rfl)) fun w6 H6 he6 => ?_))
    refine ⟨_, ⟨?_, hset.keep he6 fun j hj e => ho1 (by have e : j = b := e; rw [← e]; exact hj), ho1⟩, H6.ext, hf1⟩
    have := H6.get 0 rfl
    rw [i64_id (by omega), tmod_id (by omega)] at this
    exact this

theorem c_put (h : WrB w b s way st) (hi : WInv way st) (hsz : st.1.length ≤ 274877906944) (v n : Int) {w' : Int} (hw' : w' = 1 ∨ w' = 2) :
    C46 (at1 b) v n w' w fun e w1 => e = (putR way st v n w').1 ∧ ∃ s', WrB w1 b s' (putR way st v n w').2.2 (putR way st v n w').2.1 ∧ Wn w w1 b s s' := by
  refine T46 _ _ _ _ _ _ ?_
  unfold S46
  have no : (n < 0 ∨ 24 < n ∨ v < 0 ∨ 2 ^ n.toNat ≤ v ∨ (way ≠ 0 ∧ way ≠ w')) → (1 : Int) = (putR way st v n w').1 ∧ ∃ s', WrB w b s' (putR way st v n w').2.2 (putR way st v n w').2.1 ∧ Wn w w b s s' := fun hc => by
    rw [putR_arg hc]; exact ⟨rfl, s, h, Wn.refl _ _ _⟩
  refine Br_of (fun e => ?_) fun _ => Br_of (fun e => ?_) fun e1 => Br_of (fun e => ?_) fun e2 => Br_of (fun e => ?_) fun e3 => ⟨by simpa using e1, Br_of (fun e => ?_) fun e4 => ?_⟩
  · cases e
  · exact no (.inl (by simpa using e))
  · exact no (.inr (.inl (by simpa using e)))
  · exact no (.inr (.inr (.inl (by simpa using e))))
  all_goals
    have h0 : ¬ n < 0 := by simpa using e1
    have h24 : n ≤ 24 := by simpa using e2
    have hv0 : ¬ v < 0 := by simpa using e3
    obtain ⟨m, rfl⟩ := Int.eq_ofNat_of_zero_le (show 0 ≤ n by omega)
    obtain ⟨u, rfl⟩ := Int.eq_ofNat_of_zero_le (show 0 ≤ v by omega)
    have hp24 := two_pow_24 (show m ≤ 24 by omega)
    have hpp := two_pow_pos m
    have hwr : IntKind.i64.wrap (1 * 2 ^ min ((m : Int)).toNat 64) = 2 ^ m := by
      rw [Int.toNat_natCast, Nat.min_eq_left (by omega), Int.one_mul, i64_id (by omega)]
  · have e : (2 : Int) ^ m ≤ (u : Int) := by rw [hwr] at e; simpa using e
    exact no (.inr (.inr (.inr (.inl (by rw [Int.toNat_natCast]; exact e)))))
  have hlt : (u : Int) < 2 ^ m := by rw [hwr] at e4; simpa using e4
  refine Nn.of ((p_other h.blk rfl w').mono ?_)
  rintro x w1 ⟨rfl, rfl⟩
  refine Br_of (fun e => ?_) fun e5 => ?_
  · exact no (.inr (.inr (.inr (.inr (by simpa using e)))))
  have hno : ¬ (way ≠ 0 ∧ way ≠ w') := by simpa using e5
  have hall : ¬ ((m : Int) < 0 ∨ 24 < (m : Int) ∨ (u : Int) < 0 ∨ 2 ^ ((m : Int)).toNat ≤ (u : Int) ∨ (way ≠ 0 ∧ way ≠ w')) := by
    rw [Int.toNat_natCast]; omega
  have hok := hi.to hno
  rw [putR_ok hall, Int.toNat_natCast, Int.toNat_natCast]
  have hu24 : u < 16777216 := by omega
  refine ⟨fun k i w3 => ∃ j : Nat, j ≤ m ∧ k = m - j ∧ i = (j : Int) ∧ ∃ s', WrB w3 b s' way (putS w' u m st j) ∧ Wn w1 w3 b s s', m, ⟨0, by omega, by omega, rfl, s, h, Wn.refl _ _ _⟩, ?_⟩
  rintro k i w3 ⟨j, hj, rfl, rfl, s', hb, hn⟩
  unfold S46L1
  have hokj := hok.put u m j
  have hlen := putS_len w' u m st j
  refine Br_of (fun e => ?_) fun e => ?_
  · have hjm : j < m := by simpa using e
    have key : ∀ x : Int, x = ((vbit w' u m j : Nat) : Int) → C53 (at1 b) x w' w3 fun w4 => ∃ n', n' < m - j ∧ ∃ j' : Nat, j' ≤ m ∧ n' = m - j' ∧ IntKind.i64.wrap ((j : Int) + 1) = (j' : Int) ∧ ∃ s', WrB w4 b s' way (putS w' u m st j') ∧ Wn w1 w4 b s s' := fun x hx => by
      rw [hx]
      refine (c_wone hb hokj (by omega) (vbit_le _ _ _ _)).mono ?_
      rintro w4 ⟨s2, hb2, hn2⟩
      exact ⟨m - (j + 1), by omega, j + 1, by omega, rfl, by rw [i64_id (by omega)]; rfl, s2, hb2, hn.trans hn2⟩
    rcases hw' with rfl | rfl
    · simp only [show ((1 : Int) == 2) = false by rfl, Br_false]
      refine ⟨by omega, key _ ?_⟩
      rw [Int.toNat_natCast, Nat.min_eq_left (by omega), vbit_low u j hu24]
      simp [vbit]
    · simp only [beq_self_eq_true, Br_true]
      rw [i64_id (n := (m : Int) - 1) (by omega), i64_id (by omega)]
      refine ⟨by omega, key _ ?_⟩
      rw [show ((m : Int) - 1 - (j : Int)).toNat = m - 1 - j by omega, Nat.min_eq_left (by omega), vbit_low u _ hu24]
      simp [vbit]
  · have hge : j = m := by
      have : ¬ (j : Int) < m := by simpa using e
      omega
    subst hge
    refine Br_of (fun e => ?_) fun e => ?_
    · have hpos : (0 : Int) < j := by simpa using e
      rw [if_pos hpos]
      refine Nn.of ((Hx.one (F := (· = b)) hb.blk).st' 0 rfl (by simp) (.inl rfl) fun w5 H he => ⟨rfl, s', ⟨H.get 0 rfl, hb.row.keep he fun i hi e => hb.own (by have e : i = b := e; rw [← e]; exact hi), hb.own⟩, hn.to he⟩)
    · have hz : ¬ (0 : Int) < j := by simpa using e
      rw [if_neg hz]
      exact ⟨rfl, s', hb, hn⟩
theorem c_wlow (h : WrB w b s way st) (hi : WInv way st) (hsz : st.1.length ≤ 274877906944) (v n : Int) :
    C41 (at1 b) v n w fun e w1 => e = (putR way st v n 1).1 ∧ ∃ s', WrB w1 b s' (putR way st v n 1).2.2 (putR way st v n 1).2.1 ∧ Wn w w1 b s s' :=
  T41 _ _ _ _ _ (c_put h hi hsz v n (.inl rfl))
theorem c_wlen (h : WrB w b s way st) : C27 (at1 b) w fun x w1 => x = ((st.1.length : Nat) : Int) ∧ w1 = w := by
  refine T27 _ _ _ ?_
  unfold S27
  refine Br_of (fun e => ?_) fun _ => Nn.of (Ld.of h.blk rfl ⟨by rw [h.row.len], rfl⟩)
  cases e
theorem c_clone {l : List UInt8} (h : BRow w s l) (hsz : l.length ≤ 549755813888) : C42 s w fun s' w1 => BRow w1 s' l ∧ Ext (fun _ => False) w w1 := by
  refine T42 _ _ _ ?_
  unfold S42
  refine Br_of (fun e => ?_) fun e => (Hx.start w (fun _ => False)).nw' fun w2 H he => ?_
  · have : l = [] := by
      rcases h.2 with rfl | ⟨g, cur, hp, _⟩
      · exact List.eq_nil_of_length_eq_zero (by have := h.len; simpa using this.symm)
      · rw [hp] at e; cases e
    rw [this]
    exact ⟨BRow.nil _, Ext.refl _ _⟩
  · have hr : BRow w2 ⟨some ⟨w.heap.size, 0, none⟩, 0, 0⟩ [] := ⟨rfl, .inr ⟨_, #[], rfl, H.get 0 rfl, Nat.le_refl _, rfl, rfl⟩⟩
    obtain ⟨s1, w3, hrun, hrow, hext, hnew⟩ := app_row (ty := 76) hr (h.keep he fun _ _ h => h) (by simp; omega)
    refine ⟨s1, w3, hrun, hrow, he.trans hext (fun _ h => h) fun i hi ⟨a, ha, hb⟩ => ?_⟩
    cases ha
    have : w.heap.size = i := hb
    omega
theorem c_wtext (h : WrB w b s way st) (hsz : st.1.length ≤ 549755813888) : C26 (at1 b) w fun x w1 => x = ⟨st.1.toArray⟩ ∧ Ext (fun _ => False) w w1 := by
  refine T26 _ _ _ ?_
  unfold S26
  refine Br_of (fun e => ?_) fun _ => Nn.of (Ld.of h.blk rfl ((c_clone h.row hsz).mono ?_))
  · cases e
  rintro s' w1 ⟨hr, he⟩
  exact ⟨_, w1, str_row hr, rfl, he⟩
end
end Bit
end Go.Proofs.Ytapgacggllbhiaa
