/- Inflate: slices.Repeat, the laid variables, the program's Fixed and lengths. Conditions: sizes. -/
import Derived.Test.YtapgacggllbhiaaDoorInH
import Derived.Laws.CopyRow
import Derived.Laws.IdiomCopy
import Derived.Laws.IdiomMaps
namespace Go.Proofs.YtapgacggllbhiaaDoor
namespace Inf
open Sh Bit
set_option linter.unusedVariables false
set_option linter.unusedSimpArgs false
set_option maxRecDepth 4000
set_option maxHeartbeats 2000000
theorem iand_u64 {x y : Nat} (hx : x < 2 ^ 63) (hy : y < 2 ^ 63) : iand .u64 (x : Int) (y : Int) = ((x &&& y : Nat) : Int) := by
  unfold iand
  rw [ofInt_nat, ofInt_nat]
  have h1 : (BitVec.ofNat IntKind.u64.bits x &&& BitVec.ofNat IntKind.u64.bits y).toNat = x &&& y := by
    rw [BitVec.toNat_and, BitVec.toNat_ofNat, BitVec.toNat_ofNat, Nat.mod_eq_of_lt (by simp [IntKind.bits]; omega), Nat.mod_eq_of_lt (by simp [IntKind.bits]; omega)]
  rw [h1]
  have h2 : x &&& y < 2 ^ 63 := Nat.and_lt_two_pow x hy
  exact u64_id (by omega)
theorem low32 {x : Nat} (hx : x < 4294967296) : iand .u64 (x : Int) 4294967295 = (x : Int) := by
  have := iand_u64 (x := x) (y := 4294967295) (by omega) (by omega)
  rw [show (4294967295 : Int) = ((4294967295 : Nat) : Int) by rfl, this, show (4294967295 : Nat) = 2 ^ 32 - 1 by decide, Nat.and_two_pow_sub_one_eq_mod, Nat.mod_eq_of_lt (by omega)]
theorem fdiv32 {x : Nat} (hx : x < 4294967296) : Int.fdiv (x : Int) (2 ^ 32) = 0 := by
  rw [fdiv_pow, show (2 : Int) ^ 32 = 4294967296 by decide]
  omega
attribute [local irreducible] Ld St Nw Nn Lt LdS
section
variable {w : World}
theorem c_mul64 {c : Nat} (hc : c ≤ 1000000) (w : World) : C74 1 (c : Int) w fun hi lo w1 => hi = 0 ∧ lo = (c : Int) ∧ w1 = w := by
  refine T74 _ _ _ _ ?_
  unfold S74
  have h1 : iand .u64 (1 : Int) 4294967295 = 1 := low32 (x := 1) (by omega)
  have h2 : Int.fdiv (1 : Int) (2 ^ 32) = 0 := fdiv32 (x := 1) (by omega)
  refine Lt.of (Lt.of (Lt.of (Lt.of ?_)))
  rw [h1, h2, low32 (x := c) (by omega), fdiv32 (x := c) (by omega)]
  simp only [Int.one_mul, Int.zero_mul, Int.mul_zero]
  rw [u64_id (n := (c : Int)) (by omega), fdiv32 (x := c) (by omega)]
  have e0 : IntKind.u64.wrap 0 = 0 := u64_id (by omega)
  simp only [e0, Int.add_zero]
  have h3 : iand .u64 (0 : Int) 4294967295 = 0 := low32 (x := 0) (by omega)
  have h4 : Int.fdiv (0 : Int) (2 ^ 32) = 0 := fdiv32 (x := 0) (by omega)
  simp only [h3, h4, e0, Int.add_zero]
  simp
theorem c_mulB {c : Nat} (hc : c ≤ 1000000) (w : World) : C55 1 (c : Int) w fun hi lo w1 => hi = 0 ∧ lo = (c : Int) ∧ w1 = w := by
  refine T55 _ _ _ _ ?_
  unfold S55
  exact c_mul64 hc w
theorem und_ints : Tryd.prog.underlying 28 = some (.slice 3) := by kernel_rfl
theorem info_int : (Tryd.prog.info? 3).map (·.size) = some 1 := by kernel_rfl
def repT (c k : Nat) (x : Int) : List Int := List.replicate k x ++ List.replicate (c - k) 0
theorem repT_len {c k : Nat} (hk : k ≤ c) (x : Int) : (repT c k x).length = c := by unfold repT; simp; omega
theorem repT_put {c k n : Nat} (h : k + n ≤ c) (x : Int) : (ints (repT c k x)).take k ++ ints (List.replicate n x) ++ (ints (repT c k x)).drop (k + n) = ints (repT c (k + n) x) := by
  unfold ints repT
  rw [List.map_append, List.take_left' (by simp), List.drop_append]
  simp only [List.map_replicate, List.map_append, List.length_replicate, List.drop_replicate]
  rw [show k - (k + n) = 0 by omega, show k + n - k = n by omega, List.replicate_zero, List.nil_append, List.replicate_append_replicate, show c - k - n = c - (k + n) by omega]
theorem setRow_blk {w : World} {g : Nat} {cur : Array Value} {t : TypeId} (h : Blk w g cur t) (cs : Array Value) : Blk (w.setRow g cs) g cs t ∧ Ext (· = g) w (w.setRow g cs) :=
  ⟨setRow_heap w g cur cs t _ h, ⟨rfl, rfl, rfl, by simp [World.setRow], fun k _ hk => setRow_other w g k _ (fun e => hk e)⟩⟩
theorem copy_rep {w : World} {g c k n sLen sCap : Nat} {x : Int} {a : Addr} (hB : Blk w g (ints (repT c k x)).toArray 3) (hn : n = Nat.min sLen (c - k)) (hk : k ≤ c) (hsrc : ∀ j v, (ints (List.replicate n x))[j]? = some v → w.cell? (a.add j) = some v) :
    ∃ w', RunV Tryd.prog (Builtin.copy_ #[28, 28] 3 #[Slc.v ⟨some ⟨g, k, none⟩, c - k, c - k⟩, Slc.v ⟨some a, sLen, sCap⟩]) w (.int .i64 (n : Int)) w' ∧ Blk w' g (ints (repT c (k + n) x)).toArray 3 ∧ Ext (· = g) w w' := by
  have hnc : n ≤ c - k := by rw [hn]; exact Nat.min_le_right _ _
  have hl : (ints (List.replicate n x)).length = n := by rw [ints_len, List.length_replicate]
  have h := run_copy_row (P := Tryd.prog) w 28 28 3 3 g k (c - k) (c - k) a sLen sCap (ints (repT c k x)).toArray 3 (ints (List.replicate n x)) und_ints info_int hB (by rw [hl, hn]) hsrc (by rw [hl, List.size_toArray, ints_len, repT_len hk]; omega) (ints_one _)
  rw [hl] at h
  have e : ((ints (repT c k x)).toArray.toList.take k ++ ints (List.replicate n x) ++ (ints (repT c k x)).toArray.toList.drop (k + n)) = ints (repT c (k + n) x) := repT_put (by omega) x
  rw [e] at h
  obtain ⟨b1, b2⟩ := setRow_blk hB (ints (repT c (k + n) x)).toArray
  exact ⟨_, h, b1, b2⟩
theorem c_repeat {g c : Nat} {x : Int} (hg : Blk w g #[.int .i64 x] 3) (hc : 1 ≤ c) (hc2 : c ≤ 1000) :
    C38 (⟨some ⟨g, 0, none⟩, 1, 1⟩ : Slc) (c : Int) w (fun r w1 => IV w1 r (List.replicate c x) ∧ Ext (fun _ => False) w w1 ∧ ∀ j, r.own j → w.heap.size ≤ j ∧ j < w1.heap.size) fun _ _ => False := by
  refine T38 _ _ _ _ _ ?_
  unfold S38
  refine Br.f (by simp) ?_
  rw [show IntKind.u64.wrap (((⟨some ⟨g, 0, none⟩, 1, 1⟩ : Slc).len : Nat) : Int) = 1 from u64_id (n := 1) (by omega), u64_id (n := (c : Int)) (by omega)]
  refine (c_mulB (by omega) w).mono ?_
  rintro hi lo w1 ⟨rfl, rfl, rfl⟩
  refine Br.f (by decide) (Br.f (by simp; omega) ?_)
  rw [i64_id (n := (c : Int)) (by omega)]
  obtain ⟨w2, hrun, hw2⟩ := elI.make (zs := [.int .i64 0]) rfl w1 c (by omega) (by omega)
  refine ⟨_, w2, hrun, ?_⟩
  have e2 : Ext (fun _ => False) w1 w2 := by rw [hw2]; exact (Ext.refl _ _).alloc _
  have hB : Blk w2 w1.heap.size (ints (repT c 0 x)).toArray 3 := by
    have e : repT c 0 x = List.replicate c 0 := by unfold repT; simp
    rw [hw2, flat_zero, e]
    exact Blk.new _ _ _
  have hsrc := e2.blk hg (fun h => h)
  obtain ⟨w3, hrun3, hB3, e3⟩ := copy_rep (n := 1) (sLen := 1) (sCap := 1) (a := ⟨g, 0, none⟩) hB ((Nat.min_eq_left (a := 1) (b := c - 0) (by omega)).symm) (by omega) fun j v hj => by
    have h0 : j = 0 := by
      have := (List.getElem?_eq_some_iff.1 hj).1
      rw [ints_len, List.length_replicate] at this
      omega
    subst h0
    have hv : Value.int .i64 x = v := by simpa [ints] using hj
    rw [add_lit, hsrc.cell, ← hv]
    rfl
  refine ⟨_, w3, hrun3, ?_⟩
  have new : ∀ {a b : World}, Ext (fun _ => False) w1 a → Ext (· = w1.heap.size) a b → Ext (fun _ => False) w1 b := fun a b => a.trans b (fun _ h => h) fun i hi e => by have e : i = w1.heap.size := e; omega
  refine ⟨fun n st w4 => ∃ k : Nat, st = (k : Int) ∧ 1 ≤ k ∧ k ≤ c ∧ n = c - k ∧ Blk w4 w1.heap.size (ints (repT c k x)).toArray 3 ∧ Ext (fun _ => False) w1 w4, c - 1, ⟨1, rfl, by omega, by omega, rfl, hB3, new e2 e3⟩, ?_⟩
  rintro n st w4 ⟨k, rfl, hk1, hk, rfl, hB4, e4⟩
  unfold S38L1
  refine Br.dec (fun q => ?_) fun q => ?_
  · have q : k < c := by have q : (k : Int) < (c : Int) := q; omega
    have cut1 : Slc.cut (⟨some ⟨w1.heap.size, 0, none⟩, c, c⟩ : Slc) 1 k c c = ⟨some ⟨w1.heap.size, k, none⟩, c - k, c - k⟩ := by
      unfold Slc.cut
      rw [if_neg (by omega)]
      simp only [Option.map_some, add_lit, Nat.zero_add, Nat.mul_one]
    have cut2 : Slc.cut (⟨some ⟨w1.heap.size, 0, none⟩, c, c⟩ : Slc) 1 0 k c = ⟨some ⟨w1.heap.size, 0, none⟩, k, c⟩ := by
      unfold Slc.cut
      rw [if_neg (by omega)]
      simp only [Option.map_some, add_lit, Nat.zero_add, Nat.zero_mul, Nat.sub_zero]
    obtain ⟨w5, hrun5, hB5, e5⟩ := copy_rep (n := Nat.min k (c - k)) (sLen := k) (sCap := c) (a := ⟨w1.heap.size, 0, none⟩) hB4.drew rfl hk fun j v hj => by
      have hjl := (List.getElem?_eq_some_iff.1 hj).1
      rw [ints_len, List.length_replicate] at hjl
      have hjk : j < k := Nat.lt_of_lt_of_le hjl (Nat.min_le_left _ _)
      have hv : Value.int .i64 x = v := by
        have := ints_get (l := List.replicate (Nat.min k (c - k)) x) (i := j) (by rw [List.length_replicate]; exact hjl)
        rw [this] at hj
        rw [List.getD_eq_getElem?_getD, List.getElem?_replicate, if_pos hjl] at hj
        exact Option.some.inj hj
      rw [add_lit, hB4.drew.cell, Nat.zero_add, List.getElem?_toArray, ints_get (by rw [repT_len hk]; omega), ← hv]
      unfold repT
      rw [List.getD_eq_getElem?_getD, List.getElem?_append_left (by rw [List.length_replicate]; omega), List.getElem?_replicate, if_pos hjk]
      rfl
    have hmin : 1 ≤ Nat.min k (c - k) := Nat.le_min.2 ⟨hk1, by omega⟩
    have hmin2 : Nat.min k (c - k) ≤ c - k := Nat.min_le_right _ _
    show 0 ≤ (k : Int) ∧ (k : Int) ≤ ((c : Nat) : Int) ∧ 0 ≤ (k : Int) ∧ (k : Int) ≤ ((c : Nat) : Int) ∧ _
    simp only [Int.toNat_natCast]
    rw [cut1, cut2]
    generalize Nat.min k (c - k) = z at *
    refine ⟨by omega, by omega, by omega, by omega, _, w5, hrun5, c - (k + z), by omega, k + z, by rw [i64_id (by omega)]; rfl, by omega, by omega, rfl, hB5, new e4.drew e5⟩
  · have q : ¬ k < c := by have q : ¬ (k : Int) < (c : Int) := q; omega
    have hkc : k = c := by omega
    subst hkc
    have e : repT k k x = List.replicate k x := by unfold repT; simp
    rw [e] at hB4
    refine ⟨IV.blk hB4 (by simp), e4, fun j hj => ?_⟩
    obtain ⟨a, ha, rfl⟩ := hj
    cases ha
    exact ⟨Nat.le_refl _, hB4.lt⟩
/-! ### The program's Fixed -/
def fixT : Nat → List Int
  | 0 => []
  | k + 1 => fixT k ++ (if k = 0 then List.replicate 144 8 else if k = 1 then List.replicate 112 9 else if k = 2 then List.replicate 24 7 else List.replicate 8 8)
theorem fixT_len : ∀ k, k ≤ 4 → (fixT k).length ≤ k * 144
  | 0, _ => Nat.le_refl _
  | k + 1, h => by
    have ih := fixT_len k (by omega)
    have e : fixT (k + 1) = fixT k ++ (if k = 0 then List.replicate 144 8 else if k = 1 then List.replicate 112 9 else if k = 2 then List.replicate 24 7 else List.replicate 8 8) := rfl
    rw [e, List.length_append]
    split
    · simp; omega
    · split
      · simp; omega
      · split
        · simp; omega
        · simp; omega
theorem c_Fixed (w : World) : C15 w (fun a b w1 => IV w1 a fixL ∧ IV w1 b fixD ∧ Ext (fun _ => False) w w1) fun _ _ => False := by
  refine T15 _ _ _ ?_
  unfold S15
  refine ⟨fun n st w1 => ∃ (k : Nat) (o : Slc), st = (o, (k : Int)) ∧ k ≤ 4 ∧ n = 4 - k ∧ Row w1 o 3 1 (ints (fixT k)) ∧ (∀ j, o.own j → w.heap.size ≤ j) ∧ Ext (fun _ => False) w w1, 4, ⟨0, ⟨none, 0, 0⟩, rfl, by omega, rfl, Row.nil _ _ _, fun j hj => (by obtain ⟨a, ha, _⟩ := hj; cases ha), Ext.refl _ _⟩, ?_⟩
  rintro n st w1 ⟨k, o, rfl, hk, rfl, hrow, hown, he⟩
  unfold S15L1
  dsimp only
  have hlen := fixT_len k hk
  have hrl := hrow.1
  rw [ints_len] at hrl
  refine Br.dec (fun q => ?_) fun q => ?_
  · have hcase : ∃ m l : Nat, (#[.int .i64 144, .int .i64 8, .int .i64 112, .int .i64 9, .int .i64 24, .int .i64 7, .int .i64 8, .int .i64 8] : Array Value).extract ((k : Int).toNat * 2) ((k : Int).toNat * 2 + 2) = #[.int .i64 (m : Int), .int .i64 (l : Int)] ∧ 1 ≤ m ∧ m ≤ 144 ∧ fixT (k + 1) = fixT k ++ List.replicate m (l : Int) := by
      have hc : k = 0 ∨ k = 1 ∨ k = 2 ∨ k = 3 := by omega
      rcases hc with rfl | rfl | rfl | rfl
      · exact ⟨144, 8, rfl, by omega, by omega, rfl⟩
      · exact ⟨112, 9, rfl, by omega, by omega, rfl⟩
      · exact ⟨24, 7, rfl, by omega, by omega, rfl⟩
      · exact ⟨8, 8, rfl, by omega, by omega, rfl⟩
    obtain ⟨m, l, hex, hm1, hm2, hfix⟩ := hcase
    refine ⟨by omega, by omega, ((m : Int), (l : Int)), hex, ?_⟩
    refine (Hn.start w1).nw fun w2 H => ?_
    simp only [List.nil_append] at H
    iterate 2 (refine H.st 0 rfl (by simp) fun _ H => ?_; simp only [List.nil_append, List.cons_append, List.set_cons_zero, List.set_cons_succ, Nat.zero_add] at H)
    iterate 1 refine H.ld 0 rfl rfl ?_
    refine H.nw fun w5 H => ?_
    simp only [List.cons_append, List.nil_append] at H
    iterate 1 refine H.ld 0 rfl rfl ?_
    refine (c_repeat (H.get 1 rfl) hm1 (by omega)).mono ?_ fun _ _ h => h.elim
    rintro r w6 ⟨hv, e6, o6⟩
    have E6 := H.ext.tr e6
    obtain ⟨o7, w7, hrun, hrow7, hl7, e7, own7⟩ := elI.app (ty := 28) (hrow.keep E6 fun _ _ h => h) hv.2 (ints_one _) (by rw [hv.1, List.length_replicate]; omega) (by rw [hv.1, List.length_replicate]; omega)
    refine ⟨o7, w7, hrun, 4 - (k + 1), by omega, k + 1, o7, by rw [i64_id (by omega)]; rfl, by omega, rfl, ?_, fun j hj => ?_, (he.tr E6).trans e7 (fun _ h => h) fun i hi h => by have := hown i h; omega⟩
    · rw [hfix, ints_app]; exact hrow7
    · have := E6.size
      have := he.size
      rcases own7 j hj with h | h
      · exact hown j h
      · omega
  · have : k = 4 := by omega
    subst this
    refine (Hn.start w1).nw fun w2 H => ?_
    simp only [List.nil_append] at H
    refine (c_repeat (c := 32) (H.get 0 rfl) (by omega) (by omega)).mono ?_ fun _ _ h => h.elim
    rintro r w3 ⟨hv, e3, o3⟩
    have hr : IV w1 o fixL := IV.row hrow
    exact ⟨(hr.keep H.ext).keep e3, hv, he.tr (H.ext.tr e3)⟩
end
end Inf
end Go.Proofs.YtapgacggllbhiaaDoor
