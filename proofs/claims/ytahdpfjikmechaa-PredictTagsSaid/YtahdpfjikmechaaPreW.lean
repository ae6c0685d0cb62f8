/- What the small functions of package predict answer. Conditions: sizes. -/
import Derived.Test.YtahdpfjikmechaaPreM
import Derived.Test.YtahdpfjikmechaaMk
import Derived.Test.YtahdpfjikmechaaFnPreP
namespace Go.Proofs.Ytahdpfjikmechaa
namespace Pre
open Sh
set_option linter.unusedVariables false
set_option linter.unusedSimpArgs false

/-- Are the parameters (predictor, colors, columns) valid? -/
def okP (p : Int × Int × Int) : Bool := decide ((p.1 = 1 ∨ p.1 = 2 ∨ (10 ≤ p.1 ∧ p.1 ≤ 15)) ∧ 1 ≤ p.2.1 ∧ 1 ≤ p.2.2 ∧ p.2.1 * p.2.2 ≤ 8192)
theorem okP_no {p : Int × Int × Int} (h : ¬ ((p.1 = 1 ∨ p.1 = 2 ∨ (10 ≤ p.1 ∧ p.1 ≤ 15)) ∧ 1 ≤ p.2.1 ∧ 1 ≤ p.2.2 ∧ p.2.1 * p.2.2 ≤ 8192)) : okP p = false := decide_eq_false h
theorem okP_spec {p : Int × Int × Int} (h : okP p = true) : (p.1 = 1 ∨ p.1 = 2 ∨ (10 ≤ p.1 ∧ p.1 ≤ 15)) ∧ 1 ≤ p.2.1 ∧ 1 ≤ p.2.2 ∧ p.2.1 * p.2.2 ≤ 8192 := of_decide_eq_true h
theorem c_may (p : Int × Int × Int) (w : World) : C95 p w fun r w1 => r = okP p ∧ Ext (fun _ => False) w w1 := by
  refine T95 _ _ _ ?_
  unfold S95
  refine (Hx.start w (fun _ => False)).nw fun w2 H => ?_
  have no : ∀ {u : World}, Ext (fun _ => False) w u → ¬ ((p.1 = 1 ∨ p.1 = 2 ∨ (10 ≤ p.1 ∧ p.1 ≤ 15)) ∧ 1 ≤ p.2.1 ∧ 1 ≤ p.2.2 ∧ p.2.1 * p.2.2 ≤ 8192) → false = okP p ∧ Ext (fun _ => False) w u := fun he h => ⟨(okP_no h).symm, he⟩
  refine H.ld 0 rfl rfl (Br_of (fun k => ?a) fun k1 => H.ld 0 rfl rfl (Br_of (fun k => ?b) fun k2 => H.ld 0 rfl rfl (Br_of (fun k3 => H.ld 0 rfl rfl (Br_of (fun k => ?c) fun k => ?d)) fun k => ?e)))
  case d =>
    have a1 : ¬ p.1 = 1 := by simpa using k1
    have a2 : ¬ p.1 = 2 := by simpa using k2
    have a3 : 10 ≤ p.1 := by simpa using k3
    have a4 : ¬ p.1 ≤ 15 := by simpa using k
    exact no H.drew.ext (fun h => by omega)
  case e =>
    have a1 : ¬ p.1 = 1 := by simpa using k1
    have a2 : ¬ p.1 = 2 := by simpa using k2
    have a3 : ¬ 10 ≤ p.1 := by simpa using k
    exact no H.drew.ext (fun h => by omega)
  case' a => have hk : p.1 = 1 ∨ p.1 = 2 ∨ (10 ≤ p.1 ∧ p.1 ≤ 15) := .inl (by simpa using k)
  case' b => have hk : p.1 = 1 ∨ p.1 = 2 ∨ (10 ≤ p.1 ∧ p.1 ≤ 15) := .inr (.inl (by simpa using k))
  case' c => have hk : p.1 = 1 ∨ p.1 = 2 ∨ (10 ≤ p.1 ∧ p.1 ≤ 15) := .inr (.inr ⟨by simpa using k3, by simpa using k⟩)
  all_goals
    refine H.drew.ld 0 rfl rfl (Br_of (fun g1 => H.drew.ld 0 rfl rfl (Br_of (fun g2 => H.drew.ld 0 rfl rfl (Br_of (fun g3 => H.drew.ld 0 rfl rfl (H.drew.ld 0 rfl rfl ?f)) fun g3 => ?g)) fun g2 => ?h)) fun g1 => ?i)
    case i =>
      have b1 : ¬ 1 ≤ p.2.1 := by simpa using g1
      exact no H.drew.ext (fun h => by omega)
    case h =>
      have b1 : ¬ 1 ≤ p.2.2 := by simpa using g2
      exact no H.drew.ext (fun h => by omega)
    case g =>
      have b1 : 1 ≤ p.2.1 := by simpa using g1
      have b2 : 1 ≤ p.2.2 := by simpa using g2
      have b3 : ¬ p.2.1 ≤ 8192 := by simpa using g3
      refine no H.drew.ext (fun h => ?_)
      have : p.2.1 * 1 ≤ p.2.1 * p.2.2 := Int.mul_le_mul_of_nonneg_left b2 (by omega)
      omega
    case f =>
      have b1 : 1 ≤ p.2.1 := by simpa using g1
      have b2 : 1 ≤ p.2.2 := by simpa using g2
      refine ⟨by omega, ?_, H.drew.ext⟩
      have hd : (8192 : Int) / p.2.1 ≤ 8192 := Int.ediv_le_self _ (by omega)
      have h0 : 0 ≤ (8192 : Int) / p.2.1 := Int.ediv_nonneg (by omega) (by omega)
      rw [tdiv_id (by omega), i64_id (by omega)]
      unfold okP
      refine decide_eq_decide.2 ⟨fun h => ⟨hk, b1, b2, ?_⟩, fun h => ?_⟩
      · rw [Int.mul_comm]
        exact (Int.le_ediv_iff_mul_le (by omega)).1 h
      · exact (Int.le_ediv_iff_mul_le (by omega)).2 (by rw [Int.mul_comm]; exact h.2.2.2)
/-- Bytes in a row. -/
def rowP (p : Int × Int × Int) : Int := if okP p = true then p.2.1 * p.2.2 else 0
theorem c_row (p : Int × Int × Int) (w : World) : C52 p w fun r w1 => r = rowP p ∧ Ext (fun _ => False) w w1 := by
  refine T52 _ _ _ ?_
  unfold S52
  refine (Hx.start w (fun _ => False)).nw fun w2 H => H.ld 0 rfl rfl (H.ld 0 rfl rfl (H.ld 0 rfl rfl ((c_may _ _).mono ?_)))
  rintro r w3 ⟨rfl, he⟩
  have H := H.keep he
  unfold rowP
  refine Br_of (fun e => ?_) fun e => ?_
  · have e : okP p = false := by simpa using e
    rw [e]
    exact ⟨rfl, H.ext⟩
  · have e : okP p = true := by simpa using e
    have h := okP_spec e
    refine H.ld 0 rfl rfl (H.ld 0 rfl rfl ⟨?_, H.ext⟩)
    rw [if_pos e, i64_id]
    have : 1 * 1 ≤ p.2.1 * p.2.2 := Int.mul_le_mul h.2.1 h.2.2.1 (by omega) (by omega)
    omega
theorem c_check (p : Int × Int × Int) (w : World) : C50 p w fun r w1 => r = (if okP p = true then 0 else 1) ∧ Ext (fun _ => False) w w1 := by
  refine T50 _ _ _ ?_
  unfold S50
  refine (Hx.start w (fun _ => False)).nw fun w2 H => H.ld 0 rfl rfl (H.ld 0 rfl rfl (H.ld 0 rfl rfl ((c_may _ _).mono ?_)))
  rintro r w3 ⟨rfl, he⟩
  have H := H.keep he
  refine Br_of (fun e => ?_) fun e => ?_
  · have e : okP p = false := by simpa using e
    exact ⟨by rw [e]; rfl, H.ext⟩
  · have e : okP p = true := by simpa using e
    exact ⟨by rw [e]; rfl, H.ext⟩
/-- Why bytes are refused. -/
def refuseP (p : Int × Int × Int) (n row : Int) : Int := if okP p = false then 1 else if 1048576 < n then 5 else if p.1 ≠ 1 ∧ Int.tmod n row ≠ 0 then 16 else 0
theorem c_refuse (p : Int × Int × Int) (s : ByteArray) {row : Int} (hr : row ≠ 0) (w : World) : C88 p s row w fun r w1 => r = refuseP p s.size row ∧ Ext (fun _ => False) w w1 := by
  refine T88 _ _ _ _ _ ?_
  unfold S88
  refine (Hx.start w (fun _ => False)).nw fun w2 H => H.ld 0 rfl rfl (H.ld 0 rfl rfl (H.ld 0 rfl rfl ((c_may _ _).mono ?_)))
  rintro r w3 ⟨rfl, he⟩
  have H := H.keep he
  unfold refuseP
  refine Br_of (fun e => ?_) fun e => Br_of (fun e2 => ?_) fun e2 => H.ld 0 rfl rfl (Br_of (fun e3 => ⟨hr, Br_of (fun e4 => ?_) fun e4 => ?_⟩) fun e3 => ?_)
  · have e : okP p = false := by simpa using e
    exact ⟨by rw [if_pos e], H.ext⟩
  all_goals have e : ¬ okP p = false := by simpa using e
  · have e2 : (1048576 : Int) < (s.size : Int) := by simpa using e2
    exact ⟨by rw [if_neg e, if_pos e2], H.ext⟩
  all_goals have e2 : ¬ (1048576 : Int) < (s.size : Int) := by simpa using e2
  · have e3 : ¬ p.1 = 1 := by simpa using e3
    have e4 : ¬ Int.tmod (s.size : Int) row = 0 := by simpa using e4
    exact ⟨by rw [if_neg e, if_neg e2, if_pos ⟨e3, e4⟩], H.ext⟩
  · have e4 : Int.tmod (s.size : Int) row = 0 := by simpa using e4
    exact ⟨by rw [if_neg e, if_neg e2, if_neg (fun h => h.2 e4)], H.ext⟩
  · have e3 : p.1 = 1 := by simpa using e3
    exact ⟨by rw [if_neg e, if_neg e2, if_neg (fun h => h.1 e3)], H.ext⟩
theorem c_apart {a b : Int} (ha : -100000 ≤ a ∧ a ≤ 100000) (hb : -100000 ≤ b ∧ b ≤ 100000) (w : World) : C96 a b w fun r w1 => r = ((a - b).natAbs : Int) ∧ w1 = w := by
  refine T96 _ _ _ _ ?_
  unfold S96
  rw [i64_id (n := b - a) (by omega), i64_id (n := a - b) (by omega)]
  refine Lt.of ⟨?_, rfl⟩
  split <;> omega
theorem c_paeth {a b c : Nat} (ha : a < 256) (hb : b < 256) (hc : c < 256) (w : World) : C56 (a : Int) (b : Int) (c : Int) w fun r w1 => r = ((paeth a b c : Nat) : Int) ∧ w1 = w := by
  refine T56 _ _ _ _ _ ?_
  unfold S56
  rw [i64_id (n := (a : Int)) (by omega), i64_id (n := (b : Int)) (by omega), i64_id (n := (c : Int)) (by omega), i64_id (n := (a : Int) + b) (by omega), i64_id (by omega)]
  refine Lt.of ⟨fun n st w' => w' = w ∧ ((n = 2 ∧ st = ((a : Int), 0)) ∨ (n = 1 ∧ st = ((if ((b : Int) - (a + b - c)).natAbs < ((a : Int) - (a + b - c)).natAbs then (b : Int) else a), 1)) ∨
    (n = 0 ∧ st = (((paeth a b c : Nat) : Int), 2))), 2, ⟨rfl, .inl ⟨rfl, rfl⟩⟩, ?_⟩
  rintro n st w' ⟨rfl, h⟩
  unfold S56L1
  rcases h with ⟨rfl, rfl⟩ | ⟨rfl, rfl⟩ | ⟨rfl, rfl⟩
  · refine Br_of (fun _ => ?_) fun h => by cases h
    refine ⟨by show (0 : Int) ≤ 0; omega, by show (0 : Int) < 2; omega, (b : Int), rfl, ?_⟩
    rw [i64_id (n := (b : Int)) (by omega), i64_id (n := (a : Int)) (by omega)]
    refine (c_apart (by omega) (by omega) w').mono ?_
    rintro x w1 ⟨rfl, rfl⟩
    refine (c_apart (by omega) (by omega) w1).mono ?_
    rintro x w1 ⟨rfl, rfl⟩
    refine Br_of (fun e => ⟨1, by omega, rfl, .inr (.inl ⟨rfl, ?_⟩)⟩) fun e => ⟨1, by omega, rfl, .inr (.inl ⟨rfl, ?_⟩)⟩
    · have e : (((b : Int) - (a + b - c)).natAbs : Int) < (((a : Int) - (a + b - c)).natAbs : Int) := by simpa using e
      rw [if_pos (by omega)]
      rfl
    · have e : ¬ (((b : Int) - (a + b - c)).natAbs : Int) < (((a : Int) - (a + b - c)).natAbs : Int) := by simpa using e
      rw [if_neg (by omega)]
      rfl
  · refine Br_of (fun _ => ?_) fun h => by cases h
    refine ⟨by show (0 : Int) ≤ 1; omega, by show (1 : Int) < 2; omega, (c : Int), rfl, ?_⟩
    generalize hm : (if ((b : Int) - (a + b - c)).natAbs < ((a : Int) - (a + b - c)).natAbs then (b : Int) else a) = m
    have hmb : 0 ≤ m ∧ m < 256 := by rw [← hm]; split <;> omega
    dsimp only
    rw [i64_id (n := (c : Int)) (by omega), i64_id (n := m) (by omega)]
    refine (c_apart (by omega) (by omega) w').mono ?_
    rintro x w1 ⟨rfl, rfl⟩
    refine (c_apart (by omega) (by omega) w1).mono ?_
    rintro x w1 ⟨rfl, rfl⟩
    refine Br_of (fun e => ⟨0, by omega, rfl, .inr (.inr ⟨rfl, ?_⟩)⟩) fun e => ⟨0, by omega, rfl, .inr (.inr ⟨rfl, ?_⟩)⟩
    · have e : (((c : Int) - (a + b - c)).natAbs : Int) < ((m - (a + b - c)).natAbs : Int) := by simpa using e
      refine Prod.ext ?_ rfl
      show (c : Int) = _
      unfold paeth
      split at hm <;> subst hm <;> split <;> (try split) <;> omega
    · have e : ¬ (((c : Int) - (a + b - c)).natAbs : Int) < ((m - (a + b - c)).natAbs : Int) := by simpa using e
      refine Prod.ext ?_ rfl
      show m = _
      unfold paeth
      split at hm <;> subst hm <;> split <;> (try split) <;> omega
  · refine Br_of (fun h => by cases h) fun _ => ⟨rfl, rfl⟩
theorem c_at {w : World} {s : Slc} {l : List UInt8} (h : RRow w s l) (i : Int) : C129 s i w fun r w1 => r = ((pAt l i : Nat) : Int) ∧ w1 = w := by
  refine T129 _ _ _ _ ?_
  unfold S129
  have hl := h.len
  unfold pAt
  refine Br_of (fun e => ?_) fun e => Br_of (fun e2 => ?_) fun e2 => ?_
  · have e : i < 0 := by simpa using e
    rw [if_pos e]
    exact ⟨rfl, rfl⟩
  · have e : ¬ i < 0 := by simpa using e
    have e2 : (s.len : Int) ≤ i := by simpa using e2
    rw [if_neg e, List.getD_eq_getElem?_getD, List.getElem?_eq_none (by omega)]
    exact ⟨rfl, rfl⟩
  · have e : ¬ i < 0 := by simpa using e
    have e2 : ¬ (s.len : Int) ≤ i := by simpa using e2
    rw [if_neg e]
    obtain ⟨k, rfl⟩ := Int.eq_ofNat_of_zero_le (show 0 ≤ i by omega)
    rw [Int.toNat_natCast]
    have hk : k < l.length := by omega
    obtain ⟨g, hp, hc⟩ := h.get (List.getElem?_eq_getElem hk)
    rw [hp]
    refine ⟨by omega, by omega, Nn.of ⟨((l[k].toNat : Nat) : Int), by rw [add_lit]; simpa using hc, ?_, rfl⟩⟩
    simp [List.getD_eq_getElem?_getD, hk]
theorem c_off {w : World} {s1 s2 : Slc} {prev row : List UInt8} (h1 : RRow w s1 prev) (h2 : RRow w s2 row) (tag : Int) {i colors : Nat} (hi : i ≤ 1099511627776) (hc : colors ≤ 9223372036854775807) :
    C119 (s1, s2, (colors : Int)) tag (i : Int) w fun r w1 => r = ((off tag prev row i colors : Nat) : Int) ∧ Ext (fun _ => False) w w1 := by
  refine T119 _ _ _ _ _ ?_
  unfold S119
  refine (Hx.start w (fun _ => False)).nw fun w2 H => ?_
  have HD := H.drew
  have hS : ∀ w3, w3 = w2.drew → Blk w3 w.heap.size #[Slc.v s1, Slc.v s2, .int .i64 (colors : Int)] 108 := fun w3 e => e ▸ HD.get 0 rfl
  refine ⟨fun w3 => w3 = w2.drew, rfl, LdS.of hS rfl (LdS.of hS rfl (LdS.of hS rfl (LdS.of hS rfl (LdS.of hS rfl ?_))))⟩
  have g1 := h1.keep HD.ext fun _ _ h => h
  have g2 := h2.keep HD.ext fun _ _ h => h
  rw [i64_id (n := (i : Int) - colors) (by omega)]
  refine (c_at g2 _).mono ?_
  rintro x w3 ⟨rfl, rfl⟩
  refine ⟨rfl, (c_at g1 _).mono ?_⟩
  rintro x w3 ⟨rfl, rfl⟩
  refine ⟨rfl, (c_at g1 _).mono ?_⟩
  rintro x w3 ⟨rfl, rfl⟩
  have b1 := pAt_lt row ((i : Int) - colors)
  have b2 := pAt_lt prev i
  have b3 := pAt_lt prev ((i : Int) - colors)
  unfold off
  refine Br_of (fun e => ?_) fun e => Br_of (fun e2 => ?_) fun e2 => Br_of (fun e3 => ?_) fun e3 => Br_of (fun e4 => ?_) fun e4 => ?_
  · have e : tag = 1 := by simpa using e
    rw [if_pos e]
    exact ⟨rfl, HD.ext⟩
  all_goals have e : ¬ tag = 1 := by simpa using e
  all_goals rw [if_neg e]
  · have e2 : tag = 2 := by simpa using e2
    rw [if_pos e2]
    exact ⟨rfl, HD.ext⟩
  all_goals have e2 : ¬ tag = 2 := by simpa using e2
  all_goals rw [if_neg e2]
  · have e3 : tag = 3 := by simpa using e3
    rw [if_pos e3, i64_id (n := ((pAt row ((i : Int) - colors) : Nat) : Int)) (by omega), i64_id (n := ((pAt prev i : Nat) : Int)) (by omega), i64_id (n := ((pAt row ((i : Int) - colors) : Nat) : Int) + ((pAt prev i : Nat) : Int)) (by omega), tdiv_id (by omega), i64_id (by omega)]
    exact Lt.of ⟨by rw [u8_id (by omega)]; omega, HD.ext⟩
  all_goals have e3 : ¬ tag = 3 := by simpa using e3
  all_goals rw [if_neg e3]
  · have e4 : tag = 4 := by simpa using e4
    rw [if_pos e4]
    refine (c_paeth b1 b2 b3 _).mono ?_
    rintro x w4 ⟨rfl, rfl⟩
    exact ⟨rfl, HD.ext⟩
  · have e4 : ¬ tag = 4 := by simpa using e4
    rw [if_neg e4]
    exact ⟨rfl, HD.ext⟩
theorem sub_u8 (x : UInt8) {o : Nat} (ho : o < 256) : IntKind.u8.wrap ((x.toNat : Int) - (o : Int)) = (((x - UInt8.ofNat o).toNat : Nat) : Int) := by
  have := x.toNat_lt
  rw [IntKind.wrap_u8, UInt8.toNat_sub, UInt8.toNat_ofNat_of_lt' ho]
  omega
theorem add_u8 (x : UInt8) {o : Nat} (ho : o < 256) : IntKind.u8.wrap ((x.toNat : Int) + (o : Int)) = (((x + UInt8.ofNat o).toNat : Nat) : Int) := by
  have := x.toNat_lt
  rw [IntKind.wrap_u8, UInt8.toNat_add, UInt8.toNat_ofNat_of_lt' ho]
  omega
theorem set_mid {l : List UInt8} {n i : Nat} {b : UInt8} (hl : l.length = i) (hi : i < n) : (l ++ List.replicate (n - i) 0).set i b = (l ++ [b]) ++ List.replicate (n - (i + 1)) 0 := by
  rw [List.set_append_right _ _ (by omega), hl, Nat.sub_self, show n - i = n - (i + 1) + 1 by omega, List.replicate_succ, List.set_cons_zero, List.append_assoc]
  rfl
theorem c_less {w : World} {s1 s2 : Slc} {prev row : List UInt8} (h1 : RRow w s1 prev) (h2 : RRow w s2 row) (tag : Int) {colors : Nat} (hsz : row.length ≤ 1099511627776) (hc : colors ≤ 9223372036854775807) :
    C89 (s1, s2, (colors : Int)) tag w fun r w1 => BRow w1 r (less tag prev row colors) ∧ Ext (fun _ => False) w w1 ∧ ∀ j, r.own j → w.heap.size ≤ j := by
  refine T89 _ _ _ _ ?_
  unfold S89
  refine (Hx.start w (fun _ => False)).nw' fun w2 H he2 => H.ld 0 rfl rfl ?_
  have hl2 := h2.len
  dsimp only
  rw [hl2]
  obtain ⟨x5, w3, hrun, hrow, he3, hnew⟩ := bytes_make w2 row.length row.length (Nat.le_refl _) (by omega)
  have hsz2 : w.heap.size < w2.heap.size := (H.get 0 rfl).lt
  have H := H.keep he3
  refine ⟨x5, w3, hrun, H.ld 0 rfl rfl ?_⟩
  refine ⟨fun n st w4 => ∃ i : Nat, st = (i : Int) ∧ i ≤ row.length ∧ n = row.length - i ∧ Hx w (fun _ => False) w4 [(w.heap.size, #[Slc.v s1, Slc.v s2, .int .i64 (colors : Int)], 108)] ∧
    BRow w4 x5 ((less tag prev row colors).take i ++ List.replicate (row.length - i) 0), row.length, ⟨0, rfl, by omega, rfl, H, by simpa using hrow⟩, ?_⟩
  rintro n st w4 ⟨i, rfl, hi, rfl, H, hrow⟩
  unfold S89L1
  rw [hl2]
  refine Br_of (fun e => ?_) fun e => ?_
  · have hlt : i < row.length := by
      have : (i : Int) < (row.length : Int) := by simpa using e
      omega
    have g1 := h1.keep H.ext fun _ _ h => h
    have g2 := h2.keep H.ext fun _ _ h => h
    obtain ⟨g, hp, hcell⟩ := g2.get (List.getElem?_eq_getElem hlt)
    rw [hp]
    refine ⟨by omega, by omega, Nn.of ⟨((row[i].toNat : Nat) : Int), by rw [add_lit]; simpa using hcell, H.ld 0 rfl rfl (H.ld 0 rfl rfl (H.ld 0 rfl rfl ((c_off g1 g2 tag (by omega) hc).mono ?_)))⟩⟩
    rintro x w5 ⟨rfl, he⟩
    have hrow5 := hrow.keep he fun _ _ h => h
    have hlen5 := hrow5.len
    have htk : ((less tag prev row colors).take i).length = i := by rw [List.length_take, less_len]; omega
    rw [List.length_append, htk, List.length_replicate] at hlen5
    obtain ⟨g', hp', hcan, hset, hext⟩ := hrow5.set (i := i) (by rw [List.length_append, htk, List.length_replicate]; omega) (row[i] - UInt8.ofNat (off tag prev row i colors))
    rw [hp']
    have hg' : w2.heap.size ≤ g' := hnew g' ⟨_, hp', rfl⟩
    have H5 := (H.keep he).other hext (fun j hj hm => by
      have : j = w.heap.size := by simpa using hm
      omega) fun j hj => .inr (by omega)
    refine ⟨by omega, by omega, Nn.of ⟨by rw [add_lit]; simpa using hcan, row.length - (i + 1), by omega, i + 1, by rw [i64_id (by omega)]; rfl, by omega, rfl, ?_⟩⟩
    rw [add_lit, sub_u8 _ (off_lt _ _ _ _ _)]
    simp only [Nat.zero_add, Int.toNat_natCast, Nat.mul_one]
    refine ⟨H5, ?_⟩
    rw [less_take hlt, ← set_mid htk hlt]
    have : row.getD i 0 = row[i] := by simp [List.getD_eq_getElem?_getD, hlt]
    rw [this]
    exact hset
  · have hge : i = row.length := by
      have : ¬ (i : Int) < (row.length : Int) := by simpa using e
      omega
    subst hge
    rw [Nat.sub_self, List.replicate_zero, List.append_nil, List.take_of_length_le (by rw [less_len]; omega)] at hrow
    exact ⟨hrow, H.ext, fun j hj => Nat.le_trans (Nat.le_of_lt hsz2) (hnew j hj)⟩
theorem c_weight {w : World} {s : Slc} {l : List UInt8} (h : RRow w s l) (hsz : l.length ≤ 1099511627776) : C120 s w fun r w1 => r = ((far l : Nat) : Int) ∧ w1 = w := by
  refine T120 _ _ _ ?_
  unfold S120
  have hl := h.len
  refine ⟨fun n st w4 => ∃ i : Nat, st = (((far (l.take i) : Nat) : Int), (i : Int)) ∧ i ≤ l.length ∧ n = l.length - i ∧ w4 = w, l.length, ⟨0, by simp [far], by omega, rfl, rfl⟩, ?_⟩
  rintro n st w4 ⟨i, rfl, hi, rfl, rfl⟩
  unfold S120L1
  rw [hl]
  dsimp only
  refine Br_of (fun e => ?_) fun e => ?_
  · have hlt : i < l.length := by
      have : (i : Int) < (l.length : Int) := by simpa using e
      omega
    obtain ⟨g, hp, hcell⟩ := h.get (List.getElem?_eq_getElem hlt)
    rw [hp]
    have hb := l[i].toNat_lt
    have hf := far_le (l.take i)
    rw [List.length_take, Nat.min_eq_left hi] at hf
    refine ⟨by omega, by omega, Nn.of ⟨((l[i].toNat : Nat) : Int), by rw [add_lit]; simpa using hcell, ?_⟩⟩
    dsimp only
    rw [i64_id (n := ((l[i].toNat : Nat) : Int)) (by omega), i64_id (n := 256 - ((l[i].toNat : Nat) : Int)) (by omega)]
    refine Lt.of ⟨l.length - (i + 1), by omega, i + 1, ?_, by omega, rfl, rfl⟩
    have hg : l.getD i 0 = l[i] := by simp [List.getD_eq_getElem?_getD, hlt]
    rw [far_take l hlt, hg]
    refine Prod.ext ?_ ?_
    · dsimp only
      split
      · rw [i64_id (by omega)]; omega
      · rw [i64_id (by omega)]; omega
    · dsimp only
      rw [i64_id (by omega)]; rfl
  · have hge : i = l.length := by
      have : ¬ (i : Int) < (l.length : Int) := by simpa using e
      omega
    subst hge
    exact ⟨by rw [List.take_length], rfl⟩
theorem bestK_le (prev row : List UInt8) (colors : Nat) : ∀ k, (bestK prev row colors k).2 ≤ 256 * row.length ∧ (bestK prev row colors k).1 ≤ k
  | 0 => by simp [bestK]
  | k + 1 => by
    have ih := bestK_le prev row colors k
    have := far_le (less k prev row colors)
    rw [less_len] at this
    simp only [bestK]
    split
    · exact ⟨this, by simp⟩
    · exact ⟨ih.1, by omega⟩
theorem c_best {w : World} {s1 s2 : Slc} {prev row : List UInt8} (h1 : RRow w s1 prev) (h2 : RRow w s2 row) {colors : Nat} (hsz : row.length ≤ 1099511627776) (hc : colors ≤ 9223372036854775807) :
    C90 (s1, s2, (colors : Int)) w fun r w1 => r = ((best prev row colors : Nat) : Int) ∧ Ext (fun _ => False) w w1 := by
  refine T90 _ _ _ ?_
  unfold S90
  refine (Hx.start w (fun _ => False)).nw' fun w2 H he2 => H.ld 0 rfl rfl (H.ld 0 rfl rfl (H.ld 0 rfl rfl ?_))
  refine (c_less (h1.keep he2 fun _ _ h => h) (h2.keep he2 fun _ _ h => h) 0 hsz hc).mono ?_
  rintro r w3 ⟨hr, he3, _⟩
  have H := H.keep he3
  refine (c_weight hr.toR (by rw [less_len]; omega)).mono ?_
  rintro x w3 ⟨rfl, rfl⟩
  refine ⟨fun n st w4 => ∃ k : Nat, 1 ≤ k ∧ st = (((bestK prev row colors k).1 : Int), (((bestK prev row colors k).2 : Nat) : Int), (k : Int)) ∧ k ≤ 5 ∧ n = 5 - k ∧ Hx w (fun _ => False) w4 [(w.heap.size, #[Slc.v s1, Slc.v s2, .int .i64 (colors : Int)], 108)],
    4, ⟨1, by omega, rfl, by omega, rfl, H⟩, ?_⟩
  rintro n st w4 ⟨k, hk1, rfl, hk, rfl, H⟩
  unfold S90L1
  dsimp only
  refine Br_of (fun e => ?_) fun e => ?_
  · have hlt : k < 5 := by
      have : (k : Int) < 5 := by simpa using e
      omega
    refine H.ld 0 rfl rfl (H.ld 0 rfl rfl (H.ld 0 rfl rfl ?_))
    refine (c_less (h1.keep H.ext fun _ _ h => h) (h2.keep H.ext fun _ _ h => h) k hsz hc).mono ?_
    rintro r w5 ⟨hr, he5, _⟩
    have H := H.keep he5
    refine (c_weight hr.toR (by rw [less_len]; omega)).mono ?_
    rintro x w5 ⟨rfl, rfl⟩
    rw [i64_id (n := (k : Int) + 1) (by omega)]
    refine Br_of (fun e2 => ?_) fun e2 => ?_
    · have e2 : far (less k prev row colors) < (bestK prev row colors k).2 := by
        have : ((far (less k prev row colors) : Nat) : Int) < (((bestK prev row colors k).2 : Nat) : Int) := by simpa using e2
        omega
      refine ⟨5 - (k + 1), by omega, k + 1, by omega, ?_, by omega, rfl, H⟩
      simp only [bestK]
      rw [if_pos (.inr e2)]
      rfl
    · have e2 : ¬ far (less k prev row colors) < (bestK prev row colors k).2 := by
        have : ¬ ((far (less k prev row colors) : Nat) : Int) < (((bestK prev row colors k).2 : Nat) : Int) := by simpa using e2
        omega
      refine ⟨5 - (k + 1), by omega, k + 1, by omega, ?_, by omega, rfl, H⟩
      simp only [bestK]
      rw [if_neg (by omega)]
      rfl
  · have hge : k = 5 := by
      have : ¬ (k : Int) < 5 := by simpa using e
      omega
    subst hge
    exact ⟨rfl, H.ext⟩
theorem mid_getD {l : List UInt8} {r : List UInt8} {i j : Nat} (hl : l.length = i) (hj : j < i) : (l ++ r).getD j 0 = l.getD j 0 := by
  rw [List.getD_eq_getElem?_getD, List.getElem?_append_left (by omega), List.getD_eq_getElem?_getD]
theorem mid_get {l raw : List UInt8} {i : Nat} (hl : l.length = i) (hi : i < raw.length) : (l ++ raw.drop i)[i]? = some (raw.getD i 0) := by
  rw [List.getElem?_append_right (by omega), hl, Nat.sub_self, List.getElem?_drop, Nat.add_zero, List.getElem?_eq_getElem hi]
  simp [List.getD_eq_getElem?_getD, hi]
theorem mid_set {l raw : List UInt8} {i : Nat} {b : UInt8} (hl : l.length = i) (hi : i < raw.length) : (l ++ raw.drop i).set i b = (l ++ [b]) ++ raw.drop (i + 1) := by
  rw [List.set_append_right _ _ (by omega), hl, Nat.sub_self, List.drop_eq_getElem_cons hi, List.set_cons_zero, List.append_assoc]
  rfl
theorem c_more {w : World} {s1 s2 : Slc} {prev raw : List UInt8} (h1 : RRow w s1 prev) (h2 : RRow w s2 raw) (hap : ∀ j, s1.own j → ¬ s2.own j) (tag : Int) {colors : Nat} (hsz : raw.length ≤ 1099511627776) (hc1 : 1 ≤ colors) (hc : colors ≤ 9223372036854775807) :
    C93 (s1, s2, (colors : Int)) tag w fun w1 => RRow w1 s2 (dec tag prev raw colors raw.length) ∧ Ext s2.own w w1 := by
  refine T93 _ _ _ _ ?_
  unfold S93
  refine (Hx.start w s2.own).nw' fun w2 H he2 => H.ld 0 rfl rfl ?_
  have hl2 := h2.len
  dsimp only
  refine ⟨fun n st w4 => ∃ i : Nat, st = (i : Int) ∧ i ≤ raw.length ∧ n = raw.length - i ∧ Hx w s2.own w4 [(w.heap.size, #[Slc.v s1, Slc.v s2, .int .i64 (colors : Int)], 108)] ∧
    RRow w4 s2 (dec tag prev raw colors i ++ raw.drop i), raw.length, ⟨0, rfl, by omega, rfl, H, by simpa [dec] using h2.keep he2 fun _ _ h => h⟩, ?_⟩
  rintro n st w4 ⟨i, rfl, hi, rfl, H, hrow⟩
  unfold S93L1
  rw [hl2]
  have hdl := dec_len tag prev raw colors i
  refine Br_of (fun e => ?_) fun e => ?_
  · have hlt : i < raw.length := by
      have : (i : Int) < (raw.length : Int) := by simpa using e
      omega
    have HD := H.drew
    have hS : ∀ w3, Ext (fun _ => False) w4.drew w3 → Blk w3 w.heap.size #[Slc.v s1, Slc.v s2, .int .i64 (colors : Int)] 108 := fun w3 e => (HD.keep e).get 0 rfl
    have hrowD := hrow.keep (Ext.refl (fun _ => False) w4).drew fun _ _ h => h
    have g1 : RRow w4.drew s1 prev := h1.keep HD.ext hap
    obtain ⟨g, hp, hcell⟩ := hrowD.get (mid_get hdl hlt)
    refine ⟨fun w3 => Ext (fun _ => False) w4.drew w3, Ext.refl _ _, LdS.of hS rfl ?_⟩
    rw [hl2, hp]
    refine ⟨by omega, by omega, Nn.of ⟨(((raw.getD i 0).toNat : Nat) : Int), fun w3 e => by rw [add_lit]; exact e.cell_same (by simpa using hcell), LdS.of hS rfl (LdS.of hS rfl (LdS.of hS rfl ((c_off g1 hrowD tag (by omega) hc).mono ?_)))⟩⟩
    rintro x w5 ⟨rfl, he⟩
    rw [off_row (row' := dec tag prev raw colors i) hc1 fun j hj => mid_getD hdl hj]
    have hrow5 := hrowD.keep he fun _ _ h => h
    obtain ⟨g', hp', hcan, hset, hext⟩ := hrow5.set (i := i) (by rw [List.length_append, hdl, List.length_drop]; omega) (raw.getD i 0 + UInt8.ofNat (off tag prev (dec tag prev raw colors i) i colors))
    have : g' = g := by rw [hp] at hp'; cases hp'; rfl
    subst this
    have ho : s2.own g' := ⟨_, hp, rfl⟩
    have hlt' : g' < w.heap.size := h2.own_lt ho
    have H5 := (HD.keep he).other hext (fun j hj hm => by
      have : j = w.heap.size := by simpa using hm
      omega) fun j hj => .inl (by rw [hj]; exact ho)
    refine ⟨he, by omega, by omega, Nn.of ⟨by rw [add_lit]; simpa using hcan, raw.length - (i + 1), by omega, i + 1, by rw [i64_id (by omega)]; rfl, by omega, rfl, ?_⟩⟩
    rw [add_lit, add_u8 _ (off_lt _ _ _ _ _)]
    simp only [Nat.zero_add, Int.toNat_natCast, Nat.mul_one]
    refine ⟨H5, ?_⟩
    rw [dec, ← mid_set hdl hlt]
    exact hset
  · have hge : i = raw.length := by
      have : ¬ (i : Int) < (raw.length : Int) := by simpa using e
      omega
    subst hge
    rw [List.drop_length, List.append_nil] at hrow
    exact ⟨hrow, H.ext⟩
end Pre
end Go.Proofs.Ytahdpfjikmechaa
