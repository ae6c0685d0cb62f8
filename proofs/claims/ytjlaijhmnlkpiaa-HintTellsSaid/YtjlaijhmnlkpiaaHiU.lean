/- Hints: the reference's Read. Conditions: sizes. -/
import Derived.Test.YtjlaijhmnlkpiaaHoH
namespace Go.Proofs.Ytjlaijhmnlkpiaa
namespace Hint
open Sh Bit
set_option linter.unusedVariables false
set_option linter.unusedSimpArgs false
set_option maxRecDepth 4000
set_option maxHeartbeats 2000000
theorem hrow_inj {a b : Hi} (h : hrow a = hrow b) : a = b := by
  obtain ⟨a1, a2, a3⟩ := a
  obtain ⟨b1, b2, b3⟩ := b
  simp [hrow] at h
  obtain ⟨rfl, rfl, rfl⟩ := h
  rfl
theorem rows_inj : ∀ {L M : List Hi}, L.flatMap hrow = M.flatMap hrow → L = M
  | [], [], _ => rfl
  | [], b :: M, h => by simp [hrow] at h
  | a :: L, [], h => by simp [hrow] at h
  | a :: L, b :: M, h => by
    rw [List.flatMap_cons, List.flatMap_cons] at h
    obtain ⟨h1, h2⟩ := List.append_inj h rfl
    rw [hrow_inj h1, rows_inj h2]
theorem rows_set {c : Nat} (hc : c < 3) (v : Int) : ∀ (M : List Hi) (k : Nat), ∃ M' : List Hi, M'.length = M.length ∧ (M.flatMap hrow).set (k * 3 + c) (.int .i64 v) = M'.flatMap hrow
  | [], k => ⟨[], rfl, by simp⟩
  | a :: M, 0 => by
    obtain ⟨a1, a2, a3⟩ := a
    have h : c = 0 ∨ c = 1 ∨ c = 2 := by omega
    rcases h with rfl | rfl | rfl
    · exact ⟨(v, a2, a3) :: M, rfl, rfl⟩
    · exact ⟨(a1, v, a3) :: M, rfl, rfl⟩
    · exact ⟨(a1, a2, v) :: M, rfl, rfl⟩
  | a :: M, k + 1 => by
    obtain ⟨M', h1, h2⟩ := rows_set hc v M k
    refine ⟨a :: M', by simp [h1], ?_⟩
    rw [List.flatMap_cons, List.flatMap_cons, List.set_append_right _ _ (by simp [hrow]; omega), ← h2]
    congr 2
    simp [hrow]
    omega
attribute [local irreducible] Ld St Nw Nn Lt LdS
section
variable {w : World} {b p : Nat} {s : ByteArray}
theorem r_n24 (h : RR w b s p) (hs : s.size ≤ 1000000) {n : Nat} (hn : n ≤ 24) :
    C82 (at0 b) (n : Int) w fun v w1 => 0 ≤ v ∧ v < 4294967296 ∧ Ext (· = b) w w1 ∧ ∃ p', RR w1 b s p' ∧ (p + n ≤ 8 * s.size → v = tk s 2 p n ∧ p' = p + n) := by
  refine (r_number24 h hs hn).mono ?_
  rintro v w1 ⟨a1, a2, a3, a4⟩
  have h24 := two_pow_24 hn
  rcases a4 with ⟨f1, f2, f3⟩ | ⟨f1, f2⟩
  · exact ⟨a1, by omega, a3, _, f3, fun _ => ⟨f2, rfl⟩⟩
  · exact ⟨a1, by omega, a3, _, f2, fun h => absurd h f1⟩
theorem r_n32 (h : RR w b s p) (hs : s.size ≤ 1000000) :
    C82 (at0 b) 32 w fun v w1 => 0 ≤ v ∧ v < 4294967296 ∧ Ext (· = b) w w1 ∧ ∃ p', RR w1 b s p' ∧ (p + 32 ≤ 8 * s.size → v = tk s 2 p 32 ∧ p' = p + 32) := by
  refine (r_number32 h hs).mono ?_
  rintro v w1 ⟨a1, a2, a3, a4⟩
  rcases a4 with ⟨f1, f2, f3⟩ | ⟨f1, p', f2, _⟩
  · exact ⟨a1, a2, a3, _, f3, fun _ => ⟨f2, rfl⟩⟩
  · exact ⟨a1, a2, a3, _, f2, fun h => absurd h f1⟩
/-- What is known in column c at hint k: the reader, the rows, and what they are if s is a text. -/
def Mid (w0 w : World) (b g : Nat) (s : ByteArray) (n c k : Nat) : Prop := ∃ p M, RR w b s p ∧ Blk w g (List.flatMap hrow M).toArray 70 ∧ M.length = n ∧ Ext (fun _ => False) w0 w ∧ w0.heap.size ≤ b ∧ w0.heap.size ≤ g ∧ b ≠ g ∧ ∀ L, Good s L → p = offS s c + k * dw s c ∧ M.flatMap hrow = cellL s c k
theorem Mid.step {w0 : World} {g n c k : Nat} {l : Int} (hs : s.size ≤ 1000000) (h : Mid w0 w b g s n c k) (hc : c < 3) (hk : k < n) (hn : ∀ L, Good s L → n = dn s) (hl : ∀ L, Good s L → l = dl s c)
    (hl2 : 0 ≤ l ∧ l < 4294967296) {x : Nat} (hx : x ≤ 24) (hx2 : ∀ L, Good s L → x = dw s c) {K : World → Prop} (kk : ∀ w3, Mid w0 w3 b g s n c (k + 1) → K w3) :
    C82 (at0 b) (x : Int) w fun v w1 => St w1 ⟨g, k * 3 + c, none⟩ (.int .i64 (IntKind.i64.wrap (l + v))) K := by
  obtain ⟨p, M, h1, h2, h3, h4, h5, h6, h7, h8⟩ := h
  refine (r_n24 h1 hs hx).mono ?_
  rintro v w1 ⟨v0, v1, he, p', hr, hv⟩
  rw [i64_id (by omega)]
  obtain ⟨M', m1, m2⟩ := rows_set hc (l + v) M k
  have hb := he.blk h2 (fun e => h7 e.symm)
  refine (Hx.one (F := (· = g)) hb).st 0 rfl (by rw [List.size_toArray, h_len, h3]; omega) (.inl rfl) fun w3 H => kk w3 ?_
  refine ⟨p', M', hr.keep H.ext (fun e => h7 e), ?_, by rw [m1, h3], (h4.trans he (fun _ h => h) fun i hi e => by have e : i = b := e; omega).trans H.ext (fun _ h => h) (fun i hi e => by have e : i = g := e; omega), h5, h6, h7, fun L hg => ?_⟩
  · have := H.get 0 rfl
    rw [← m2]
    simpa using this
  · obtain ⟨q1, q2⟩ := h8 L hg
    have hkn : k < dn s := by rw [← hn L hg]; exact hk
    have hf := hg.fits hc (by rw [← hg.dn]; exact hkn)
    obtain ⟨r1, r2⟩ := hv (by rw [q1, hx2 L hg]; exact hf)
    refine ⟨by rw [r2, q1, hx2 L hg, Nat.add_mul]; omega, ?_⟩
    rw [← m2, q2, r1, hl L hg, q1, hx2 L hg]
    exact cellL_set hc hkn
theorem Mid.align {w0 : World} {g n c k : Nat} (hs : s.size ≤ 1000000) (h : Mid w0 w b g s n c k) (hn : ∀ L, Good s L → n = dn s) (hk : k = n) {K : World → Prop} (kk : ∀ w3, Mid w0 w3 b g s n (c + 1) 0 → K w3) :
    C83 (at0 b) w fun w1 => K w1 := by
  obtain ⟨p, M, ⟨hp, way, hw, hrd⟩, h2, h3, h4, h5, h6, h7, h8⟩ := h
  refine (r_align hrd hp hs).mono ?_
  rintro w1 ⟨hr, he⟩
  refine kk w1 ⟨(p + 7) / 8 * 8, M, ⟨by omega, 0, .inl rfl, hr⟩, he.blk h2 (fun e => h7 e.symm), h3, h4.trans he (fun _ h => h) (fun i hi e => by have e : i = b := e; omega), h5, h6, h7, fun L hg => ?_⟩
  obtain ⟨q1, q2⟩ := h8 L hg
  have hkd : k = dn s := by rw [hk]; exact hn L hg
  refine ⟨?_, by rw [q2, hkd, cellL_next]⟩
  rw [q1, hkd, Nat.zero_mul]
  rfl
theorem r_read {s : ByteArray} (hs : s.size ≤ 1000000) (w : World) : C41 s w fun r e w1 => Told w1 s r e ∧ Ext (fun _ => False) w w1 := by
  refine T41 _ _ _ ?_
  unfold S41
  refine (r_from _ _).mono ?_
  rintro r w1 ⟨rfl, hrd, he⟩
  have hb : w.heap.size ≤ w.heap.size := Nat.le_refl _
  have h0 : RR w1 w.heap.size s 0 := ⟨by omega, 0, .inl rfl, hrd⟩
  have ext : ∀ {w2 w3 : World}, Ext (fun _ => False) w w2 → Ext (· = w.heap.size) w2 w3 → Ext (fun _ => False) w w3 := fun a c => a.trans c (fun _ h => h) fun i hi e => by have e : i = w.heap.size := e; omega
  refine (r_n32 h0 hs).mono ?_
  rintro v0 w2 ⟨a0, c0, e0, p1, r1, f0⟩
  have E1 := ext he e0
  refine (r_n32 r1 hs).mono ?_
  rintro l0 w3 ⟨a1, c1, e1, p2, r2, f1⟩
  have E2 := ext E1 e1
  refine (r_n32 r2 hs).mono ?_
  rintro l1 w4 ⟨a2, c2, e2, p3, r3, f2⟩
  have E3 := ext E2 e2
  refine (r_n32 r3 hs).mono ?_
  rintro l2 w5 ⟨a3, c3, e3, p4, r4, f3⟩
  have E4 := ext E3 e3
  refine (r_n24 r4 hs (n := 16) (by omega)).mono ?_
  rintro x0 w6 ⟨a4, c4, e4, p5, r5, f4⟩
  have E5 := ext E4 e4
  refine (r_n24 r5 hs (n := 16) (by omega)).mono ?_
  rintro x1 w7 ⟨a5, c5, e5, p6, r6, f5⟩
  have E6 := ext E5 e5
  refine (r_n24 r6 hs (n := 16) (by omega)).mono ?_
  rintro x2 w8 ⟨a6, c6, e6, p7, r7, f6⟩
  have E7 := ext E6 e6
  have hd : ∀ L, Good s L → v0 = (dn s : Int) ∧ l0 = dl s 0 ∧ l1 = dl s 1 ∧ l2 = dl s 2 ∧ x0 = (dw s 0 : Int) ∧ x1 = (dw s 1 : Int) ∧ x2 = (dw s 2 : Int) ∧ p7 = 176 := fun L hg => by
    have hh := hg.head
    obtain ⟨a1, a2⟩ := f0 (by omega)
    obtain ⟨b1, b2⟩ := f1 (by omega)
    obtain ⟨c1, c2⟩ := f2 (by omega)
    obtain ⟨d1, d2⟩ := f3 (by omega)
    obtain ⟨e1, e2⟩ := f4 (by omega)
    obtain ⟨g1, g2⟩ := f5 (by omega)
    obtain ⟨k1, k2⟩ := f6 (by omega)
    subst a2 b2 c2 d2 e2 g2 k2
    have t0 := tk_bd s 2 0 32
    have t1 := tk_bd s 2 128 16
    have t2 := tk_bd s 2 144 16
    have t3 := tk_bd s 2 160 16
    refine ⟨by rw [a1]; unfold dn; omega, b1, c1, d1, ?_, ?_, ?_, by omega⟩
    · show x0 = (((tk s 2 128 16).toNat : Nat) : Int); rw [e1]; show tk s 2 128 16 = _; omega
    · show x1 = (((tk s 2 144 16).toNat : Nat) : Int); rw [g1]; show tk s 2 144 16 = _; omega
    · show x2 = (((tk s 2 160 16).toNat : Nat) : Int); rw [k1]; show tk s 2 160 16 = _; omega
  have nog : (v0 < 1 ∨ 2048 < v0 ∨ 24 < x0 ∨ 24 < x1 ∨ 24 < x2) → ∀ L, ¬ Good s L := fun hb L hg => by
    obtain ⟨a1, a2, a3, a4, a5, a6, a7, a8⟩ := hd L hg
    have n0 := hg.vd.n0
    have n1 := hg.vd.n1
    have n2 := hg.dn
    have y0 := hg.vd.wd 0
    have y1 := hg.vd.wd 1
    have y2 := hg.vd.wd 2
    have z0 : dw s 0 = (wd L 0).toNat := hg.dw (c := 0) (by omega)
    have z1 : dw s 1 = (wd L 1).toNat := hg.dw (c := 1) (by omega)
    have z2 : dw s 2 = (wd L 2).toNat := hg.dw (c := 2) (by omega)
    omega
  refine Br.dec (fun q => ⟨.inl ⟨rfl, rfl, nog (.inl q)⟩, E7⟩) fun q1 => ?_
  refine Br.dec (fun q => ⟨.inl ⟨rfl, rfl, nog (.inr (.inl q))⟩, E7⟩) fun q2 => ?_
  refine Br.dec (fun q => ⟨.inl ⟨rfl, rfl, nog (.inr (.inr (.inl q)))⟩, E7⟩) fun q3 => ?_
  refine Br.dec (fun q => ⟨.inl ⟨rfl, rfl, nog (.inr (.inr (.inr (.inl q))))⟩, E7⟩) fun q4 => ?_
  refine Br.dec (fun q => ⟨.inl ⟨rfl, rfl, nog (.inr (.inr (.inr (.inr q))))⟩, E7⟩) fun q5 => ?_
  obtain ⟨n, rfl⟩ := Int.eq_ofNat_of_zero_le (show 0 ≤ v0 by omega)
  obtain ⟨y0, rfl⟩ := Int.eq_ofNat_of_zero_le (show 0 ≤ x0 by omega)
  obtain ⟨y1, rfl⟩ := Int.eq_ofNat_of_zero_le (show 0 ≤ x1 by omega)
  obtain ⟨y2, rfl⟩ := Int.eq_ofNat_of_zero_le (show 0 ≤ x2 by omega)
  have hn : ∀ L, Good s L → n = dn s := fun L hg => by have := (hd L hg).1; omega
  obtain ⟨w9, hrun, hw9⟩ := elHi.make (zs := hrow (0, 0, 0)) rfl w8 n (by omega) (by omega)
  refine ⟨_, w9, hrun, ?_⟩
  have e9 : Ext (fun _ => False) w8 w9 := by rw [hw9]; exact (Ext.refl _ _).alloc _
  have hlt := r7.lt
  have hrep : (List.replicate n (hrow (0, 0, 0))).flatten = (List.replicate n ((0, 0, 0) : Hi)).flatMap hrow := by
    rw [List.flatMap_def, List.map_replicate]
  have r9 := r7.keep e9 fun h => h
  obtain ⟨hp9, way, hw, hrd9⟩ := r9
  refine (r_align hrd9 hp9 hs).mono ?_
  rintro w10 ⟨hr10, he10⟩
  have hM : Mid w w10 w.heap.size w8.heap.size s n 0 0 := ⟨(p7 + 7) / 8 * 8, List.replicate n (0, 0, 0), ⟨by omega, 0, .inl rfl, hr10⟩, he10.blk (by rw [hw9, hrep]; exact Blk.new _ _ _) (fun e => by have e : w8.heap.size = w.heap.size := e; omega), by simp, ext (E7.tr e9) he10, hb, E7.size, by omega, fun L hg => by
    have h176 := (hd L hg).2.2.2.2.2.2.2
    refine ⟨by rw [h176, Nat.zero_mul]; rfl, ?_⟩
    rw [← hrep, hn L hg, cellL_zero]⟩
  refine ⟨fun m st w11 => ∃ k : Nat, st = (k : Int) ∧ k ≤ n ∧ m = n - k ∧ Mid w w11 w.heap.size w8.heap.size s n 0 k, n, ⟨0, rfl, by omega, rfl, hM⟩, ?_⟩
  rintro m st w11 ⟨k, rfl, hk, rfl, hM⟩
  unfold S41L3
  show Br (decide ((k : Int) < (n : Int))) _ _
  refine Br.dec (fun q => ?_) fun q => ?_
  · refine (hM.step hs (c := 0) (l := l0) (by omega) (by omega) hn (fun L hg => (hd L hg).2.1) (by omega) (x := y0) (by omega) (fun L hg => by have := hd L hg; omega) (K := fun w3 => ∃ m', m' < n - k ∧ ∃ k' : Nat, IntKind.i64.wrap ((k : Int) + 1) = (k' : Int) ∧ k' ≤ n ∧ m' = n - k' ∧ Mid w w3 w.heap.size w8.heap.size s n 0 k') (fun w3 h => ⟨n - (k + 1), by omega, k + 1, by rw [i64_id (by omega)]; rfl, by omega, rfl, h⟩)).mono ?_
    intro v w3 h
    refine ⟨by omega, q, Nn.of ?_⟩
    simpa only [add_lit, Int.toNat_natCast, Nat.zero_add, Nat.add_zero] using h
  have hkn : k = n := by omega
  refine hM.align hs hn hkn fun w11b hM => ?_
  refine ⟨fun m st w11 => ∃ k : Nat, st = (k : Int) ∧ k ≤ n ∧ m = n - k ∧ Mid w w11 w.heap.size w8.heap.size s n 1 k, n, ⟨0, rfl, by omega, rfl, hM⟩, ?_⟩
  rintro m st w12 ⟨k, rfl, hk, rfl, hM⟩
  unfold S41L2
  show Br (decide ((k : Int) < (n : Int))) _ _
  refine Br.dec (fun q => ?_) fun q => ?_
  · refine (hM.step hs (c := 1) (l := l1) (by omega) (by omega) hn (fun L hg => (hd L hg).2.2.1) (by omega) (x := y1) (by omega) (fun L hg => by have := hd L hg; omega) (K := fun w3 => ∃ m', m' < n - k ∧ ∃ k' : Nat, IntKind.i64.wrap ((k : Int) + 1) = (k' : Int) ∧ k' ≤ n ∧ m' = n - k' ∧ Mid w w3 w.heap.size w8.heap.size s n 1 k') (fun w3 h => ⟨n - (k + 1), by omega, k + 1, by rw [i64_id (by omega)]; rfl, by omega, rfl, h⟩)).mono ?_
    intro v w3 h
    refine ⟨by omega, q, Nn.of ?_⟩
    simpa only [add_lit, Int.toNat_natCast, Nat.zero_add, Nat.add_zero] using h
  have hkn : k = n := by omega
  refine hM.align hs hn hkn fun w12b hM => ?_
  refine ⟨fun m st w11 => ∃ k : Nat, st = (k : Int) ∧ k ≤ n ∧ m = n - k ∧ Mid w w11 w.heap.size w8.heap.size s n 2 k, n, ⟨0, rfl, by omega, rfl, hM⟩, ?_⟩
  rintro m st w13 ⟨k, rfl, hk, rfl, hM⟩
  unfold S41L1
  show Br (decide ((k : Int) < (n : Int))) _ _
  refine Br.dec (fun q => ?_) fun q => ?_
  · refine (hM.step hs (c := 2) (l := l2) (by omega) (by omega) hn (fun L hg => (hd L hg).2.2.2.1) (by omega) (x := y2) (by omega) (fun L hg => by have := hd L hg; omega) (K := fun w3 => ∃ m', m' < n - k ∧ ∃ k' : Nat, IntKind.i64.wrap ((k : Int) + 1) = (k' : Int) ∧ k' ≤ n ∧ m' = n - k' ∧ Mid w w3 w.heap.size w8.heap.size s n 2 k') (fun w3 h => ⟨n - (k + 1), by omega, k + 1, by rw [i64_id (by omega)]; rfl, by omega, rfl, h⟩)).mono ?_
    intro v w3 h
    refine ⟨by omega, q, Nn.of ?_⟩
    simpa only [add_lit, Int.toNat_natCast, Nat.zero_add, Nat.add_zero] using h
  have hkn : k = n := by omega
  rw [hkn] at hM
  obtain ⟨p, M, g1, g2, g3, g4, g5, g6, g7, g8⟩ := hM
  have hv : HV w13 ⟨some ⟨w8.heap.size, 0, none⟩, n, n⟩ M := hv_blk g2 g3.symm
  have hgood : ∀ L, Good s L → M = L := fun L hg => by
    have := (g8 L hg).2
    rw [hn L hg, cellL_next, ← cellL_dec] at this
    rw [rows_inj this, hg.dec]
  refine (r_text hv).mono ?_
  rintro x e w15 ⟨hx, he15⟩
  have E15 := g4.tr he15
  refine Br.ne (fun h0 => ⟨.inl ⟨rfl, rfl, fun L hg => ?_⟩, E15⟩) fun h0 => ?_
  · rw [hgood L hg, textH_good hg] at hx
    cases hx
    exact h0 rfl
  subst h0
  obtain ⟨k1, k2⟩ := textH_zero hx
  refine Br_of (fun h1 => ⟨.inl ⟨rfl, rfl, fun L hg => ?_⟩, E15⟩) fun h1 => ?_
  · rw [k2, hgood L hg, hg.2] at h1
    simp at h1
  have hg : Good s M := ⟨k1, by
    have h2 : x.toList = s.toList := by simpa using h1
    rw [ByteArray.toList_eq, ByteArray.toList_eq] at h2
    rw [← k2]
    exact ba_ext h2⟩
  exact ⟨.inr ⟨rfl, M, hv.keep he15, hg⟩, E15⟩
end
end Hint
end Go.Proofs.Ytjlaijhmnlkpiaa
