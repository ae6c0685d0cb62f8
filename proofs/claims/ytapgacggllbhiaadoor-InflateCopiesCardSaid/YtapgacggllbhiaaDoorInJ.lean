/- Inflate: the laid variables; the program's lengths. Conditions: sizes, the laid variables. -/
import Derived.Test.YtapgacggllbhiaaDoorInI
namespace Go.Proofs.YtapgacggllbhiaaDoor
namespace Inf
open Sh Bit
set_option linter.unusedVariables false
set_option linter.unusedSimpArgs false
set_option maxRecDepth 4000
set_option maxHeartbeats 2000000
def repV (n : Int) : (Int × Int) × Bool := if n = 16 then ((3, 2), true) else if n = 17 then ((3, 3), true) else if n = 18 then ((11, 7), true) else ((0, 0), false)
/-- What the laid variables hold: order, repeats. -/
def Laid (N : Nat) (w : World) : Prop := 2 ≤ N ∧ N ≤ w.heap.size ∧ (∀ i : Nat, i < 19 → w.cell? ⟨0, i, none⟩ = some (.int .i64 ((order.getD i 0 : Nat) : Int))) ∧
  ∃ (bm : Nat) (ob : Obj), bm < N ∧ w.heap[bm]? = some ob ∧ w.cell? ⟨1, 0, none⟩ = some (.map (some bm)) ∧
    ∀ w' : World, w'.heap[bm]? = some ob → ∀ n : Int, 0 ≤ n → n < 19 → RunV Tryd.prog (Instr.lookup 125 (.map (some bm)) (.int .i64 n) true) w' (.tuple #[.agg #[.int .i64 (repV n).1.1, .int .i64 (repV n).1.2], .bool (repV n).2]) w'
theorem Laid.keep {F : Nat → Prop} {N : Nat} {w w' : World} (h : Laid N w) (he : Ext F w w') (hF : ∀ j, F j → N ≤ j) : Laid N w' := by
  obtain ⟨h1, h2, h3, bm, ob, h4, h5, h6, h7⟩ := h
  have hz := he.size
  refine ⟨h1, by omega, fun i hi => ?_, bm, ob, h4, ?_, ?_, h7⟩
  · rw [he.cell (by show 0 < w.heap.size; omega) (fun e => by have := hF _ e; have : N ≤ 0 := this; omega)]
    exact h3 i hi
  · rw [he.block bm (by omega) (fun e => by have := hF _ e; omega)]
    exact h5
  · rw [he.cell (by show 1 < w.heap.size; omega) (fun e => by have := hF _ e; have : N ≤ 1 := this; omega)]
    exact h6
/-- No block of the decompression is a laid one. -/
structure Low (N fb rb : Nat) (o : Slc) : Prop where
  f : N ≤ fb
  r : N ≤ rb
  o : ∀ j, o.own j → N ≤ j
section
variable {w w1 : World} {fb rb N : Nat} {o o1 : Slc} {s : ByteArray} {out : List UInt8} {p most : Nat}
theorem Low.mv (h : Low N fb rb o) (m : Mv fb rb w w1 o o1) (hw : N ≤ w.heap.size) : Low N fb rb o1 := ⟨h.f, h.r, fun j hj => by
  rcases m.own j hj with e | e
  · exact h.o j e
  · omega⟩
theorem Laid.mv (h : Laid N w) (k : Low N fb rb o) (m : Ext (XF fb rb o) w w1) : Laid N w1 := h.keep m fun j e => by
  rcases e with rfl | rfl | e
  · exact k.f
  · exact k.r
  · exact k.o j e
theorem elI_make0 (w : World) (c : Nat) (hc : c ≤ 1000000) : ∃ w', RunV Tryd.prog (Instr.makeSlice 28 (.int .i64 0) (.int .i64 (c : Int))) w (Slc.v ⟨some ⟨w.heap.size, 0, none⟩, 0, c⟩) w' ∧ Ext (fun _ => False) w w' ∧ Row w' ⟨some ⟨w.heap.size, 0, none⟩, 0, c⟩ 3 1 [] := by
  obtain ⟨i, hi, h1, h8, hz⟩ := elI.info
  have hr := run_make (P := Tryd.prog) w 28 3 i (.int .i64 0) und_ints hi hz .i64 .i64 0 c (by omega) (by omega) (by rw [h8]; omega) (by omega)
  simp only [Int.toNat_natCast] at hr
  refine ⟨_, hr, (Ext.refl _ _).alloc _, by simp, .inr ⟨_, _, rfl, Blk.new _ _ _, by simp, ?_, by simp⟩⟩
  rw [h1]
  exact size_madeCells _ _
theorem repV_lit {g : Nat} (h : g < 16) : repV (g : Int) = ((0, 0), false) := by
  unfold repV
  rw [if_neg (by omega), if_neg (by omega), if_neg (by omega)]
theorem repV_rep {g : Nat} (h : ¬ g < 16) (h2 : g < 19) : repV (g : Int) = ((((repL g : Nat) : Int), ((repB g : Nat) : Int)), true) := by
  have : g = 16 ∨ g = 17 ∨ g = 18 := by omega
  rcases this with rfl | rfl | rfl <;> rfl
attribute [local irreducible] Ld St Nw Nn Lt LdS
theorem c_lengths {lens : List Int} {lo hi tb many : Nat} (h : FS w fb rb o s out p most) (hs : s.size ≤ 1000000) (ht : TB w lo hi tb lens) (hk : Lok lens) (h19 : lens.length = 19) (hS : Sep lo hi fb rb o w) (hL : Laid N w) (hN : Low N fb rb o) (hm : many ≤ 1000) :
    C67 (some (⟨fb, 0, none⟩ : Addr)) (some (⟨tb, 0, none⟩ : Addr)) (many : Int) w
      (fun r w1 => ∃ l q, lensF lens s many (many + 1) [] p = .ok (l, q) ∧ IV w1 r l ∧ r.len ≤ r.cap ∧ (∀ j, r.own j → w.heap.size ≤ j) ∧ FS w1 fb rb o s out q most ∧ Ext (· = rb) w w1) (ErR fb rb w o (lensF lens s many (many + 1) [] p)) := by
  refine T67 _ _ _ _ _ _ ?_
  unfold S67
  have hfb := h.blk.lt
  have hrb := h.rd.lt
  obtain ⟨w1, hrun, e1, hrow1⟩ := elI_make0 w many (by omega)
  refine ⟨_, w1, hrun, ?_⟩
  generalize hR : lensF lens s many (many + 1) [] p = R0
  have rdx : ∀ {a b : World}, Ext (fun _ => False) a b → Ext (· = rb) a b := fun h => h.mono fun _ _ e => e.elim
  refine ⟨fun n st w2 => ∃ (l : List Int) (q : Nat), Row w2 st 3 1 (ints l) ∧ (∀ j, st.own j → w.heap.size ≤ j) ∧ FS w2 fb rb o s out q most ∧ Ext (· = rb) w w2 ∧ l.length ≤ many ∧ many < l.length + n ∧ lensF lens s many n l q = R0, many + 1, ⟨[], p, hrow1, fun j hj => (by obtain ⟨a, ha, rfl⟩ := hj; cases ha; exact Nat.le_refl _), h.keep e1, rdx e1, Nat.zero_le _, by simp, hR⟩, ?_⟩
  rintro n st w2 ⟨l, q, hrow, hown, H2, e2, hlm, hfu, hres⟩
  unfold S67L1
  have hsl : st.len = l.length := by have := hrow.1; rw [ints_len] at this; omega
  have hz2 := e2.size
  rw [hsl]
  obtain ⟨n, rfl⟩ : ∃ n', n = n' + 1 := ⟨n - 1, by omega⟩
  unfold lensF at hres
  refine Br.dec (fun q1 => ?_) fun q1 => ?_
  · rw [if_neg (by omega)] at hres
    refine Nn.of (Ld.of H2.blk (o := 0) (x := at0 rb) rfl ?_)
    have m2 : Mv fb rb w w2 o o := .rd e2
    refine (c_tread (ht.mv hS m2.ext) hk H2.rd hs hS.r).mono ?_
    rintro r e w3 ⟨e3, q3, hT, hr3⟩
    have E3 : Ext (· = rb) w w3 := e2.tr e3
    refine (c_mustI _ e w3).mono ?_ ?_
    rotate_left
    · rintro v _ ⟨rfl, h2, rfl⟩
      rcases hT with ⟨g, _, _, h3⟩ | ⟨h3, _⟩
      · exact absurd h3 h2
      · rw [h3] at hres
        exact ⟨e, hres.symm, rfl, (Mv.rd E3).ext⟩
    rintro r w3 ⟨rfl, rfl, rfl⟩
    obtain ⟨g, hg, rfl, _⟩ : ∃ g : Nat, sym lens s q = .ok (g, q3) ∧ r = (g : Int) ∧ (0 : Int) = 0 := by
      rcases hT with hT | ⟨_, h3⟩
      · exact hT
      · exact absurd rfl h3
    have H3 := H2.read e3 (hr3 rfl)
    have hrow3 := hrow.keep e3 fun j hj e => by have := hown j hj; have e : j = rb := e; omega
    obtain ⟨g1, g2, g3⟩ := sym_ok hg
    rw [h19] at g3
    rw [hg] at hres
    dsimp only at hres
    have hL3 := hL.keep E3 fun j e => by have e : j = rb := e; rw [e]; exact hN.r
    obtain ⟨n1, n2, n3, bm, ob, n4, n5, n6, n7⟩ := hL3
    refine Ld.mk n6 ⟨(repV g).1, (repV g).2, w3, n7 w3 n5 g (by omega) (by omega), ?_⟩
    refine (Hn.start w3).nw fun w4 H => ?_
    simp only [List.nil_append] at H
    have hlt4 := H.lt 0 rfl
    iterate 2 (refine H.st 0 rfl (by simp) fun _ H => ?_; simp only [List.nil_append, List.cons_append, List.set_cons_zero, List.set_cons_succ, Nat.zero_add] at H)
    have hown3 : ∀ j, st.own j → j < w3.heap.size := fun j hj => hrow3.own_lt hj
    by_cases q4 : g < 16
    · rw [repV_lit q4]
      rw [if_pos q4] at hres
      refine Br.t rfl ?_
      refine H.nw fun w7 H => ?_
      simp only [List.cons_append, List.nil_append] at H
      obtain ⟨o8, w8, hrun8, hrow8, hl8, e8, own8⟩ := elI.app1 (ty := 28) (ys := [.int .i64 (g : Int)]) (hrow3.keep H.ext fun _ _ h => h) (H.get 1 rfl) rfl (by intro v hv; rw [List.mem_singleton.1 hv]; rfl) (by omega) (by omega)
      refine ⟨o8, w8, hrun8, n, by omega, l ++ [(g : Int)], q3, ?_, fun j hj => ?_, ?_, ?_, ?_, ?_, hres⟩
      · rw [ints_app]; exact hrow8
      · have := H.size
        have := E3.size
        rcases own8 j hj with e | e
        · exact hown j e
        · omega
      · have H7 := H3.keep H.ext
        exact ⟨e8.blk H7.blk fun e => by have := hown _ e; omega, H7.rd.keep e8 fun e => by have := hown _ e; omega, H7.row.keep e8 fun j hj e => by have := hown j e; have := h.row.own_lt hj; omega, H7.ne, H7.nf, H7.nr, H7.len, H7.big⟩
      · exact (E3.tr (rdx H.ext)).trans e8 (fun _ h => h) fun i hi e => by have := hown i e; omega
      · rw [List.length_append]; simp; omega
      · rw [List.length_append]; simp; omega
    · rw [repV_rep q4 g3]
      rw [if_neg q4] at hres
      have hB : repB g ≤ 7 ∧ 2 ≤ repB g := by unfold repB; split; omega; split <;> omega
      have hLb : repL g ≤ 11 ∧ 3 ≤ repL g := by unfold repL; split <;> omega
      rw [repV_rep q4 g3] at H
      refine Br.f rfl (Br.eq (fun q5 => ?_) fun q5 => ?_)
      · have : g = 16 := by omega
        subst this
        refine (c_need _ 3 _).mono ?_ ?_
        rotate_left
        · rintro v w7 ⟨rfl, h5, rfl⟩
          have h5 := of_decide_eq_false h5
          rw [if_pos ⟨rfl, by omega⟩] at hres
          exact ⟨3, hres.symm, rfl, (Mv.rd (E3.tr (rdx H.ext))).ext⟩
        rintro w7 ⟨h5, rfl⟩
        have h5 := of_decide_eq_true h5
        rw [if_neg (by omega)] at hres
        rw [i64_id (n := ((l.length : Nat) : Int) - 1) (by omega)]
        have hvl := IV.row (hrow3.keep H.ext fun _ _ h => h)
        obtain ⟨a, ha, hc⟩ := hvl.get (i := l.length - 1) (by omega)
        rw [ha]
        refine ⟨by omega, by omega, Nn.of ?_⟩
        rw [show (((l.length : Nat) : Int) - 1).toNat = l.length - 1 by omega]
        refine Ld.mk hc ?_
        refine ⟨fun w' => Blk w' w3.heap.size #[.int .i64 (repL 16 : Nat), .int .i64 (repB 16 : Nat)] 123, (H.get 0 rfl).drew, LdS.of (fun w' h => h) (o := 0) (x := ((repL 16 : Nat) : Int)) rfl ?_⟩
        simp only [add_lit, Nat.zero_add]
        refine LdS.of (fun w' h => h) (o := 1) (x := ((repB 16 : Nat) : Int)) rfl ?_
        have H := H.drew
        have H7 := H3.keep H.ext
        have hrow7 := hrow3.keep H.ext fun _ _ h => h
        refine (c_bits (n := repB 16) (by omega) H7 hs).mono ?_ ?_
        rotate_left
        · rintro v w8 ⟨hn, rfl, e8⟩
          rw [hn] at hres
          exact ⟨4, hres.symm, rfl, (Mv.rd ((E3.tr (rdx H.ext)).tr e8)).ext⟩
        rintro x w8 ⟨q8, hn, H8, e8⟩
        rw [hn] at hres
        dsimp only at hres
        obtain ⟨x0, x1, x2, x3⟩ := num_bd hn
        have hp7 : (2 : Int) ^ repB 16 ≤ 2 ^ 7 := two_pow_le (by omega)
        have h27 : (2 : Int) ^ 7 = 128 := by decide
        obtain ⟨x, rfl⟩ := Int.eq_ofNat_of_zero_le x0
        simp only [Int.toNat_natCast] at hres
        have E8 := (E3.tr (rdx H.ext)).tr e8
        have hrow8 := hrow7.keep e8 fun j hj e => by have := hown j hj; have e : j = rb := e; omega
        have hrb3 := H3.rd.lt
        refine ⟨e8.blk (H.get 0 rfl) (fun e => by have e : w3.heap.size = rb := e; omega), ?_⟩
        rw [i64_id (n := ((repL 16 : Nat) : Int) + (x : Int)) (by omega), i64_id (by omega)]
        refine (c_need _ 3 _).mono ?_ ?_
        rotate_left
        · rintro v w8 ⟨rfl, h6, rfl⟩
          have h6 := of_decide_eq_false h6
          rw [if_pos (by omega)] at hres
          exact ⟨3, hres.symm, rfl, (Mv.rd E8).ext⟩
        rintro w8 ⟨h6, rfl⟩
        have h6 := of_decide_eq_true h6
        rw [if_neg (by omega), if_pos trivial] at hres
        refine (Hn.start w8).nw fun w9 H9 => ?_
        simp only [List.nil_append] at H9
        rw [show ((repL 16 : Nat) : Int) + (x : Int) = ((repL 16 + x : Nat) : Int) by omega]
        refine (c_repeat (H9.get 0 rfl) (c := repL 16 + x) (by omega) (by omega)).mono ?_ fun _ _ h => h.elim
        rintro r w10 ⟨hv, e10, o10⟩
        have e9 := H9.ext.tr e10
        obtain ⟨o11, w11, hrun11, hrow11, hl11, e11, own11⟩ := elI.app (ty := 28) (hrow8.keep e9 fun _ _ h => h) hv.2 (ints_one _) (by rw [hv.1, List.length_replicate]; omega) (by rw [hv.1, List.length_replicate]; omega)
        refine ⟨o11, w11, hrun11, n, by omega, _, q8, ?_, fun j hj => ?_, ?_, ?_, ?_, ?_, hres⟩
        · rw [ints_app]; exact hrow11
        · have := e9.size
          have := E8.size
          rcases own11 j hj with e | e
          · exact hown j e
          · omega
        · have H10 := H8.keep e9
          exact ⟨e11.blk H10.blk fun e => by have := hown _ e; omega, H10.rd.keep e11 fun e => by have := hown _ e; omega, H10.row.keep e11 fun j hj e => by have := hown j e; have := h.row.own_lt hj; omega, H10.ne, H10.nf, H10.nr, H10.len, H10.big⟩
        · exact (E8.tr (rdx e9)).trans e11 (fun _ h => h) fun i hi e => by have := hown i e; omega
        · rw [List.length_append, List.length_replicate]; omega
        · rw [List.length_append, List.length_replicate]; omega
      · rw [if_neg (by omega)] at hres
        have h16 : ¬ g = 16 := by omega
        refine ⟨fun w' => Blk w' w3.heap.size #[.int .i64 (repL g : Nat), .int .i64 (repB g : Nat)] 123, (H.get 0 rfl).drew, LdS.of (fun w' h => h) (o := 0) (x := ((repL g : Nat) : Int)) rfl ?_⟩
        simp only [add_lit, Nat.zero_add]
        refine LdS.of (fun w' h => h) (o := 1) (x := ((repB g : Nat) : Int)) rfl ?_
        have H := H.drew
        have H7 := H3.keep H.ext
        have hrow7 := hrow3.keep H.ext fun _ _ h => h
        refine (c_bits (n := repB g) (by omega) H7 hs).mono ?_ ?_
        rotate_left
        · rintro v w8 ⟨hn, rfl, e8⟩
          rw [hn] at hres
          exact ⟨4, hres.symm, rfl, (Mv.rd ((E3.tr (rdx H.ext)).tr e8)).ext⟩
        rintro x w8 ⟨q8, hn, H8, e8⟩
        rw [hn] at hres
        dsimp only at hres
        obtain ⟨x0, x1, x2, x3⟩ := num_bd hn
        have hp7 : (2 : Int) ^ repB g ≤ 2 ^ 7 := two_pow_le (by omega)
        have h27 : (2 : Int) ^ 7 = 128 := by decide
        obtain ⟨x, rfl⟩ := Int.eq_ofNat_of_zero_le x0
        simp only [Int.toNat_natCast] at hres
        have E8 := (E3.tr (rdx H.ext)).tr e8
        have hrow8 := hrow7.keep e8 fun j hj e => by have := hown j hj; have e : j = rb := e; omega
        have hrb3 := H3.rd.lt
        refine ⟨e8.blk (H.get 0 rfl) (fun e => by have e : w3.heap.size = rb := e; omega), ?_⟩
        rw [i64_id (n := ((repL g : Nat) : Int) + (x : Int)) (by omega), i64_id (by omega)]
        refine (c_need _ 3 _).mono ?_ ?_
        rotate_left
        · rintro v w8 ⟨rfl, h6, rfl⟩
          have h6 := of_decide_eq_false h6
          rw [if_pos (by omega)] at hres
          exact ⟨3, hres.symm, rfl, (Mv.rd E8).ext⟩
        rintro w8 ⟨h6, rfl⟩
        have h6 := of_decide_eq_true h6
        rw [if_neg (by omega), if_neg h16] at hres
        refine (Hn.start w8).nw fun w9 H9 => ?_
        simp only [List.nil_append] at H9
        rw [show ((repL g : Nat) : Int) + (x : Int) = ((repL g + x : Nat) : Int) by omega]
        refine (c_repeat (H9.get 0 rfl) (c := repL g + x) (by omega) (by omega)).mono ?_ fun _ _ h => h.elim
        rintro r w10 ⟨hv, e10, o10⟩
        have e9 := H9.ext.tr e10
        obtain ⟨o11, w11, hrun11, hrow11, hl11, e11, own11⟩ := elI.app (ty := 28) (hrow8.keep e9 fun _ _ h => h) hv.2 (ints_one _) (by rw [hv.1, List.length_replicate]; omega) (by rw [hv.1, List.length_replicate]; omega)
        refine ⟨o11, w11, hrun11, n, by omega, _, q8, ?_, fun j hj => ?_, ?_, ?_, ?_, ?_, hres⟩
        · rw [ints_app]; exact hrow11
        · have := e9.size
          have := E8.size
          rcases own11 j hj with e | e
          · exact hown j e
          · omega
        · have H10 := H8.keep e9
          exact ⟨e11.blk H10.blk fun e => by have := hown _ e; omega, H10.rd.keep e11 fun e => by have := hown _ e; omega, H10.row.keep e11 fun j hj e => by have := hown j e; have := h.row.own_lt hj; omega, H10.ne, H10.nf, H10.nr, H10.len, H10.big⟩
        · exact (E8.tr (rdx e9)).trans e11 (fun _ h => h) fun i hi e => by have := hown i e; omega
        · rw [List.length_append, List.length_replicate]; omega
        · rw [List.length_append, List.length_replicate]; omega
  · rw [if_pos (by omega)] at hres
    exact ⟨l, q, hres.symm, IV.row hrow, row_cap hrow, hown, H2, e2⟩
end
end Inf
end Go.Proofs.YtapgacggllbhiaaDoor
