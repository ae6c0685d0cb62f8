/- The lexer: All gives the tokens of a string. Conditions: at most 1000000 tokens. -/
import Derived.Test.YtpkadliieplblaaDoorTkG
namespace Go.Proofs.YtpkadliieplblaaDoor
namespace Tk
open Sh Fix Go.Lib
open Go.RowKit
set_option linter.unusedVariables false
set_option linter.unusedSimpArgs false
set_option maxRecDepth 100000
set_option maxHeartbeats 4000000
/-- The tokens of a slice. -/
def TV (w : World) (r : Slc) (L : List TT) : Prop := r.len = L.length ∧ VRow w r 5 (L.flatMap tokr)
theorem TV.keep {w w' : World} {r : Slc} {L : List TT} (h : TV w r L) (he : Ext (fun _ => False) w w') : TV w' r L := ⟨h.1, h.2.keep he⟩
theorem tokr_len (t : TT) : (tokr t).length = 5 := rfl
theorem TV.get {w : World} {r : Slc} {L : List TT} (h : TV w r L) {i : Nat} {t : TT} (hi : L[i]? = some t) : ∃ a, r.p = some a ∧ ∀ j v, (tokr t)[j]? = some v → w.cell? ((a.add (i * 5)).add j) = some v := by
  obtain ⟨a, ha, _⟩ := h.2.2 (i * 5 + 0) _ (by rw [flat_at tokr_len L i 0 t hi (by decide)]; rfl)
  refine ⟨a, ha, fun j v hj => ?_⟩
  have hj5 : j < 5 := by
    have := (List.getElem?_eq_some_iff.1 hj).1
    simpa [tokr] using this
  obtain ⟨a', ha', hc⟩ := h.2.2 (i * 5 + j) v (by rw [flat_at tokr_len L i j t hi hj5]; exact hj)
  rw [ha] at ha'
  cases ha'
  rw [add_add']
  exact hc
theorem all_body : Tryd.f7.body = some (.seq cAllA (.seq cAllB (.seq cAllC (.seq (.seq cAllD (.block 0 (.rangeFunc (.tmp 8) #[9] cAllE cAllF))) cAllG)))) := by kernel_rfl
attribute [local irreducible] Ld Sh.St Nw Nn LdS
abbrev sl0 : List Value := [Slc.v ⟨none, 0, 0⟩]
abbrev fl0 : List Value := [.int .i64 0, .int .i64 0]
abbrev pa (b : Nat) : Value := .pointer (some ⟨b, 0, none⟩)
theorem all_end {W : World} {b2 b3 b4 b5 : Nat} {sl : Slc} {t2 t3 t4 t5 : TypeId} {R : Addr → Addr → World → Prop} (k2 : Blk W b2 sl0.toArray t2) (k3 : Blk W b3 fl0.toArray t3) (k4 : Blk W b4 #[Slc.v sl] t4) (k5 : Blk W b5 fl0.toArray t5) (hb : b2 ≠ b3)
    (hR : ∀ W', Blk W' b2 #[Slc.v sl] t2 → Blk W' b3 fl0.toArray t3 → Ext (fun j => j = b2 ∨ j = b3) W W' → R ⟨b2, 0, none⟩ ⟨b3, 0, none⟩ W') : SAllG ⟨b2, 0, none⟩ ⟨b3, 0, none⟩ ⟨b4, 0, none⟩ ⟨b5, 0, none⟩ W R := by
  unfold SAllG
  simp only [add_lit, Nat.zero_add]
  refine Ld.of k5 rfl (Br.f rfl (Ld.of k4 rfl ?_))
  have H : Hx W (fun j => j = b2 ∨ j = b3) W [(b2, sl0.toArray, t2), (b3, fl0.toArray, t3)] := ⟨fun p hp => by
      simp only [List.mem_cons, List.not_mem_nil, or_false] at hp
      rcases hp with rfl | rfl
      · exact k2
      · exact k3, by simp [hb], Ext.refl _ _⟩
  refine H.st 0 rfl (by simp) (.inl (.inl rfl)) fun _ H => ?_
  refine H.st 1 rfl (by simp) (.inl (.inr rfl)) fun _ H => ?_
  refine H.st 1 rfl (by simp) (.inl (.inr rfl)) fun _ H => ?_
  exact hR _ (H.get 0 rfl) (H.get 1 rfl) H.ext
theorem c_all {s : ByteArray} {L : List TT} (hT : Toks s 0 L) (hl : L.length ≤ 1000000) (w : World) : C7 s w fun r f w1 => TV w1 r L ∧ f = (0, 0) ∧ Ext (fun _ => False) w w1 := by
  refine (callsIn_wide (n := 0)).1 ?_
  refine callsIn_of_wp_marks Tryd.func7 all_body trivial ?_ rfl
  have hf0 : Fits 26 [(0, .string s)] { tmps := #[.string s] ++ Array.replicate (Tryd.f7.ntmps - #[Value.string s].size) undef, defers := [] } := fits0 (args := [.string s]) (n := 26) (by simp)
  obtain ⟨a0, ha0, hd0⟩ : ∃ a0 : Act, a0 = { tmps := #[.string s] ++ Array.replicate (Tryd.f7.ntmps - #[Value.string s].size) undef, defers := [] } ∧ a0.defers = [] := ⟨_, rfl, rfl⟩
  rw [← ha0] at hf0 ⊢
  clear ha0
  refine seqY (F := ⟨FF, MAY, fun _ _ => False⟩) InF.wide okF (fun _ _ h => h) (pl := pAllA) (K := fun E w1 => ∃ b3, E = [(3, pa b3), (2, pa w.heap.size), (0, .string s)] ∧ Hn w w1 [(w.heap.size, sl0, 26), (b3, fl0, 28)]) (by
    rw [EAllA]
    exact (Hn.start w).nw (cs := sl0) fun w1 H => H.nw (cs := fl0) fun w2 H => ⟨_, rfl, H⟩) hf0 (by kernel_rfl) ?_
  rintro E a1 w1 ⟨b3, rfl, H1⟩ hf1 hd1
  rw [hd0] at hd1
  refine seqY (F := ⟨FF, MAY, fun _ _ => False⟩) InF.wide okF (fun _ _ h => h) (pl := pAllB) (K := fun E w2 => E = [(4, pa w1.heap.size), (3, pa b3), (2, pa w.heap.size), (0, .string s)] ∧ Hn w w2 [(w.heap.size, sl0, 26), (b3, fl0, 28), (w1.heap.size, sl0, 26)]) (by
    rw [EAllB]
    exact H1.nw (cs := sl0) fun w2 H => ⟨rfl, H⟩) hf1 (by kernel_rfl) ?_
  rintro E a2 w2 ⟨rfl, H2⟩ hf2 hd2
  rw [hd1] at hd2
  refine seqY (F := ⟨FF, MAY, fun _ _ => False⟩) InF.wide okF (fun _ _ h => h) (pl := pAllC) (K := fun E w3 => E = [(5, pa w2.heap.size), (4, pa w1.heap.size), (3, pa b3), (2, pa w.heap.size), (0, .string s)] ∧ Hn w w3 [(w.heap.size, sl0, 26), (b3, fl0, 28), (w1.heap.size, sl0, 26), (w2.heap.size, fl0, 28)]) (by
    rw [EAllC]
    exact H2.nw (cs := fl0) fun w3 H => ⟨rfl, H⟩) hf2 (by kernel_rfl) ?_
  rintro E a3 w3 ⟨rfl, H3⟩ hf3 hd3
  rw [hd2] at hd3
  refine wpIn_seq ?_
  refine seqY (F := ⟨FF, MAY, fun _ _ => False⟩) InF.wide okF (fun _ _ h => h) (pl := pAllD) (K := fun E w4 => ∃ c4 c5, E = [(8, .func (.func 34) #[] #[pa w3.heap.size, pa c4, pa c5]), (7, .string s), (5, pa w2.heap.size), (4, pa w1.heap.size), (3, pa b3), (2, pa w.heap.size), (0, .string s)] ∧ w3.heap.size < c4 ∧
      Hn w w4 [(w.heap.size, sl0, 26), (b3, fl0, 28), (w1.heap.size, sl0, 26), (w2.heap.size, fl0, 28), (w3.heap.size, [.string s], 9), (c4, [.int .i64 0], 3)]) (by
    rw [EAllD]
    unfold SAllD
    refine T17 _ _ _ _ _ ?_
    refine H3.nw (cs := [.string s]) fun w4 H => ?_
    have hlt : w3.heap.size < w4.heap.size := H.lt 4 rfl
    refine H.nw (cs := [.int .i64 0]) fun w5 H => ?_
    refine H.nw (cs := [pa w2.heap.size]) fun w6 H => ?_
    exact ⟨_, _, rfl, hlt, H.left (M := [(w5.heap.size, [pa w2.heap.size], _)])⟩) hf3 (by kernel_rfl) ?_
  rintro E a4 w4 ⟨c4, c5, rfl, hc4, H4⟩ hf4 hd4
  rw [hd3] at hd4
  have l2 := (H1.get 0 rfl).lt
  have l3 := (H1.get 1 rfl).lt
  have n23 : w.heap.size < b3 := by
    have h1 := H1.ge 1 rfl
    have : w.heap.size ≠ b3 := by
      have := H1.h.nodup
      simp [arr] at this
      exact this
    have h1 : w.heap.size ≤ b3 := h1
    omega
  have l4 : w1.heap.size < w2.heap.size := H2.lt 2 rfl
  have l5 : w2.heap.size < w3.heap.size := H3.lt 3 rfl
  have l6 : c4 < w4.heap.size := H4.lt 5 rfl
  have k2 := H4.get 0 rfl
  have k3 := H4.get 1 rfl
  have k4 := H4.get 2 rfl
  have k5 := H4.get 3 rfl
  have k6 := H4.get 4 rfl
  have k7 := H4.get 5 rfl
  have e4 := H4.ext
  have hev : a4.eval (.tmp 8) = .func (.func 34) #[] #[pa w3.heap.size, pa c4, pa c5] := hf4.rho (x := .tmp 8) rfl
  refine wpIn_block ?_
  refine rf_in okF hev (by kernel_rfl) fun fn => ?_
  obtain ⟨wr, hwr⟩ : ∃ wr, wr = rfW w4 fn a4.tmps #[9] cAllE cAllF := ⟨_, rfl⟩
  have er : Ext (fun _ => False) w4 wr := by rw [hwr]; exact ((Ext.refl _ w4).alloc _).alloc _
  have hr1 : wr.heap[w4.heap.size + 1]? = some (.loop (rfRec fn a4.tmps #[9] cAllE cAllF w4.heap.size)) := by
    rw [hwr]
    have := World.alloc_heap_new (w4.alloc (.deferred (some []))) (.loop (rfRec fn a4.tmps #[9] cAllE cAllF w4.heap.size))
    rwa [World.size_alloc] at this
  have hr0 : wr.heap[w4.heap.size]? = some (.deferred (some [])) := by
    rw [hwr]; exact (Below.heap_alloc _ _ _ (by simp)).trans (World.alloc_heap_new w4 _)
  have hsr : w4.heap.size + 1 < wr.heap.size := (Array.getElem?_eq_some_iff.1 hr1).1
  have hj0 : JT w w4.heap.size w.heap.size b3 w1.heap.size w2.heap.size wr.heap.size (rfRec fn a4.tmps #[9] cAllE cAllF w4.heap.size) [] wr := ⟨hr1, hr0, er.blk k2 (fun h => h), er.blk k3 (fun h => h), er.blk k5 (fun h => h), ⟨⟨none, 0, 0⟩, er.blk k4 (fun h => h), Row.nil _ _ _, rfl, fun j hj => by obtain ⟨a, ha, _⟩ := hj; cases ha⟩, e4.tr er, Nat.le_refl _⟩
  rw [← hwr]
  refine (T34_Y (w4.heap.size + 1) ⟨w3.heap.size, 0, none⟩ ⟨c4, 0, none⟩ ⟨c5, 0, none⟩ wr _ (it_toks (J := JT w w4.heap.size w.heap.size b3 w1.heap.size w2.heap.size wr.heap.size (rfRec fn a4.tmps #[9] cAllE cAllF w4.heap.size)) (B := fun W0 => Chg W0 w4.heap.size w1.heap.size wr.heap.size) (n0 := wr.heap.size) hT
    (er.blk k6 id) (er.blk k7 id) (by omega) (fun W j hj => ⟨hj.1, by rcases hj.2 with h | h | h <;> omega, by rcases hj.2 with h | h | h <;> omega⟩)
    (fun pre W W' h he => h.keepF he fun j hj => by have hj : j = c4 := hj; have := e4.size; subst hj; exact ⟨by omega, by omega, by omega, by omega, by omega, by omega, by omega, by omega⟩)
    (fun pre x W0 W K hj hlen hE hK => tok_yl hj hE ⟨by omega, by omega, by omega, by omega, by omega, by omega⟩ (by omega) (fits_pick hf4 rfl fun p hp => by rw [List.mem_singleton.1 hp]; rfl) hK) hj0)).mono ?_
  rintro e W2 ⟨rfl, hj2⟩
  refine ⟨⟨_, rfl⟩, hj2.rc, ?_⟩
  have hw2 : w.heap.size ≤ w4.heap.size := e4.size
  obtain ⟨sl, z1, z2, z3, z4⟩ := hj2.k4
  refine wpIn_mono (wpIn_wide.2 (codeT_wp (N := 26) (F := ⟨FF, MAY, fun _ _ => False⟩) okF okM cAllG pAllG [(5, pa w2.heap.size), (4, pa w1.heap.size), (3, pa b3), (2, pa w.heap.size)] _
    (rtK fun a b W' => a = ⟨w.heap.size, 0, none⟩ ∧ b = ⟨b3, 0, none⟩ ∧ Blk W' w.heap.size #[Slc.v sl] 26 ∧ Blk W' b3 fl0.toArray 28 ∧ TV W' sl L ∧ W'.heap[w4.heap.size]? = some (.deferred (some [])) ∧ Ext (fun _ => False) w W') _ ?_ (fits_pick hf4 rfl fun p hp => by
      simp only [List.mem_cons, List.not_mem_nil, or_false] at hp
      rcases hp with rfl | rfl | rfl | rfl <;> rfl) (by kernel_rfl))) fun e a' w' hq => ?_
  · rw [EAllG]
    have eP : Ext (· = w4.heap.size + 1) W2 (W2.putObj (w4.heap.size + 1) (.loop { rfRec fn a4.tmps #[9] cAllE cAllF w4.heap.size with state := .exhausted })) := Ext.put (Ext.refl _ _) _ (.inl rfl)
    refine all_end (eP.blk hj2.k2 (by omega)) (eP.blk hj2.k3 (by omega)) (eP.blk z1 (by omega)) (eP.blk hj2.k5 (by omega)) (by omega) fun W' g2 g3 ge => ⟨rfl, rfl, g2, g3, ?_, ?_, ?_⟩
    · have r1 := z2.keep eP fun j hj e => by have := z4 j hj; have e : j = w4.heap.size + 1 := e; omega
      have r2 := r1.keep ge fun j hj e => by
        have := z4 j hj
        rcases e with e | e <;> omega
      exact ⟨z3, r2.view⟩
    · have hD := (Array.getElem?_eq_some_iff.1 hj2.df).1
      exact (ge.block _ (by simpa using hD) (by rintro (h | h) <;> omega)).trans ((World.putObj_heap_other (by omega)).trans hj2.df)
    · exact Ext.new' (Ext.put hj2.ext _ (.inr (by omega))) ge (by rintro j (rfl | rfl) <;> omega)
  · rcases hq with ⟨E', hr, hfe, hse⟩ | ⟨_, _, hp, _⟩
    · cases e <;> try exact hr.elim
      unfold rtK at hr
      simp only at hr
      split at hr
      · rename_i a b g2 g3
        obtain ⟨rfl, rfl, k2', k3', ktv, hdf, he'⟩ := hr
        have hfin : Fits 26 [(3, pa b3), (2, pa w.heap.size)] a' := fits_pick hfe rfl fun p hp => by
          simp only [List.mem_cons, List.not_mem_nil, or_false] at hp
          rcases hp with rfl | rfl
          · exact g3
          · exact g2
        have eD : Ext (· = w4.heap.size) w' (w'.putObj w4.heap.size (.deferred none)) := Ext.put (Ext.refl _ _) _ (.inl rfl)
        have k2f := eD.blk k2' (by omega)
        have k3f := eD.blk k3' (by omega)
        have ktf : TV (w'.putObj w4.heap.size (.deferred none)) sl L := ⟨ktv.1, ktv.2.keepF eD fun j hj e => by have := z4 j hj; have e : j = w4.heap.size := e; omega⟩
        obtain ⟨v, v1, sv, v2, v3⟩ := fin_run (P := Tryd.prog) (fn := Tryd.f7) (w' := w'.putObj w4.heap.size (.deferred none)) (tys := [(.one .slc), (.agg [(.int .i64), (.int .i64)])]) hfin (R := fun s W => TV W s.1 L ∧ s.2 = ((0 : Int), (0 : Int)) ∧ Ext (fun _ => False) w W) (by
          refine (EAllH ⟨w.heap.size, 0, none⟩ ⟨b3, 0, none⟩ _ (fun r f W => TV W r L ∧ f = (0, 0) ∧ Ext (fun _ => False) w W)).mpr ?_
          unfold SAllH
          simp only [add_lit, Nat.zero_add]
          refine Ld.of k2f rfl (Ld.of k3f rfl (Ld.of k3f rfl ⟨ktf, rfl, ?_⟩))
          exact Ext.put he' _ (.inr (by omega)))
        show LeavesInM _ _ _ _ _ _ a'.defers _ _
        rw [hse.2, hd4]
        exact ⟨by simp, .inl ⟨_, _, rfl, run_takeDeferred hdf, v, v1, sv.1, sv.2, v2, v3⟩⟩
      · exact hr.elim
    · exact hp.elim
end Tk
end Go.Proofs.YtpkadliieplblaaDoor
