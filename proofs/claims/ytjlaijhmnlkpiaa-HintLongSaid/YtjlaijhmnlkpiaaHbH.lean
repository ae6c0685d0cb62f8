/- Hints: HintBack: the walk. Conditions: none. -/
import Derived.Test.YtjlaijhmnlkpiaaHoH
namespace Go.Proofs.Ytjlaijhmnlkpiaa
namespace Hint
open Sh Bit
set_option linter.unusedVariables false
set_option linter.unusedSimpArgs false
set_option maxRecDepth 4000
set_option maxHeartbeats 2000000
/-! ### Texts with the same first 22 bytes are of one length -/
theorem tk_same {s t : ByteArray} (h : ∀ j, j < 22 → byt s j = byt t j) (p : Nat) : ∀ n, p + n ≤ 176 → tk s 2 p n = tk t 2 p n
  | 0, _ => rfl
  | n + 1, hn => by
    have ih := tk_same h p n (by omega)
    have hb : bt s 2 (p + n) = bt t 2 (p + n) := by
      unfold bt
      rw [h _ (by omega)]
    show (if (2 : Int) = 1 then _ else 2 * tk s 2 p n + bt s 2 (p + n)) = (if (2 : Int) = 1 then _ else 2 * tk t 2 p n + bt t 2 (p + n))
    rw [if_neg (by decide), if_neg (by decide), ih, hb]
theorem off_same {s t : ByteArray} (h : ∀ j, j < 22 → byt s j = byt t j) : ∀ c, c ≤ 3 → offS s c = offS t c
  | 0, _ => rfl
  | c + 1, hc => by
    show (offS s c + dn s * dw s c + 7) / 8 * 8 = (offS t c + dn t * dw t c + 7) / 8 * 8
    unfold dn dw
    rw [off_same h c (by omega), tk_same h 0 32 (by omega), tk_same h (128 + 16 * c) 16 (by omega)]
theorem size_same {s t : ByteArray} {L M : List Hi} (hs : Good s L) (ht : Good t M) (h : ∀ j, j < 22 → byt s j = byt t j) : s.size = t.size := by
  have h1 := hs.gf.size
  have h2 := ht.gf.size
  rw [← hs.off 3 (by omega)] at h1
  rw [← ht.off 3 (by omega)] at h2
  rw [off_same h 3 (by omega)] at h1
  omega
theorem byt_list (s : ByteArray) (j : Nat) : byt s j = ((s.data.toList.getD j 0).toNat : Int) := by rw [← bAt_byt, bAt_list]
theorem more_bad {s t : ByteArray} {L : List Hi} (hs : Good s L) (ht : t.size ≠ 0) (M : List Hi) : ¬ Good (s ++ t) M := fun hg => by
  have h22 := hs.head
  have h := size_same hs hg fun j hj => by
    rw [byt_list, byt_list, ByteArray.data_append, Array.toList_append, List.getD_eq_getElem?_getD, List.getD_eq_getElem?_getD, List.getElem?_append_left (by rw [← size_list]; omega)]
  rw [ByteArray.size_append] at h
  omega
theorem less_bad {s : ByteArray} {L : List Hi} (hs : Good s L) {n : Nat} (hn : n < s.size) (M : List Hi) : ¬ Good (s.extract 0 n) M := fun hg => by
  have h22 := hg.head
  have hsz : (s.extract 0 n).size = n := by rw [ByteArray.size_extract]; omega
  have h := size_same hg hs fun j hj => by
    rw [byt_list, byt_list, extract_list, List.getD_eq_getElem?_getD, List.getD_eq_getElem?_getD, List.drop_zero, List.getElem?_take_of_lt (by omega)]
  omega
/-- A slice's elements, one more than deep enough: what each is. -/
theorem rdC_slice' {P : Program} {w : World} {n k : Nat} {t e : TypeId} {cs : List Value} {α : Type} [Inhabited α] {Q : α → List Value → Prop} (hu : P.underlying t = some (.slice e)) (hk : P.cellsOf e = k) (h : RdC P w n t cs)
    (hQ : ∀ m cs', cs'.length = k → RdC P w m e cs' → ∃ q, Q q cs') : ∃ (s : Slc) (L : List α), cs = [Slc.v s] ∧ s.len = L.length ∧ L.length ≤ maxLen ∧ ∀ (i : Nat) (q : α), L[i]? = some q → ∃ a cs', s.p = some a ∧ (∀ j, j < k → w.cell? (a.add (i * k + j)) = cs'[j]?) ∧ Q q cs' := by
  obtain ⟨s, m, h1, h2⟩ := rdC_slice hu h
  rcases h2 with rfl | ⟨a, hp, g1, g2, hc⟩
  · exact ⟨_, [], h1, rfl, Nat.zero_le _, fun i q hi => by cases hi⟩
  · rw [hk] at hc
    have h' : ∀ i, ∃ q : α, i < s.len → ∃ cs', (∀ j, j < k → w.cell? (a.add (i * k + j)) = cs'[j]?) ∧ Q q cs' := fun i => by
      by_cases hi : i < s.len
      · obtain ⟨cs', hl, hc, hr⟩ := hc i hi
        obtain ⟨q, hq⟩ := hQ m cs' hl hr
        exact ⟨q, fun _ => ⟨cs', hc, hq⟩⟩
      · exact ⟨default, fun hh => absurd hh hi⟩
    refine ⟨s, (List.range s.len).map fun i => Classical.choose (h' i), h1, by simp, by simp; omega, fun i q hi => ?_⟩
    rw [List.getElem?_map] at hi
    obtain ⟨i', hi1, rfl⟩ := Option.map_eq_some_iff.1 hi
    obtain ⟨hlt, rfl⟩ := List.getElem?_eq_some_iff.1 hi1
    simp only [List.length_range] at hlt
    simp only [List.getElem_range]
    obtain ⟨cs', c1, c2⟩ := Classical.choose_spec (h' i) hlt
    exact ⟨a, cs', hp, c1, c2⟩
def inI (h : Hi) : Prop := (-9223372036854775808 ≤ h.1 ∧ h.1 ≤ 9223372036854775807) ∧ (-9223372036854775808 ≤ h.2.1 ∧ h.2.1 ≤ 9223372036854775807) ∧ (-9223372036854775808 ≤ h.2.2 ∧ h.2.2 ≤ 9223372036854775807)
set_option maxRecDepth 100000 in
theorem hint_rd {w : World} {n : Nat} {cs : List Value} (hl : cs.length = 3) (hn : RdC Try.prog w n 70 cs) : ∃ o : Hi, cs = hrow o ∧ inI o := by
  obtain ⟨c0, c1, c2, rfl⟩ : ∃ c0 c1 c2, cs = [c0, c1, c2] := by
    match cs, hl with
    | [c0, c1, c2], _ => exact ⟨c0, c1, c2, rfl⟩
  obtain ⟨x0, rfl, f0⟩ := leaf_int (k := 8) (i := 0) (u := 3) (by kernel_rfl) Try.underlying3 hn rfl
  obtain ⟨x1, rfl, f1⟩ := leaf_int (k := 8) (i := 1) (u := 3) (by kernel_rfl) Try.underlying3 hn rfl
  obtain ⟨x2, rfl, f2⟩ := leaf_int (k := 8) (i := 2) (u := 3) (by kernel_rfl) Try.underlying3 hn rfl
  exact ⟨(x0, x1, x2), rfl, wf_i64 f0, wf_i64 f1, wf_i64 f2⟩
theorem hints_arg {H : Type} {enc : TypeId × Value → H} {W : World} {spare : Nat → Bool} {held : Bool} {v : Value} {d : DataW H} {ps : List MemPlace} {rr : Reach} {b0 : Nat}
    (h0 : Value.okWide Try.prog W rr b0 59 v) (h : DataW.Trod enc Try.prog W 0 spare held 59 v d ps) : ∃ (s : Slc) (L : List Hi), v = Slc.v s ∧ HV W s L ∧ L.length ≤ maxLen ∧ ∀ o ∈ L, inI o := by
  obtain ⟨n, hn⟩ := rdC_arg_slice Try.underlying59 h0 h
  have : Inhabited Hi := ⟨(0, 0, 0)⟩
  obtain ⟨s, L, e, l5, m5, g5⟩ := rdC_slice' (Q := fun (o : Hi) cs => cs = hrow o ∧ inI o) Try.underlying59 (show Try.prog.cellsOf 70 = 3 by kernel_rfl) hn fun m cs' hl h => hint_rd hl h
  refine ⟨s, L, by simpa using e, ⟨l5, by rw [h_len, l5], fun j v hj => ?_⟩, m5, fun o ho => ?_⟩
  · have hjl : j < L.length * 3 := by
      rw [← h_len]
      exact (List.getElem?_eq_some_iff.1 hj).1
    have hi : j / 3 < L.length := by omega
    have hjj : j = j / 3 * 3 + j % 3 := by omega
    have hLi : L[j / 3]? = some L[j / 3] := List.getElem?_eq_getElem hi
    obtain ⟨a, cs', ha, hc, rfl, _⟩ := g5 _ _ hLi
    refine ⟨a, ha, ?_⟩
    have h1 := hc (j % 3) (by omega)
    rw [hjj] at hj ⊢
    rw [h_get hLi (by omega)] at hj
    rw [h1]
    exact hj
  · obtain ⟨i, hi, rfl⟩ := List.mem_iff_getElem.1 ho
    obtain ⟨_, _, _, _, _, h⟩ := g5 i _ (List.getElem?_eq_getElem hi)
    exact h
attribute [local irreducible] Ld St Nw Nn Lt LdS
theorem c_same {s t : Slc} {L : List Hi} {w : World} (hs : HV w s L) (ht : HV w t L) (hn : L.length ≤ 1000000) : C42 s t w fun r w1 => r = true ∧ Ext (fun _ => False) w w1 := by
  refine T42 _ _ _ _ ?_
  unfold S42
  rw [hs.1, ht.1]
  refine Br.f (by simp) ⟨fun n st w7 => ∃ i : Nat, st = (i : Int) ∧ i ≤ L.length ∧ n = L.length - i ∧ Ext (fun _ => False) w w7, L.length, ⟨0, rfl, by omega, rfl, Ext.refl _ _⟩, ?_⟩
  rintro n st w7 ⟨i, rfl, hi, rfl, he⟩
  unfold S42L1
  rw [hs.1, ht.1]
  refine Br.dec (fun e => ⟨by omega, by omega, ?_⟩) fun e => ⟨rfl, he⟩
  have hlt : i < L.length := by omega
  have hLi : L[i]? = some L[i] := List.getElem?_eq_getElem hlt
  obtain ⟨p, hp, k0, k1, k2⟩ := (hs.keep he.drew).get hLi
  obtain ⟨q, hq, j0, j1, j2⟩ := (ht.keep he.drew).get hLi
  rw [hp, hq, Int.toNat_natCast]
  refine Nn.of (Ld.mk k0 (Ld.mk k1 (Ld.mk k2 ⟨by omega, by omega, Nn.of (Ld.mk j0 (Ld.mk j1 (Ld.mk j2 (Br.f (by simp) ?_))))⟩)))
  exact ⟨L.length - (i + 1), by omega, i + 1, by rw [i64_id (by omega)]; rfl, by omega, rfl, he.drew⟩
theorem text_size {s : ByteArray} {L : List Hi} (h : Good s L) : s.size ≤ 264 + 24 * L.length * 3 := by
  have := A3_len L 3
  rw [← h.2]
  show ((A3 L 3).1.1.toArray).size ≤ _
  simpa using this
theorem back_law {l : Slc} {L : List Hi} (more : ByteArray) (w : World) (hv : HV w l L) : C9 l more w fun r w1 => r = true ∧ Ext (fun _ => False) w w1 := by
  refine T9 _ _ _ _ ?_
  unfold S9
  refine (c_lives _).mono ?_
  rintro r w1 ⟨rfl, e1⟩
  rw [hv.1]
  refine Br.f rfl (Br.dec (fun _ => ⟨rfl, e1⟩) fun hl => Br.dec (fun _ => ⟨rfl, e1⟩) fun hm => (c_text (hv.keep e1)).mono ?_)
  rintro s why w2 ⟨h, e2⟩
  have E2 := e1.tr e2
  refine Br.ne (fun h0 => ⟨?_, E2⟩) fun h0 => ?_
  · unfold textH at h
    split at h
    · cases h; exact absurd rfl h0
    · cases h; simp
  subst h0
  have hg := good_of h.symm
  have hsz := text_size hg
  have hh := hg.head
  have hmax : IntKind.i64.max = 9223372036854775807 := by decide
  refine (c_read (by omega) _).mono ?_
  rintro x e w3 ⟨h3, e3⟩
  obtain ⟨rfl, hx⟩ := h3.good hg
  refine ⟨by rw [hmax]; omega, (c_read (by rw [ByteArray.size_append]; omega) _).mono ?_⟩
  rintro y f w4 ⟨h4, e4⟩
  rw [i64_id (by omega)]
  have hx1 : (((s.size : Nat) : Int) - 1).toNat = s.size - 1 := by omega
  rw [hx1]
  refine ⟨by omega, by omega, (c_read (by rw [ByteArray.size_extract]; omega) _).mono ?_⟩
  rintro z g w5 ⟨h5, e5⟩
  obtain ⟨rfl, rfl⟩ := h5.bad (less_bad hg (by omega))
  refine (c_same ((hx.keep e4).keep e5) (((hv.keep E2).keep e3).keep (e4.tr e5)) (by omega)).mono ?_
  rintro r w6 ⟨rfl, e6⟩
  have E6 := E2.tr (e3.tr (e4.tr (e5.tr e6)))
  refine Br.t rfl (Br.t rfl (Br_of (fun _ => Br.t rfl ⟨rfl, E6⟩) fun hne => ?_))
  have hms : more.size ≠ 0 := fun h0 => by
    have : more = ⟨#[]⟩ := ba_ext (List.eq_nil_of_length_eq_zero (by rw [← size_list]; exact h0))
    rw [this] at hne
    simp at hne
  obtain ⟨rfl, rfl⟩ := h4.bad (more_bad hg hms)
  exact Br.t rfl (Br.t rfl (Br.t rfl ⟨rfl, E6⟩))
end Hint
end Go.Proofs.Ytjlaijhmnlkpiaa
