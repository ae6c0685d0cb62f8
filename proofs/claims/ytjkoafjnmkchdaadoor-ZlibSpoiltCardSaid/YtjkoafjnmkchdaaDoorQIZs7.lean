/- Deflate: what parts give, or why not; both sides. Conditions: sizes. -/
import Derived.Test.YtjkoafjnmkchdaaDoorQIZs6
import Derived.Test.YtjkoafjnmkchdaaDoorQIZs5
import Derived.Test.YtjkoafjnmkchdaaDoorQIZs4
import Derived.Test.YtjkoafjnmkchdaaDoorQIZs3
import Derived.Test.YtjkoafjnmkchdaaDoorQIZs2
import Derived.StringKeys
import Derived.MapKept
namespace Go.Proofs.YtjkoafjnmkchdaaDoor
namespace Inf
open Sh Bit
set_option linter.unusedVariables false
set_option linter.unusedSimpArgs false
set_option maxRecDepth 4000
set_option maxHeartbeats 1000000
attribute [local irreducible] Ld St Nw Nn Lt LdS
/-- A part as it lies in memory: a byte, a size, how far back. -/
abbrev Qr := Int × Int × Int
def prow (q : Qr) : List Value := [.int .u8 q.1, .int .i64 q.2.1, .int .i64 q.2.2]
theorem elP : El Tryd.prog 37 40 3 24 (.agg (prow (0, 0, 0)).toArray) := ⟨by kernel_rfl, by kernel_rfl, by kernel_rfl, by kernel_rfl, rfl⟩
theorem p_len (L : List Qr) : (L.flatMap prow).length = L.length * 3 := by
  induction L with
  | nil => rfl
  | cons o L ih => rw [List.flatMap_cons, List.length_append, ih, List.length_cons]; simp [prow]; omega
theorem p_get {L : List Qr} {i j : Nat} {o : Qr} (hi : L[i]? = some o) (hj : j < 3) : (L.flatMap prow)[i * 3 + j]? = (prow o)[j]? := by
  induction L generalizing i with
  | nil => cases hi
  | cons p L ih =>
    rw [List.flatMap_cons]
    cases i with
    | zero =>
      cases hi
      rw [Nat.zero_mul, Nat.zero_add, List.getElem?_append_left (by simp [prow]; omega)]
    | succ i =>
      rw [List.getElem?_append_right (by simp [prow]; omega), ← ih (by simpa using hi)]
      congr 1
      simp only [prow, List.length_cons, List.length_nil]
      omega
theorem p_one (L : List Qr) : ∀ v ∈ L.flatMap prow, v.oneCell' = true := by
  intro v hv
  obtain ⟨q, _, hq⟩ := List.mem_flatMap.1 hv
  unfold prow at hq
  rcases List.mem_cons.1 hq with rfl | hq
  · rfl
  rcases List.mem_cons.1 hq with rfl | hq
  · rfl
  rcases List.mem_cons.1 hq with rfl | hq
  · rfl
  · cases hq
/-- The parts of a slice. -/
def PV (w : World) (s : Slc) (L : List Qr) : Prop := s.len = L.length ∧ VRow w s 3 (L.flatMap prow)
theorem PV.keep {w w' : World} {s : Slc} {L : List Qr} (h : PV w s L) (he : Ext (fun _ => False) w w') : PV w' s L := ⟨h.1, h.2.keep he⟩
theorem PV.get {w : World} {s : Slc} {L : List Qr} (h : PV w s L) {i : Nat} {o : Qr} (hi : L[i]? = some o) : ∃ a, s.p = some a ∧ w.cell? (a.add (i * 3)) = some (.int .u8 o.1) ∧ w.cell? ((a.add (i * 3)).add 1) = some (.int .i64 o.2.1) ∧ w.cell? ((a.add (i * 3)).add 2) = some (.int .i64 o.2.2) := by
  have g : ∀ j v, j < 3 → (prow o)[j]? = some v → ∃ a, s.p = some a ∧ w.cell? ((a.add (i * 3)).add j) = some v := fun j v hj hv => by
    obtain ⟨a, ha, hc⟩ := h.2.2 (i * 3 + j) v (by rw [p_get hi hj]; exact hv)
    exact ⟨a, ha, by rw [add_add']; exact hc⟩
  obtain ⟨a, ha, c0⟩ := g 0 _ (by omega) rfl
  obtain ⟨a1, ha1, c1⟩ := g 1 _ (by omega) rfl
  obtain ⟨a2, ha2, c2⟩ := g 2 _ (by omega) rfl
  rw [ha] at ha1 ha2
  cases ha1; cases ha2
  exact ⟨a, ha, by rw [add_add'] at c0; exact c0, c1, c2⟩
def okQ (q : Qr) : Prop := (q.2.1 = 0 ∧ q.2.2 = 0) ∨ (q.1 = 0 ∧ 3 ≤ q.2.1 ∧ q.2.1 ≤ 258 ∧ 1 ≤ q.2.2 ∧ q.2.2 ≤ 32768)
instance (q : Qr) : Decidable (okQ q) := by unfold okQ; infer_instance
def toP (q : Qr) : Prt := ⟨UInt8.ofNat q.1.toNat, q.2.1.toNat, q.2.2.toNat⟩
/-- What parts give, or the first error. -/
def unQ : List Qr → List UInt8 → Except Int (List UInt8)
  | [], out => .ok out
  | q :: r, out => if ¬ okQ q then .error 1 else if (out.length : Int) < q.2.2 then .error 14 else if 1048576 < (out.length : Int) + max q.2.1 1 then .error 5 else unQ r (addP out (toP q))
def unR (L : List Qr) : ByteArray × Int := match unQ L [] with
  | .ok o => (⟨o.toArray⟩, 0)
  | .error e => (⟨#[]⟩, e)
def rawP (p : Prt) : Qr := ((p.b.toNat : Int), (p.n : Int), (p.f : Int))
theorem toP_raw (p : Prt) : toP (rawP p) = p := by
  unfold toP rawP
  simp
theorem unQ_fit : ∀ (l : List Prt) (out : List UInt8), Fit l out → (l.foldl addP out).length ≤ 1048576 → unQ (l.map rawP) out = .ok (l.foldl addP out)
  | [], out, _, _ => rfl
  | p :: r, out, ⟨h1, h2, h3⟩, hl => by
    rw [List.map_cons]
    unfold unQ
    rw [List.foldl_cons] at hl ⊢
    have := foldl_len r (addP out p)
    rw [addP_len] at this
    have ok : okQ (rawP p) := by
      unfold okQ rawP
      rcases h1 with ⟨a, b⟩ | ⟨a, b, c, d, e⟩
      · exact .inl ⟨by simp [a], by simp [b]⟩
      · exact .inr ⟨by simp [a], by show 3 ≤ (p.n : Int); omega, by show (p.n : Int) ≤ 258; omega, by show 1 ≤ (p.f : Int); omega, by show (p.f : Int) ≤ 32768; omega⟩
    rw [if_neg (fun h => h ok), toP_raw, if_neg (by show ¬ (out.length : Int) < (p.f : Int); omega), if_neg (by show ¬ 1048576 < (out.length : Int) + max (p.n : Int) 1; omega)]
    exact unQ_fit r (addP out p) h3 hl
theorem Hn.base {w0 w1 w : World} {L : List (Nat × List Value × TypeId)} (h : Hn w1 w L) (he : Ext (fun _ => False) w0 w1) : Hn w0 w L :=
  ⟨⟨h.h.blk, h.h.nodup, he.tr h.ext⟩, fun p hp => Nat.le_trans he.size (h.new p hp)⟩
section
variable {w vw : World} {B : Nat} {cs : List Value} {t : TypeId} {sl : Slc} {out : List UInt8}
/-- A byte is appended. -/
theorem push1 (H : Hn w vw [(B, cs, t)]) (hr : BRow vw sl out) (ho : ∀ j, sl.own j → w.heap.size ≤ j ∧ j ≠ B) (hl : out.length ≤ 2000000) (b : UInt8) {x : Int} (hx : x = (b.toNat : Int)) {K : Slc → World → Prop}
    (k : ∀ s' w', Hn w w' [(B, cs, t)] → BRow w' s' (out ++ [b]) → (∀ j, s'.own j → w.heap.size ≤ j ∧ j ≠ B) → K s' w') :
    Nw vw (.cells #[.int .u8 x] 5) fun vw46 => Rn Tryd.prog (Builtin.append_ #[32, 32] 32 #[Slc.v sl, Slc.v ((⟨some ⟨vw.heap.size, 0, none⟩, 1, 1⟩ : Slc))]) vw46 Slc.v K := by
  subst hx
  refine Nw.of ?_
  have e1 := (Ext.refl (fun _ => False) vw).alloc (.cells #[.int .u8 (b.toNat : Int)] 5)
  obtain ⟨s', w', hrun, hrow, hext, hown⟩ := app_one (ty := 32) (b := b) (hr.keep e1 (fun _ _ h => h)) (Blk.new vw _ _) (by omega)
  refine ⟨s', w', hrun, k s' w' ((H.keep e1).other hext fun j hj => ⟨(ho j hj).1, by simpa using (ho j hj).2⟩) hrow fun j hj => ?_⟩
  rcases hown j hj with e | e
  · exact ho j e
  · have h1 := H.lt 0 rfl
    have h2 := e1.size
    have h3 := H.size
    exact ⟨by omega, by omega⟩
theorem copy_succ (out : List UInt8) (f j : Nat) : copy out f (j + 1) = copy out f j ++ [(copy out f j).getD (out.length + j - f) 0] := by
  show copy out f j ++ [(copy out f j).getD ((copy out f j).length - f) 0] = _
  rw [copy_len]
variable {s2 : Slc × Int} {vw3 : World} {I4 : (Slc × Int) → World → Prop} {b : Int} {n f : Nat}
theorem l13 (H : Hn w vw [(vw3.heap.size, prow (b, (n : Int), (f : Int)), 40)]) (hr : BRow vw s2.1 out) (ho : ∀ j, s2.1.own j → w.heap.size ≤ j ∧ j ≠ vw3.heap.size) (hf1 : 1 ≤ f) (hf : f ≤ out.length) (hl : out.length + n ≤ 1048576)
    (k : ∀ s' w', Hn w w' [(vw3.heap.size, prow (b, (n : Int), (f : Int)), 40)] → BRow w' s' (copy out f n) → (∀ j, s'.own j → w.heap.size ≤ j ∧ j ≠ vw3.heap.size) → I4 (s', IntKind.i64.wrap (s2.2 + 1)) w') :
    Lp (σ := Slc × Int) (S19L2 s2 vw3 I4 (n : Int)) (s2.1, 0) vw := by
  refine ⟨fun m st w9 => ∃ j : Nat, st.2 = (j : Int) ∧ j ≤ n ∧ m = n - j ∧ Hn w w9 [(vw3.heap.size, prow (b, (n : Int), (f : Int)), 40)] ∧ BRow w9 st.1 (copy out f j) ∧ ∀ i, st.1.own i → w.heap.size ≤ i ∧ i ≠ vw3.heap.size, n, ⟨0, rfl, by omega, rfl, H, hr, ho⟩, ?_⟩
  rintro m ⟨sl, j'⟩ w9 ⟨j, hj', hj, rfl, H, hr9, ho9⟩
  simp only at hj' hr9 ho9
  subst hj'
  unfold S19L2 prow at *
  dsimp only
  have hcl := copy_len out f j
  rw [hr9.len, hcl]
  refine Br.dec (fun q => ?_) fun q => ?_
  · iterate 1 refine H.ld 0 rfl rfl ?_
    rw [i64_id (n := ((out.length + j : Nat) : Int) - (f : Int)) (by omega), show ((out.length + j : Nat) : Int) - (f : Int) = ((out.length + j - f : Nat) : Int) by omega]
    have hlt : out.length + j - f < (copy out f j).length := by omega
    obtain ⟨g, hg, hc⟩ := hr9.get (getD_some hlt)
    rw [hg]
    refine ⟨by omega, by omega, Nn.of ?_⟩
    simp only [add_lit, Int.toNat_natCast, Nat.mul_one, Nat.zero_add]
    refine Ld.mk (x := (((copy out f j).getD (out.length + j - f) 0).toNat : Int)) hc ?_
    refine push1 H hr9 ho9 (by omega) _ rfl fun s' w' H hr' ho' => ?_
    refine ⟨n - (j + 1), by omega, j + 1, by rw [i64_id (by omega)]; rfl, by omega, rfl, H, ?_, ho'⟩
    rw [copy_succ]
    exact hr'
  · have : j = n := by omega
    subst this
    exact k _ _ H hr9 ho9
end
theorem c_may (q : Qr) (w : World) : C34 (q.1, q.2.1, q.2.2) w fun r w1 => r = decide (okQ q) ∧ Ext (fun _ => False) w w1 := by
  refine T34 (q.1, q.2.1, q.2.2) _ _ ?_
  unfold S34
  refine (Hn.start w).nw fun w2 H => ?_
  simp only [List.nil_append] at H
  iterate 1 refine H.ld 0 rfl rfl ?_
  refine Br.eq (fun h1 => ?_) fun h1 => ?_
  · iterate 1 refine H.ld 0 rfl rfl ?_
    refine ⟨?_, H.ext⟩
    by_cases h2 : q.2.2 = 0
    · rw [decide_eq_true (show okQ q from .inl ⟨h1, h2⟩)]; simp [h2]
    · rw [decide_eq_false (fun h : okQ q => by rcases h with h | h <;> omega)]; simp [h2]
  · iterate 1 refine H.ld 0 rfl rfl ?_
    refine Br.eq (fun h2 => ?_) fun h2 => ⟨(decide_eq_false (fun h : okQ q => by rcases h with h | h <;> omega)).symm, H.ext⟩
    iterate 1 refine H.ld 0 rfl rfl ?_
    refine Br.dec (fun h3 => ?_) fun h3 => ⟨(decide_eq_false (fun h : okQ q => by rcases h with h | h <;> omega)).symm, H.ext⟩
    iterate 1 refine H.ld 0 rfl rfl ?_
    refine Br.dec (fun h4 => ?_) fun h4 => ⟨(decide_eq_false (fun h : okQ q => by rcases h with h | h <;> omega)).symm, H.ext⟩
    iterate 1 refine H.ld 0 rfl rfl ?_
    refine Br.dec (fun h5 => ?_) fun h5 => ⟨(decide_eq_false (fun h : okQ q => by rcases h with h | h <;> omega)).symm, H.ext⟩
    iterate 1 refine H.ld 0 rfl rfl ?_
    refine ⟨?_, H.ext⟩
    by_cases h6 : q.2.2 ≤ 32768
    · rw [decide_eq_true (show okQ q from .inr ⟨h2, h3, h4, h5, h6⟩)]; simp [h6]
    · rw [decide_eq_false (fun h : okQ q => by rcases h with h | h <;> omega)]; simp [h6]
/-- The loop over the parts. -/
def UInv (w : World) (L : List Qr) (m : Nat) (st : Slc × Int) (w3 : World) : Prop :=
  ∃ (i : Nat) (out : List UInt8), st.2 = (i : Int) ∧ i ≤ L.length ∧ m = L.length - i ∧ BRow w3 st.1 out ∧ out.length ≤ 1048576 ∧ unQ (L.drop i) out = unQ L [] ∧ Ext (fun _ => False) w w3 ∧ ∀ j, st.1.own j → w.heap.size ≤ j
theorem unq_er {L : List Qr} {e : Int} (h : .error e = unQ L []) : ((⟨#[]⟩ : ByteArray), e) = unR L := by
  unfold unR; rw [← h]
theorem max1 (x : Int) : (if 1 > x then 1 else x) = max x 1 := by split <;> omega
theorem unQ_cons (q : Qr) (r : List Qr) (out : List UInt8) : unQ (q :: r) out = if ¬ okQ q then .error 1 else if (out.length : Int) < q.2.2 then .error 14 else if 1048576 < (out.length : Int) + max q.2.1 1 then .error 5 else unQ r (addP out (toP q)) := rfl
theorem drop_at {L : List Qr} {i : Nat} (h : i < L.length) : ∃ o, L[i]? = some o ∧ o ∈ L ∧ L.drop i = o :: L.drop (i + 1) :=
  ⟨L[i], List.getElem?_eq_getElem h, List.getElem_mem h, List.drop_eq_getElem_cons h⟩
theorem UInv.next {w w3 : World} {L : List Qr} {i : Nat} {o : Qr} {out : List UInt8} {sl : Slc} {B : Nat} {t : TypeId} {cs : List Value} (hi : i < L.length) (hL : L.length ≤ 4611686018427387904) (hr : BRow w3 sl (addP out (toP o))) (hl : (out.length : Int) + max o.2.1 1 ≤ 1048576)
    (hun : unQ (L.drop (i + 1)) (addP out (toP o)) = unQ L []) (H : Hn w w3 [(B, cs, t)]) (ho : ∀ j, sl.own j → w.heap.size ≤ j ∧ j ≠ B) : ∃ m, m < L.length - i ∧ UInv w L m (sl, IntKind.i64.wrap ((i : Int) + 1)) w3 := by
  refine ⟨L.length - (i + 1), by omega, i + 1, _, by rw [i64_id (by omega)]; rfl, by omega, rfl, hr, ?_, hun, H.ext, fun j hj => (ho j hj).1⟩
  rw [addP_len]
  have : ((toP o).n : Int) = o.2.1.toNat := rfl
  omega
theorem c_Unparts {L : List Qr} {s : Slc} {w : World} (h : PV w s L) (hw : ∀ q ∈ L, 0 ≤ q.1 ∧ q.1 ≤ 255) (hL : L.length ≤ 4611686018427387904) : C19 s w fun r e w1 => (r, e) = unR L ∧ Ext (fun _ => False) w w1 := by
  refine T19 _ _ _ ?_
  unfold S19
  refine ⟨UInv w L, L.length, ⟨0, [], rfl, by omega, rfl, BRow.nil w, by simp, rfl, Ext.refl _ _, fun j hj => by obtain ⟨a, ha, _⟩ := hj; cases ha⟩, ?_⟩
  rintro m ⟨sl, i'⟩ w3 ⟨i, out, hi', hi, rfl, hr, hlen, hun, he, ho⟩
  simp only at hi' hr ho
  subst hi'
  unfold S19L3
  dsimp only
  rw [h.1]
  refine Br.dec (fun q => ?_) fun q => ?_
  · have hil : i < L.length := by omega
    obtain ⟨⟨b, n, f⟩, hio, hmem, hdrop⟩ := drop_at hil
    rw [hdrop, unQ_cons] at hun
    obtain ⟨a, ha, c0, c1, c2⟩ := (h.keep he).get hio
    have hob := hw _ hmem
    rw [ha]
    refine ⟨by omega, by omega, Nn.of ?_⟩
    rw [Int.toNat_natCast]
    refine Ld.mk (x := b) c0 (Ld.mk (x := n) c1 (Ld.mk (x := f) c2 ?_))
    have hne : ∀ j, sl.own j → w.heap.size ≤ j ∧ j ≠ w3.heap.size := fun j hj => ⟨ho j hj, by have := hr.own_lt hj; omega⟩
    refine (Hn.start w3).nw fun w9 H => ?_
    simp only [List.nil_append] at H
    iterate 3 (refine H.st 0 rfl (by simp) fun _ H => ?_; simp only [List.nil_append, List.cons_append, List.set_cons_zero, List.set_cons_succ, Nat.zero_add] at H)
    rename_i w12
    have hr := hr.keep H.ext (fun _ _ h => h)
    have H := Hn.base H he
    clear he
    have hb : b = ((UInt8.ofNat b.toNat).toNat : Int) := by
      rw [UInt8.toNat_ofNat', Nat.mod_eq_of_lt (by omega)]
      omega
    iterate 3 refine H.ld 0 rfl rfl ?_
    refine (c_may (b, n, f) w12).mono ?_
    rintro r w25 ⟨rfl, he2⟩
    have H := H.keep he2
    have hr := hr.keep he2 (fun _ _ h => h)
    by_cases hok : okQ (b, n, f)
    · refine Br.f (by rw [decide_eq_true hok]; rfl) ?_
      rw [if_neg (fun h => h hok)] at hun
      dsimp only at hun ⊢
      rw [hr.len]
      iterate 1 refine H.ld 0 rfl rfl ?_
      refine Br.dec (fun h1 => ?_) fun h1 => ?_
      · rw [if_pos (by omega)] at hun
        exact ⟨unq_er hun, H.ext⟩
      rw [if_neg (by omega)] at hun
      have hok' := hok
      unfold okQ at hok'
      dsimp only at hok'
      iterate 1 refine H.ld 0 rfl rfl ?_
      rw [max1, i64_id (by omega)]
      refine Lt.of ?_
      refine Br.dec (fun h2 => ?_) fun h2 => ?_
      · rw [if_pos (by omega)] at hun
        exact ⟨unq_er hun, H.ext⟩
      rw [if_neg (by omega)] at hun
      iterate 1 refine H.ld 0 rfl rfl ?_
      refine Br.eq (fun h3 => ?_) fun h3 => ?_
      · subst h3
        iterate 1 refine H.ld 0 rfl rfl ?_
        refine push1 H hr hne (by omega) _ hb fun s' w' H hr' ho' => ?_
        iterate 1 refine H.ld 0 rfl rfl ?_
        refine ⟨fun m st w9 => st = (s', 0) ∧ w9 = w', 0, ⟨rfl, rfl⟩, ?_⟩
        rintro m _ _ ⟨rfl, rfl⟩
        unfold S19L1
        dsimp only
        refine Br.dec (fun h4 => absurd h4 (by decide)) fun h4 => ?_
        exact UInv.next (o := (b, 0, f)) hil hL hr' (by show (out.length : Int) + max 0 1 ≤ _; omega) hun H ho'
      · obtain ⟨n', rfl⟩ : ∃ n' : Nat, n = (n' : Int) := ⟨n.toNat, by omega⟩
        obtain ⟨f', rfl⟩ : ∃ f' : Nat, f = (f' : Int) := ⟨f.toNat, by omega⟩
        iterate 1 refine H.ld 0 rfl rfl ?_
        refine l13 H hr hne (by omega) (by omega) (by omega) fun s' w' H hr' ho' => ?_
        refine UInv.next (o := (b, (n' : Int), (f' : Int))) hil hL ?_ (by show (out.length : Int) + max (n' : Int) 1 ≤ _; omega) hun H ho'
        have e : addP out (toP (b, (n' : Int), (f' : Int))) = copy out f' n' := by
          unfold addP toP
          dsimp only
          rw [Int.toNat_natCast, Int.toNat_natCast, if_neg (by omega)]
        rw [e]
        exact hr'
    · refine Br.t (by rw [decide_eq_false hok]; rfl) ?_
      rw [if_pos hok] at hun
      exact ⟨unq_er hun, H.ext⟩
  · have : i = L.length := by omega
    subst this
    rw [List.drop_length] at hun
    refine ⟨_, _, str_row hr, ?_, he⟩
    unfold unR
    rw [← hun]
    rfl
end Inf
end Go.Proofs.YtjkoafjnmkchdaaDoor

/- What the writers of package bit and of its reference do, call by call. Conditions: the writer is not nil, it holds at most 2^39 bytes. -/
namespace Go.Proofs.YtjkoafjnmkchdaaDoor
namespace Bit
open Sh
set_option linter.unusedVariables false

/-- The blocks of a writer. -/
def fp (b : Nat) (s : Slc) : Nat → Prop := fun j => j = b ∨ s.own j
/-- What a call may have done to the blocks of a writer. -/
structure Wn (w w' : World) (b : Nat) (s s' : Slc) : Prop where
  ext : Ext (fp b s) w w'
  new : ∀ j, s'.own j → s.own j ∨ w.heap.size ≤ j
theorem Wn.refl (w : World) (b : Nat) (s : Slc) : Wn w w b s s := ⟨Ext.refl _ _, fun _ h => .inl h⟩
theorem Wn.trans {w w1 w2 : World} {b : Nat} {s s1 s2 : Slc} (h : Wn w w1 b s s1) (k : Wn w1 w2 b s1 s2) : Wn w w2 b s s2 :=
  ⟨h.ext.trans k.ext (fun _ h => h) fun i hi hg => hg.elim .inl fun hg => (h.new i hg).elim .inr fun h2 => by omega,
    fun j hj => (k.new j hj).elim (h.new j) fun h2 => .inr (Nat.le_trans h.ext.size h2)⟩
theorem Wn.to {w w1 w2 : World} {b : Nat} {s s1 : Slc} (h : Wn w w1 b s s1) (k : Ext (· = b) w1 w2) : Wn w w2 b s s1 :=
  ⟨h.ext.trans k (fun _ h => h) fun i hi hg => .inl hg, h.new⟩
theorem Wn.to' {w w1 w2 : World} {b : Nat} {s s1 : Slc} (h : Wn w w1 b s s1) (k : Ext (fun _ => False) w1 w2) : Wn w w2 b s s1 :=
  ⟨h.ext.trans k (fun _ h => h) fun i hi hg => hg.elim, h.new⟩

/-- A writer of package bit: its bytes, how many bits of the last are used, the order. -/
structure WrB (w : World) (b : Nat) (s : Slc) (way : Int) (st : List UInt8 × Nat) : Prop where
  blk : Blk w b #[.int .i64 way, .int .i64 ((st.2 : Nat) : Int), Slc.v s] 96
  row : BRow w s st.1
  own : ¬ s.own b
abbrev at1 (b : Nat) : Option Addr := some ⟨b, 0, none⟩

section
variable {w w2 : World} {b : Nat} {s : Slc} {way : Int} {st : List UInt8 × Nat}
theorem WrB.keep {G : Nat → Prop} (h : WrB w b s way st) (he : Ext G w w2) (hn : ∀ j, fp b s j → ¬ G j) : WrB w2 b s way st :=
  ⟨he.blk h.blk (hn b (.inl rfl)), h.row.keep he fun j hj => hn j (.inr hj), h.own⟩
theorem WrB.lt (h : WrB w b s way st) : ∀ j, fp b s j → j < w.heap.size := fun j hj => hj.elim (fun e => e ▸ h.blk.lt) h.row.own_lt
theorem p_place {cs : Array Value} {t : TypeId} {u : Nat} (h : Blk w b cs t) (hu : cs[1]? = some (.int .i64 ((u : Nat) : Int))) (hlt : u < 8) (w' : Int) :
    C87 (at1 b) w' w fun x w1 => x = ((pl w' u : Nat) : Int) ∧ w1 = w := by
  refine T87 _ _ _ _ ?_
  unfold S87
  unfold pl
  by_cases hw : w' = 1
  · simp only [hw, beq_self_eq_true, Br_true]
    exact Nn.of (Ld.of h hu ⟨rfl, trivial⟩)
  · simp only [hw, if_false, beq_eq_false_iff_ne.2 hw, Br_false]
    exact Nn.of (Ld.of h hu ⟨by rw [i64_id (by omega)]; omega, trivial⟩)
theorem p_other {cs : Array Value} {t : TypeId} (h : Blk w b cs t) (hu : cs[0]? = some (.int .i64 way)) (w' : Int) :
    C77 (at1 b) w' w fun x w1 => x = (way != 0 && way != w') ∧ w1 = w := by
  refine T77 _ _ _ _ ?_
  unfold S77
  refine Nn.of (Ld.of h hu (Br_of (fun e => ?_) fun e => ?_))
  · exact Nn.of (Ld.of h hu ⟨by simp [e], rfl⟩)
  · exact ⟨by simp [e], rfl⟩

theorem c_new (w : World) : C35 w fun r w1 => r = at1 w.heap.size ∧ WrB w1 w.heap.size ⟨none, 0, 0⟩ 0 ([], 0) ∧ Ext (fun _ => False) w w1 := by
  refine T35 _ _ ?_
  unfold S35
  refine (Hx.start w (fun _ => False)).nw fun w2 H => ⟨rfl, ⟨H.get 0 rfl, BRow.nil _, ?_⟩, H.ext⟩
  rintro ⟨a, ha, _⟩
  cases ha

theorem last_get {l : List UInt8} (h : l ≠ []) : ∃ x, l[l.length - 1]? = some x ∧ x.toNat = lastN l := by
  have : 0 < l.length := List.length_pos_iff.2 h
  refine ⟨l[l.length - 1], List.getElem?_eq_getElem (by omega), ?_⟩
  unfold lastN
  simp [List.getD, List.getElem?_eq_getElem (show l.length - 1 < l.length by omega)]
theorem newByte {way : Int} (h : WOK way st) {x : Nat} (hx : x ≤ 1) :
    ior .u8 ((lastN (grow st) : Nat) : Int) (IntKind.u8.wrap (IntKind.i64.wrap ((x : Int) * 2 ^ min (((pl way st.2 : Nat) : Int)).toNat 64))) =
      (((UInt8.ofNat (lastN (grow st) + x * 2 ^ pl way st.2)).toNat : Nat) : Int) := by
  obtain ⟨h1, h2, h3⟩ := place_new h hx
  have hlt := h.lt
  have hp : pl way st.2 ≤ 7 := by unfold pl; split <;> omega
  have e : ((x : Int) * 2 ^ min (((pl way st.2 : Nat) : Int)).toNat 64) = ((x * 2 ^ pl way st.2 : Nat) : Int) := by
    rw [Int.toNat_natCast, Nat.min_eq_left (by omega)]
    simp
  rw [e, i64_id (by omega), u8_id (by omega), ior_u8_nat (lastN_lt _) h3, h2, UInt8.toNat_ofNat_of_lt' h1]

theorem c_wone (h : WrB w b s way st) {w' : Int} (hok : WOK w' st) (hsz : st.1.length ≤ 549755813888) {x : Nat} (hx : x ≤ 1) :
    C78 (at1 b) (x : Int) w' w fun w1 => ∃ s', WrB w1 b s' way (oneS w' st x) ∧ Wn w w1 b s s' := by
  refine T78 _ _ _ _ _ ?_
  unfold S78
  obtain ⟨hb, hr, ho⟩ := h
  have hlt := hok.lt
  have H0 : Hx w (fp b s) w _ := Hx.one hb
  refine Nn.of (H0.ld 0 rfl rfl (Br_of (fun e => ?a) fun e => ?b))
  case' a =>
    have e0 : st.2 = 0 := by simpa using e
    refine Nn.of (H0.ld 0 rfl rfl (H0.nw' fun w2 H he => ?_))
    have hr1 := hr.keep he fun _ _ h => h
    obtain ⟨s1, w3, hrun, hrow, hext, hnew⟩ := app_one (ty := 32) (b := 0) hr1 (H.get 1 rfl) (by omega)
    refine ⟨s1, w3, hrun, Nn.of ?_⟩
    have hsub : ∀ j, s.own j → j ∉ [b, w.heap.size] := fun j hj hm => by
      rcases List.mem_cons.1 hm with h | h
      · exact ho (h ▸ hj)
      · have := hr.own_lt hj
        have : j = w.heap.size := by simpa using h
        omega
    have H := H.other hext (fun j hj => hsub j hj) fun j hj => .inl (.inr hj)
    have hf1 : ∀ j, s1.own j → s.own j ∨ w.heap.size ≤ j := fun j hj => (hnew j hj).imp id fun h => Nat.le_trans he.size h
    have ho1 : ¬ s1.own b := fun hj => (hf1 b hj).elim ho fun h => by have := hb.lt; omega
    refine H.st' 0 rfl (by simp) (.inl (.inl rfl)) fun w4 H he4 => ?_
    have hrow := hrow.keep he4 fun j hj e => ho1 (by have e : j = b := e; rw [← e]; exact hj)
    have H := H.only 0 rfl
    have hg : st.1 ++ [0] = grow st := by unfold grow; rw [if_pos e0]
    rw [hg] at hrow
  case' b =>
    have e0 : ¬ st.2 = 0 := by
      have : ¬ ((st.2 : Nat) : Int) = 0 := by simpa using e
      omega
    have hrow : BRow w s (grow st) := by unfold grow; rw [if_neg e0]; exact hr
    have H := H0
    have hf1 : ∀ j, s.own j → s.own j ∨ w.heap.size ≤ j := fun j hj => .inl hj
    have ho1 := ho
  all_goals
    have HD := H.drew
    have hrow := hrow.keep (Ext.refl (fun _ => False) _).drew fun _ _ h => h
    have hlen := hrow.len
    have hgn := grow_ne hok
    have hpos : 0 < (grow st).length := List.length_pos_iff.2 hgn
    have hgl := grow_len st
    obtain ⟨y, hy, hyN⟩ := last_get hgn
    obtain ⟨g, hp, hc⟩ := hrow.get hy
    obtain ⟨g', hp', hcan, hset, he5⟩ := hrow.set (show (grow st).length - 1 < (grow st).length by omega) (UInt8.ofNat (lastN (grow st) + x * 2 ^ pl w' st.2))
    have : g' = g := by rw [hp] at hp'; cases hp'; rfl
    subst this
    refine ⟨fun w3 => w3 = _, rfl, Nn.of (LdS.of (fun w3 e => e ▸ HD.get 0 rfl) rfl (Nn.of (LdS.of (fun w3 e => e ▸ HD.get 0 rfl) rfl ?_)))⟩
    rw [hlen, i64_id (by omega), show ((((grow st).length : Nat) : Int) - 1).toNat * 1 = (grow st).length - 1 by omega, hp]
    refine ⟨by omega, by omega, Nn.of ⟨((lastN (grow st) : Nat) : Int), fun w3 e => by rw [e, add_lit, Nat.zero_add, hc, hyN], Nn.of ((p_place (HD.get 0 rfl) rfl hlt w').mono ?_)⟩⟩
    rintro r w3 ⟨rfl, rfl⟩
    refine ⟨rfl, by omega, by omega, by omega, Nn.of ⟨by rw [add_lit, Nat.zero_add]; exact hcan, Nn.of ?_⟩⟩
    rw [add_lit, Nat.zero_add, newByte hok hx]
    have hgne : g' ≠ b := fun e => ho1 ⟨_, hp, e⟩
    have hgb : ∀ j, j = g' → j ∉ [b] := fun j hj hm => hgne (by rw [← hj]; simpa using hm)
    have H5 := HD.other he5 hgb fun j hj => by rw [hj]; exact (hf1 g' ⟨_, hp, rfl⟩).imp .inr id
    refine H5.ld 0 rfl rfl (Nn.of (H5.st' 0 rfl (by simp) (.inl (.inl rfl)) fun w6 H6 he6 => ?_))
    refine ⟨_, ⟨?_, hset.keep he6 fun j hj e => ho1 (by have e : j = b := e; rw [← e]; exact hj), ho1⟩, H6.ext, hf1⟩
    have := H6.get 0 rfl
    rw [i64_id (by omega), tmod_id (by omega)] at this
    exact this

theorem c_put (h : WrB w b s way st) (hi : WInv way st) (hsz : st.1.length ≤ 274877906944) (v n : Int) {w' : Int} (hw' : w' = 1 ∨ w' = 2) :
    C55 (at1 b) v n w' w fun e w1 => e = (putR way st v n w').1 ∧ ∃ s', WrB w1 b s' (putR way st v n w').2.2 (putR way st v n w').2.1 ∧ Wn w w1 b s s' := by
  refine T55 _ _ _ _ _ _ ?_
  unfold S55
  have no : (n < 0 ∨ 24 < n ∨ v < 0 ∨ 2 ^ n.toNat ≤ v ∨ (way ≠ 0 ∧ way ≠ w')) → (1 : Int) = (putR way st v n w').1 ∧ ∃ s', WrB w b s' (putR way st v n w').2.2 (putR way st v n w').2.1 ∧ Wn w w b s s' := fun hc => by
    rw [putR_arg hc]; exact ⟨rfl, s, h, Wn.refl _ _ _⟩
  refine Br_of (fun e => ?_) fun _ => Br_of (fun e => ?_) fun e1 => Br_of (fun e => ?_) fun e2 => Br_of (fun e => ?_) fun e3 => ⟨by simpa using e1, Br_of (fun e => ?_) fun e4 => ?_⟩
  · cases e
  · exact no (.inl (by simpa using e))
  · exact no (.inr (.inl (by simpa using e)))
  · exact no (.inr (.inr (.inl (by simpa using e))))
  all_goals
    have h0 : ¬ n < 0 := by simpa using e1
    have h24 : n ≤ 24 := by simpa using e2
    have hv0 : ¬ v < 0 := by simpa using e3
    obtain ⟨m, rfl⟩ := Int.eq_ofNat_of_zero_le (show 0 ≤ n by omega)
    obtain ⟨u, rfl⟩ := Int.eq_ofNat_of_zero_le (show 0 ≤ v by omega)
    have hp24 := two_pow_24 (show m ≤ 24 by omega)
    have hpp := two_pow_pos m
    have hwr : IntKind.i64.wrap (1 * 2 ^ min ((m : Int)).toNat 64) = 2 ^ m := by
      rw [Int.toNat_natCast, Nat.min_eq_left (by omega), Int.one_mul, i64_id (by omega)]
  · have e : (2 : Int) ^ m ≤ (u : Int) := by rw [hwr] at e; simpa using e
    exact no (.inr (.inr (.inr (.inl (by rw [Int.toNat_natCast]; exact e)))))
  have hlt : (u : Int) < 2 ^ m := by rw [hwr] at e4; simpa using e4
  refine Nn.of ((p_other h.blk rfl w').mono ?_)
  rintro x w1 ⟨rfl, rfl⟩
  refine Br_of (fun e => ?_) fun e5 => ?_
  · exact no (.inr (.inr (.inr (.inr (by simpa using e)))))
  have hno : ¬ (way ≠ 0 ∧ way ≠ w') := by simpa using e5
  have hall : ¬ ((m : Int) < 0 ∨ 24 < (m : Int) ∨ (u : Int) < 0 ∨ 2 ^ ((m : Int)).toNat ≤ (u : Int) ∨ (way ≠ 0 ∧ way ≠ w')) := by
    rw [Int.toNat_natCast]; omega
  have hok := hi.to hno
  rw [putR_ok hall, Int.toNat_natCast, Int.toNat_natCast]
  have hu24 : u < 16777216 := by omega
  refine ⟨fun k i w3 => ∃ j : Nat, j ≤ m ∧ k = m - j ∧ i = (j : Int) ∧ ∃ s', WrB w3 b s' way (putS w' u m st j) ∧ Wn w1 w3 b s s', m, ⟨0, by omega, by omega, rfl, s, h, Wn.refl _ _ _⟩, ?_⟩
  rintro k i w3 ⟨j, hj, rfl, rfl, s', hb, hn⟩
  unfold S55L1
  have hokj := hok.put u m j
  have hlen := putS_len w' u m st j
  refine Br_of (fun e => ?_) fun e => ?_
  · have hjm : j < m := by simpa using e
    have key : ∀ x : Int, x = ((vbit w' u m j : Nat) : Int) → C78 (at1 b) x w' w3 fun w4 => ∃ n', n' < m - j ∧ ∃ j' : Nat, j' ≤ m ∧ n' = m - j' ∧ IntKind.i64.wrap ((j : Int) + 1) = (j' : Int) ∧ ∃ s', WrB w4 b s' way (putS w' u m st j') ∧ Wn w1 w4 b s s' := fun x hx => by
      rw [hx]
      refine (c_wone hb hokj (by omega) (vbit_le _ _ _ _)).mono ?_
      rintro w4 ⟨s2, hb2, hn2⟩
      exact ⟨m - (j + 1), by omega, j + 1, by omega, rfl, by rw [i64_id (by omega)]; rfl, s2, hb2, hn.trans hn2⟩
    rcases hw' with rfl | rfl
    · simp only [show ((1 : Int) == 2) = false by rfl, Br_false]
      refine ⟨by omega, key _ ?_⟩
      rw [Int.toNat_natCast, Nat.min_eq_left (by omega), vbit_low u j hu24]
      simp [vbit]
    · simp only [beq_self_eq_true, Br_true]
      rw [i64_id (n := (m : Int) - 1) (by omega), i64_id (by omega)]
      refine ⟨by omega, key _ ?_⟩
      rw [show ((m : Int) - 1 - (j : Int)).toNat = m - 1 - j by omega, Nat.min_eq_left (by omega), vbit_low u _ hu24]
      simp [vbit]
  · have hge : j = m := by
      have : ¬ (j : Int) < m := by simpa using e
      omega
    subst hge
    refine Br_of (fun e => ?_) fun e => ?_
    · have hpos : (0 : Int) < j := by simpa using e
      rw [if_pos hpos]
      refine Nn.of ((Hx.one (F := (· = b)) hb.blk).st' 0 rfl (by simp) (.inl rfl) fun w5 H he => ⟨rfl, s', ⟨H.get 0 rfl, hb.row.keep he fun i hi e => hb.own (by have e : i = b := e; rw [← e]; exact hi), hb.own⟩, hn.to he⟩)
    · have hz : ¬ (0 : Int) < j := by simpa using e
      rw [if_neg hz]
      exact ⟨rfl, s', hb, hn⟩
theorem c_wlow (h : WrB w b s way st) (hi : WInv way st) (hsz : st.1.length ≤ 274877906944) (v n : Int) :
    C36 (at1 b) v n w fun e w1 => e = (putR way st v n 1).1 ∧ ∃ s', WrB w1 b s' (putR way st v n 1).2.2 (putR way st v n 1).2.1 ∧ Wn w w1 b s s' :=
  T36 _ _ _ _ _ (c_put h hi hsz v n (.inl rfl))
theorem c_walign (h : WrB w b s way st) : C37 (at1 b) w fun w1 => WrB w1 b s 0 (st.1, 0) ∧ Ext (· = b) w w1 := by
  refine T37 _ _ _ ?_
  unfold S37
  refine Br_of (fun _ => ?_) fun e => by cases e
  refine Nn.of ((Hx.one (F := (· = b)) h.blk).st 0 rfl (by simp) (.inl rfl) fun w2 H => H.st 0 rfl (by simp) (.inl rfl) fun w3 H => ?_)
  exact ⟨⟨H.get 0 rfl, h.row.keep H.ext fun i hi e => h.own (by have e : i = b := e; rw [← e]; exact hi), h.own⟩, H.ext⟩
theorem c_wraw (h : WrB w b s way st) (t : ByteArray) (hsz : st.1.length ≤ 274877906944) (ht : t.size ≤ 274877906944) :
    C38 (at1 b) t w fun w1 => ∃ s', WrB w1 b s' (rawWay way st) (rawS st t) ∧ Wn w w1 b s s' := by
  refine T38 _ _ _ _ ?_
  unfold S38
  have fin : ∀ (w2 : World) (way' : Int), WrB w2 b s way' (st.1, 0) → Ext (· = b) w w2 → ∃ x w3, RunV Tryd.prog (Builtin.append_ #[32, 9] 32 #[Slc.v s, .string t]) w2 (Slc.v x) w3 ∧
      Nn (at1 b) fun a => St w3 (a.add 2) (Slc.v x) fun w4 => ∃ s', WrB w4 b s' way' (rawS st t) ∧ Wn w w4 b s s' := fun w2 way' h2 he => by
    obtain ⟨s1, w3, hrun, hrow, hext, hnew⟩ := app_str (ty := 32) h2.row t (by show st.1.length + _ ≤ _; omega)
    have ho1 : ¬ s1.own b := fun hj => (hnew b hj).elim h2.own fun hh => by have := h2.blk.lt; omega
    have hoth : ∀ j, s.own j → j ∉ [b] := fun j hj hm => h2.own ((show j = b by simpa using hm) ▸ hj)
    have H := (Hx.one (F := fp b s) h2.blk).other hext hoth fun j hj => .inl (.inr hj)
    refine ⟨s1, w3, hrun, Nn.of (H.st' 0 rfl (by simp) (.inl (.inl rfl)) fun w4 H he4 => ⟨s1, ⟨H.get 0 rfl, hrow.keep he4 fun j hj e => ho1 (by have e : j = b := e; rw [← e]; exact hj), ho1⟩, ?_, ?_⟩)⟩
    · exact he.trans H.ext (fun _ h => .inl h) fun _ _ h => h
    · exact fun j hj => (hnew j hj).imp id fun hh => Nat.le_trans he.size hh
  refine Br_of (fun e => ?_) fun _ => Nn.of ((Hx.one (F := (· = b)) h.blk).ld 0 rfl rfl (Br_of (fun e => ?_) fun e => ?_))
  · cases e
  · have e : (0 : Int) < ((st.2 : Nat) : Int) := by simpa using e
    have e : ¬ st.2 = 0 := by omega
    refine (c_walign h).mono ?_
    rintro w2 ⟨h2, he⟩
    unfold rawWay
    rw [if_neg e]
    exact Nn.of (Ld.of h2.blk rfl (fin w2 0 h2 he))
  · have e : ¬ (0 : Int) < ((st.2 : Nat) : Int) := by simpa using e
    have e : st.2 = 0 := by omega
    unfold rawWay
    rw [if_pos e]
    refine Nn.of (Ld.of h.blk rfl (fin w way ?_ (Ext.refl _ _)))
    obtain ⟨l, u⟩ := st
    simp only at e
    subst e
    exact h
theorem c_clone {l : List UInt8} (h : BRow w s l) (hsz : l.length ≤ 549755813888) : C56 s w fun s' w1 => BRow w1 s' l ∧ Ext (fun _ => False) w w1 := by
  refine T56 _ _ _ ?_
  unfold S56
  refine Br_of (fun e => ?_) fun e => (Hx.start w (fun _ => False)).nw' fun w2 H he => ?_
  · have : l = [] := by
      rcases h.2 with rfl | ⟨g, cur, hp, _⟩
      · exact List.eq_nil_of_length_eq_zero (by have := h.len; simpa using this.symm)
      · rw [hp] at e; cases e
    rw [this]
    exact ⟨BRow.nil _, Ext.refl _ _⟩
  · have hr : BRow w2 ⟨some ⟨w.heap.size, 0, none⟩, 0, 0⟩ [] := ⟨rfl, .inr ⟨_, #[], rfl, H.get 0 rfl, Nat.le_refl _, rfl, rfl⟩⟩
    obtain ⟨s1, w3, hrun, hrow, hext, hnew⟩ := app_row (ty := 32) hr (h.keep he fun _ _ h => h) (by simp; omega)
    refine ⟨s1, w3, hrun, hrow, he.trans hext (fun _ h => h) fun i hi ⟨a, ha, hb⟩ => ?_⟩
    cases ha
    have : w.heap.size = i := hb
    omega
theorem c_wtext (h : WrB w b s way st) (hsz : st.1.length ≤ 549755813888) : C39 (at1 b) w fun x w1 => x = ⟨st.1.toArray⟩ ∧ Ext (fun _ => False) w w1 := by
  refine T39 _ _ _ ?_
  unfold S39
  refine Br_of (fun e => ?_) fun _ => Nn.of (Ld.of h.blk rfl ((c_clone h.row hsz).mono ?_))
  · cases e
  rintro s' w1 ⟨hr, he⟩
  exact ⟨_, w1, str_row hr, rfl, he⟩
end
end Bit
end Go.Proofs.YtjkoafjnmkchdaaDoor

/- Deflate: stored blocks, both sides. Conditions: sizes. -/
namespace Go.Proofs.YtjkoafjnmkchdaaDoor
namespace Inf
open Sh Bit
set_option linter.unusedVariables false
set_option linter.unusedSimpArgs false
set_option maxRecDepth 4000
set_option maxHeartbeats 1000000
attribute [local irreducible] Ld St Nw Nn Lt LdS
theorem addLast_push (l : List UInt8) (x : UInt8) (v : Nat) : addLast (l ++ [x]) v = l ++ [UInt8.ofNat (x.toNat + v)] := by
  have h : lastN (l ++ [x]) = x.toNat := by unfold lastN; simp
  unfold addLast
  rw [h, List.length_append]
  simp
theorem vbit1 (v n i : Nat) : vbit 1 v n i = v / 2 ^ i % 2 := by unfold vbit; rw [if_pos rfl]
/-- A byte is written, bit by bit. -/
theorem byte_at {v n m : Nat} {st : WS} {l : List UInt8} (h : putS 1 v n st m = (l, 0)) : ∀ i, i < 8 → putS 1 v n st (m + (i + 1)) = (l ++ [UInt8.ofNat (v / 2 ^ m % 2 ^ (i + 1))], (i + 1) % 8)
  | 0, _ => by
    show oneS 1 (putS 1 v n st m) (vbit 1 v n m) = _
    rw [h, vbit1]
    unfold oneS grow pl
    rw [if_pos rfl, if_pos rfl, addLast_push]
    show (l ++ [UInt8.ofNat (0 + v / 2 ^ m % 2 * 1)], 1) = _
    rw [Nat.zero_add, Nat.mul_one]
  | i + 1, hi => by
    show oneS 1 (putS 1 v n st (m + (i + 1))) (vbit 1 v n (m + (i + 1))) = _
    rw [byte_at h i (by omega), vbit1]
    have hmod : (i + 1) % 8 = i + 1 := Nat.mod_eq_of_lt (by omega)
    unfold oneS grow pl
    dsimp only
    rw [hmod, if_neg (by omega), if_pos rfl, addLast_push]
    have hp : 2 ^ (i + 1) ≤ 2 ^ 7 := Nat.pow_le_pow_right (by omega) (by omega)
    have hlt : v / 2 ^ m % 2 ^ (i + 1) < 256 := by have := Nat.mod_lt (v / 2 ^ m) (show 0 < 2 ^ (i + 1) from Nat.pow_pos (by decide)); omega
    have e : (UInt8.ofNat (v / 2 ^ m % 2 ^ (i + 1))).toNat + v / 2 ^ (m + (i + 1)) % 2 * 2 ^ (i + 1) = v / 2 ^ m % 2 ^ (i + 1 + 1) := by
      rw [of_toNat hlt, Nat.pow_succ (n := 2) (m := i + 1), Nat.mod_mul, Nat.pow_add 2 m (i + 1), Nat.div_div_eq_div_mul, Nat.mul_comm (2 ^ (i + 1)) (_ % 2)]
    rw [e]
/-- 16 bits are two bytes. -/
theorem low16b (l : List UInt8) (v : Nat) : lw (l, 0) v 16 = (l ++ [UInt8.ofNat (v % 256), UInt8.ofNat (v / 256 % 256)], 0) := by
  have h1 := byte_at (v := v) (n := 16) (m := 0) (st := (l, 0)) (l := l) rfl 7 (by decide)
  have h2 := byte_at (v := v) (n := 16) (m := 0 + (7 + 1)) (st := (l, 0)) h1 7 (by decide)
  rw [Nat.pow_zero, Nat.div_one] at h2
  show putS 1 v 16 (l, 0) 16 = _
  rw [show (16 : Nat) = 0 + (7 + 1) + (7 + 1) from rfl]
  rw [show (0 + (7 + 1) + (7 + 1) : Nat) = 16 from rfl] at h2 ⊢
  rw [h2, List.append_assoc]
  rfl
/-- The head of a stored block: three bits, and a new byte. -/
theorem headb (l : List UInt8) {f : Nat} (hf : f ≤ 1) : (lw (lw (l, 0) f 1) 0 2).1 = l ++ [UInt8.ofNat f] := by
  have h1 := byte_at (v := f) (n := 1) (m := 0) (st := (l, 0)) (l := l) rfl 0 (by decide)
  have e1 : lw (l, 0) f 1 = (l ++ [UInt8.ofNat f], 1) := by
    show putS 1 f 1 (l, 0) 1 = _
    rw [show (0 + (0 + 1) : Nat) = 1 from rfl] at h1
    rw [h1, Nat.pow_zero, Nat.div_one, Nat.mod_eq_of_lt (by show f < 2; omega)]
  have z : ∀ k, k ≠ 0 → oneS 1 (l ++ [UInt8.ofNat f], k) (vbit 1 0 2 (k - 1)) = (l ++ [UInt8.ofNat f], (k + 1) % 8) := fun k hk => by
    unfold oneS grow
    rw [vbit1, Nat.zero_div]
    dsimp only
    rw [if_neg hk, Nat.zero_mod, Nat.zero_mul, addLast_push, Nat.add_zero, UInt8.ofNat_toNat]
  rw [e1]
  show (oneS 1 (oneS 1 (l ++ [UInt8.ofNat f], 1) (vbit 1 0 2 0)) (vbit 1 0 2 1)).1 = _
  rw [z 1 (by decide)]
  exact congrArg Prod.fst (z 2 (by decide))
/-- What is written of a string, stored. -/
def stS : Nat → List UInt8 → List UInt8
  | 0, _ => []
  | k + 1, l => if l.length ≤ 65535 then blkS 1 l else blkS 0 (l.take 65535) ++ stS k (l.drop 65535)
def storedT (l : List UInt8) : List UInt8 := stS (l.length + 1) l
theorem storedT_small {l : List UInt8} (h : l.length ≤ 65535) : storedT l = blkS 1 l := by
  unfold storedT stS
  rw [if_pos h]
theorem c_lowW {w : World} {b : Nat} {s : Slc} {way : Int} {st : WS} (h : WrB w b s way st) (hi : WInv way st) (hway : way = 0 ∨ way = 1) (hsz : st.1.length ≤ 274877906944) {v n : Nat} (hv : v < 2 ^ n) (hn : 1 ≤ n) (hn2 : n ≤ 24) :
    C36 (at1 b) (v : Int) (n : Int) w fun e w1 => e = 0 ∧ ∃ s', WrB w1 b s' 1 (lw st v n) ∧ Wn w w1 b s s' := by
  have e2 : ((2 ^ n : Nat) : Int) = 2 ^ n := by simp
  have hp : putR way st (v : Int) (n : Int) 1 = (0, lw st v n, 1) := by
    rw [putR_ok (by rw [Int.toNat_natCast]; omega)]
    simp only [Int.toNat_natCast]
    rw [if_pos (by omega)]
    rfl
  refine (c_wlow h hi hsz (v : Int) (n : Int)).mono ?_
  rw [hp]
  exact fun e w1 h => h
theorem inv1 {way : Int} {st : WS} (hi : WInv way st) (hway : way = 0 ∨ way = 1) (v n : Nat) : WInv 1 (lw st v n) :=
  ⟨(hi.to (by omega)).put _ _ _, fun e => absurd e (by decide)⟩
theorem hd5_eq (f n : Nat) (hn : n ≤ 65535) : hd5 (UInt8.ofNat f) n = [UInt8.ofNat f, UInt8.ofNat (n % 256), UInt8.ofNat (n / 256 % 256), UInt8.ofNat ((65535 - n) % 256), UInt8.ofNat ((65535 - n) / 256 % 256)] := by
  unfold hd5
  rw [show n / 256 % 256 = n / 256 by omega, show (65535 - n) % 256 = 255 - n % 256 by omega, show (65535 - n) / 256 % 256 = 255 - n / 256 by omega]
theorem min_int (n : Nat) : (if (65535 : Int) < ((n : Nat) : Int) then 65535 else ((n : Nat) : Int)) = ((min n 65535 : Nat) : Int) := by
  split <;> omega
/-- foliant/deflate.stored -/
theorem c_storedW {S : ByteArray} (hs : S.size ≤ 1048576) (w : World) : C22 S w fun r w1 => r = ⟨(storedT S.data.toList).toArray⟩ ∧ Ext (fun _ => False) w w1 := by
  refine T22 _ _ _ ?_
  unfold S22
  refine (Bit.c_new w).mono ?_
  rintro r w0 ⟨rfl, hW, he0⟩
  have e0 : (size_list S) = (size_list S) := rfl
  refine ⟨fun m rest w3 => ∃ (pre : List UInt8) (sl : Slc) (k : Nat), m = k ∧ rest.size < k ∧ pre ++ stS k rest.data.toList = storedT S.data.toList ∧ pre.length + 2 * rest.size ≤ 2 * S.size ∧ WrB w3 w.heap.size sl 0 (pre, 0) ∧ Wn w0 w3 w.heap.size ⟨none, 0, 0⟩ sl, S.size + 1, ⟨[], _, _, rfl, by omega, by rw [size_list]; rfl, by simp, hW, Wn.refl _ _ _⟩, ?_⟩
  rintro m rest w3 ⟨pre, sl, k, rfl, hk, hpre, hlen, hW, hn⟩
  obtain ⟨k, rfl⟩ : ∃ j, m = j + 1 := ⟨m - 1, by omega⟩
  have hrl := size_list rest
  unfold S22L1
  have fact : ∀ (f : Nat), (f = 1 ∧ rest.size ≤ 65535) ∨ (f = 0 ∧ 65535 < rest.size) → S22J1 (at1 w.heap.size) rest (fun s' w' => ∃ n', n' < k + 1 ∧ ∃ (pre : List UInt8) (sl : Slc) (k : Nat), n' = k ∧ s'.size < k ∧ pre ++ stS k s'.data.toList = storedT S.data.toList ∧ pre.length + 2 * s'.size ≤ 2 * S.size ∧ WrB w' w.heap.size sl 0 (pre, 0) ∧ Wn w0 w' w.heap.size ⟨none, 0, 0⟩ sl)
      (fun r w1 => r = ⟨(storedT S.data.toList).toArray⟩ ∧ Ext (fun _ => False) w w1) (f : Int) w3 := fun f hf => by
    unfold S22J1
    rw [min_int]
    have hc : min rest.size 65535 ≤ 65535 := Nat.min_le_right _ _
    have hc2 : min rest.size 65535 ≤ rest.size := Nat.min_le_left _ _
    generalize hce : min rest.size 65535 = c at hc hc2 ⊢
    refine (c_lowW hW (WInv.zero _) (.inl rfl) (by show pre.length ≤ _; omega) (v := f) (n := 1) (by show f < 2; omega) (by omega) (by omega)).mono ?_
    rintro _ w4 ⟨rfl, s4, W4, n4⟩
    have l4 : (lw (pre, 0) f 1).1.length ≤ pre.length + 1 := by
      have := byte_at (v := f) (n := 1) (m := 0) (st := (pre, 0)) (l := pre) rfl 0 (by decide)
      have e : lw (pre, 0) f 1 = _ := this
      rw [e]; simp
    refine (c_lowW W4 (inv1 (WInv.zero _) (.inl rfl) _ _) (.inr rfl) (by omega) (v := 0) (n := 2) (by decide) (by omega) (by omega)).mono ?_
    rintro _ w5 ⟨rfl, s5, W5, n5⟩
    refine (c_walign W5).mono ?_
    rintro w6 ⟨W6, e6⟩
    rw [headb pre (by omega)] at W6
    refine (c_lowW W6 (WInv.zero _) (.inl rfl) (by simp; omega) (v := c) (n := 16) (by show c < 65536; omega) (by omega) (by omega)).mono ?_
    rintro _ w7 ⟨rfl, s7, W7, n7⟩
    refine Lt.of ?_
    rw [i64_id (by omega), show (65535 : Int) - (c : Int) = ((65535 - c : Nat) : Int) by omega]
    refine (c_lowW W7 (inv1 (WInv.zero _) (.inl rfl) _ _) (.inr rfl) (by rw [low16b]; simp; omega) (v := 65535 - c) (n := 16) (by show 65535 - c < 65536; omega) (by omega) (by omega)).mono ?_
    rintro _ w8 ⟨rfl, s8, W8, n8⟩
    refine (c_walign W8).mono ?_
    rintro w9 ⟨W9, e9⟩
    rw [low16b, low16b] at W9
    have hext : rest.extract 0 ((c : Int)).toNat = rest.extract 0 c := by rw [Int.toNat_natCast]
    have hesz : (rest.extract 0 c).size = c := by rw [ByteArray.size_extract]; omega
    refine ⟨by omega, by omega, Lt.of ?_⟩
    rw [hext]
    refine (c_wraw W9 (rest.extract 0 c) (by simp; omega) (by omega)).mono ?_
    rintro w10 ⟨s10, W10, n10⟩
    have hst : rawS (pre ++ [UInt8.ofNat f] ++ [UInt8.ofNat (c % 256), UInt8.ofNat (c / 256 % 256)] ++ [UInt8.ofNat ((65535 - c) % 256), UInt8.ofNat ((65535 - c) / 256 % 256)], 0) (rest.extract 0 c) = (pre ++ blkS (UInt8.ofNat f) (rest.data.toList.take c), 0) := by
      have e1 : (rest.extract 0 c).data.toList = rest.data.toList.take c := by rw [extract_list, List.drop_zero, Nat.sub_zero]
      have e2 : (rest.data.toList.take c).length = c := by rw [List.length_take]; omega
      unfold rawS blkS
      rw [e1, e2, hd5_eq f c hc]
      simp
    rw [hst] at W10
    have W10 : WrB w10 w.heap.size s10 0 (pre ++ blkS (UInt8.ofNat f) (rest.data.toList.take c), 0) := W10
    have hn10 := (((((((hn.trans n4).trans n5).to e6).trans n7).trans n8).to e9).trans n10)
    have hpl : (pre ++ blkS (UInt8.ofNat f) (rest.data.toList.take c)).length = pre.length + 5 + c := by
      rw [List.length_append, blkS_len, List.length_take]
      omega
    refine ⟨by omega, by omega, Lt.of ?_⟩
    unfold stS at hpre
    refine Br.eq (fun q => ?_) fun q => ?_
    · have hf1 : f = 1 ∧ rest.size ≤ 65535 := by omega
      rw [if_pos (by omega)] at hpre
      have ec : c = rest.size := by omega
      rw [ec, hf1.1, List.take_of_length_le (by omega)] at W10
      have W10 : WrB w10 w.heap.size s10 0 (pre ++ blkS 1 rest.data.toList, 0) := W10
      rw [hpre] at W10
      refine (c_wtext W10 (by dsimp only; rw [← hpre, List.length_append, blkS_len]; omega)).mono ?_
      rintro x w11 ⟨rfl, e11⟩
      refine ⟨rfl, ?_⟩
      refine ((he0.trans hn10.ext (fun _ h => h) fun j hj hg => ?_)).tr e11
      rcases hg with e | ⟨a, ha, _⟩
      · omega
      · cases ha
    · have hf0 : f = 0 ∧ 65535 < rest.size := by omega
      rw [if_neg (by omega)] at hpre
      have ec : c = 65535 := by omega
      have esz : (rest.extract ((c : Int)).toNat rest.size).size = rest.size - 65535 := by rw [ByteArray.size_extract, Int.toNat_natCast]; omega
      refine ⟨k, by omega, pre ++ blkS (UInt8.ofNat f) (rest.data.toList.take c), s10, k, rfl, by rw [esz]; omega, ?_, by rw [esz, hpl]; omega, W10, hn10⟩
      rw [← hpre, Int.toNat_natCast, extract_drop, ec, hf0.1, List.append_assoc]
      rfl
  refine ⟨fun f w4 => w4 = w3 ∧ ∃ f' : Nat, f = (f' : Int) ∧ ((f' = 1 ∧ rest.size ≤ 65535) ∨ (f' = 0 ∧ 65535 < rest.size)), ?_, ?_⟩
  · rintro f _ ⟨rfl, f', rfl, hf⟩
    exact fact f' hf
  · rw [min_int]
    refine Lt.of (Br.eq (fun q => ⟨rfl, 1, rfl, .inl ⟨rfl, by omega⟩⟩) fun q => ⟨rfl, 0, rfl, .inr ⟨rfl, by omega⟩⟩)
end Inf
end Go.Proofs.YtjkoafjnmkchdaaDoor

/- Inflate: the program's table writes; the law's sized and backed. Conditions: sizes. -/
namespace Go.Proofs.YtjkoafjnmkchdaaDoor
namespace Inf
open Sh Bit
set_option linter.unusedVariables false
set_option linter.unusedSimpArgs false
set_option maxRecDepth 4000
set_option maxHeartbeats 2000000
theorem put_bit {way : Int} {st : WS} (h : way = 0 ∨ way = 1) {b : Nat} (hb : b ≤ 1) : putR way st (b : Int) 1 1 = (0, oneS 1 st b, 1) := by
  rw [putR_ok (by
    have : (2 : Int) ^ (1 : Int).toNat = 2 := by decide
    rw [this]
    omega)]
  rw [if_pos (by decide)]
  show (0, oneS 1 st (vbit 1 (b : Int).toNat 1 0), 1) = _
  have : vbit 1 (b : Int).toNat 1 0 = b := by
    unfold vbit
    rw [if_pos rfl, Int.toNat_natCast, Nat.pow_zero, Nat.div_one]
    omega
  rw [this]
theorem put_low {way : Int} {st : WS} (h : way = 0 ∨ way = 1) {v n : Nat} (hv : v < 2 ^ n) (hn : n ≤ 24) : putR way st (v : Int) (n : Int) 1 = (0, lw st v n, if 0 < (n : Int) then 1 else way) := by
  have e : ((2 ^ n : Nat) : Int) = 2 ^ n := by simp
  rw [putR_ok (by rw [Int.toNat_natCast]; omega), Int.toNat_natCast, Int.toNat_natCast]
  rfl
theorem codes_get {lens : List Int} {g : Nat} (h : g < lens.length) : (codes lens).getD g 0 = codeL lens g := by
  unfold codes
  rw [List.getD_eq_getElem?_getD, List.getElem?_map, List.getElem?_range h]
  rfl
theorem Wn.of {w w1 : World} {b : Nat} {s : Slc} (h : Ext (fun _ => False) w w1) : Wn w w1 b s s := ⟨h.mono fun _ _ e => e.elim, fun _ h => .inl h⟩
attribute [local irreducible] Ld St Nw Nn Lt LdS
section
variable {w : World} {lo hi tb wb : Nat} {way : Int} {ws : Slc} {st : WS} {lens : List Int}
theorem c_write (ht : TB w lo hi tb lens) (hc : chk lens = 0) (hw : WrB w wb ws way st) (hin : WInv way st) (hway : way = 0 ∨ way = 1) (hsz : st.1.length ≤ 200000000000) (hsep : ∀ j, fp wb ws j → j < lo ∨ hi ≤ j)
    {g n : Nat} (hg : g < lens.length) (hn : lens.getD g 0 = (n : Int)) (h0 : 0 < n) :
    C48 (some (⟨tb, 0, none⟩ : Addr)) (at1 wb) (g : Int) w fun e w1 => e = 0 ∧ ∃ ws', WrB w1 wb ws' 1 (cw lens st g) ∧ Wn w w1 wb ws ws' := by
  refine T48 _ _ _ _ _ ?_
  unfold S48
  obtain ⟨s1, s2, s3, h1, h2, h3, h4, h5, h6, h7, h8, h9⟩ := ht
  obtain ⟨n1, n15, _, c, hcc, hci, _, hlt⟩ := code_of hc hg hn h0
  have hlen := (chk_lok hc).len
  have hok : WOK 1 st := hin.to (by omega)
  refine Br.f rfl (Br.f rfl (Br.f (by simp) (Nn.of (Ld.of h1 (o := 0) (x := s1) rfl ?_))))
  rw [h2.1]
  refine Br.f (by simp; omega) (Nn.of (Ld.of h1 (o := 0) (x := s1) rfl ⟨by omega, by rw [h2.1]; omega, ?_⟩))
  obtain ⟨a, ha, hcell⟩ := h2.get hg
  rw [ha, Int.toNat_natCast]
  refine Nn.of (Ld.mk hcell ?_)
  rw [hn]
  refine Br.f (by simp; omega) ?_
  rw [i64_id (by omega)]
  have e : cw lens st g = Inf.hw st c n n := by unfold cw; rw [hcc, hn, Int.toNat_natCast]
  rw [e]
  refine ⟨fun k s12 w3 => ∃ i : Nat, i ≤ n ∧ k = n - i ∧ s12 = (n : Int) - 1 - (i : Int) ∧ ∃ ws', WrB w3 wb ws' (if i = 0 then way else 1) (Inf.hw st c n i) ∧ Wn w w3 wb ws ws', n, ⟨0, by omega, by omega, by omega, ws, hw, Wn.refl _ _ _⟩, ?_⟩
  rintro k s12 w3 ⟨i, hi, rfl, rfl, ws', hb, hwn⟩
  unfold S48L1
  have hl := hw_len st c n i
  refine Br.dec (fun q => ?_) fun q => ?_
  · have hin' : i < n := by omega
    have hB := hwn.ext.blk h1 fun hf => by have := hsep _ hf; omega
    have hV := h3.keepF hwn.ext fun j hj hf => by have := hsep _ hf; have := h8 j hj; omega
    obtain ⟨a2, ha2, hc2⟩ := hV.get (i := g) (by unfold codes; simpa using hg)
    rw [codes_get hg, ← hci] at hc2
    refine Nn.of ?_
    simp only [add_lit, Nat.zero_add]
    refine Ld.of hB (o := 1) (x := s2) rfl ⟨by omega, by rw [hV.1]; unfold codes; simp; omega, ?_⟩
    rw [ha2, Int.toNat_natCast]
    refine Nn.of (Ld.mk hc2 ⟨by omega, ?_⟩)
    have e3 : ((n : Int) - 1 - (i : Int)).toNat = n - 1 - i := by omega
    have hp15 : 2 ^ n ≤ 2 ^ 15 := Nat.pow_le_pow_right (by decide) n15
    rw [e3, Nat.min_eq_left (by omega), vbit_low c (n - 1 - i) (by omega)]
    have hw2 : (if i = 0 then way else 1) = 0 ∨ (if i = 0 then way else 1) = 1 := by split <;> omega
    have hinv : WInv (if i = 0 then way else 1) (Inf.hw st c n i) := by
      by_cases hi0 : i = 0
      · subst hi0; exact hin
      · rw [if_neg hi0]; exact ⟨hw_ok hok c n i, fun hh => by cases hh⟩
    refine (c_wlow hb hinv (by omega) _ 1).mono ?_
    rw [put_bit hw2 (bit_le _)]
    rintro r w4 ⟨rfl, ws2, hb2, hn2⟩
    refine Br.f rfl ⟨n - (i + 1), by omega, i + 1, by omega, rfl, by rw [i64_id (by omega)]; omega, ws2, ?_, hwn.trans hn2⟩
    rw [if_neg (by omega)]
    exact hb2
  · have : i = n := by omega
    subst this
    rw [if_neg (by omega)] at hb
    exact ⟨rfl, ws', hb, hwn⟩

theorem sizeFK {k : Nat} (hk : k ≤ 28) (x : Int) : sizeF ((257 + k : Nat) : Int) x = if x < 0 ∨ 2 ^ moreL k ≤ x then (0, 1) else ((firstL k : Int) + x, 0) := by
  unfold sizeF
  rw [if_neg (by omega), show (((257 + k : Nat) : Int) - 257).toNat = k by omega]
theorem farFK {k : Nat} (hk : k ≤ 29) (x : Int) : farF (k : Int) x = if x < 0 ∨ 2 ^ moreD k ≤ x then (0, 1) else ((baseD k : Int) + x, 0) := by
  unfold farF
  rw [if_neg (by omega), Int.toNat_natCast]
end
end Inf
end Go.Proofs.YtjkoafjnmkchdaaDoor

/- Maps from strings in memory: made, looked up, written. Conditions: sizes. -/
namespace Go.Proofs.YtjkoafjnmkchdaaDoor
namespace Sh
open Go.WideMaps Go.WideShapes
set_option linter.unusedVariables false
set_option linter.unusedSimpArgs false
/-- What a map holds: keys and values, in the order of their making. -/
abbrev MpL : Type := List (ByteArray × Value)
def MpE (E : List MapEntry) (L : MpL) : Prop := E.map (fun e => (e.key, e.val)) = L.map fun p => ((.string p.1 : Value), p.2)
/-- Block b is a map. -/
structure MpB (w : World) (b : Nat) (L : MpL) : Prop where
  blk : ∃ (E : Array MapEntry) (clock : Nat), w.heap[b]? = some (.map E clock) ∧ MpE E.toList L
  one : (L.map (·.1)).Nodup
  few : ∀ p ∈ L, p.1.size ≤ maxLen
def mget : MpL → ByteArray → Option Value
  | [], _ => none
  | p :: L, k => if p.1 = k then some p.2 else mget L k
def mput : MpL → ByteArray → Value → MpL
  | [], k, v => [(k, v)]
  | p :: L, k, v => if p.1 = k then (k, v) :: L else p :: mput L k v
theorem mget_put (L : MpL) (k : ByteArray) (v : Value) (j : ByteArray) : mget (mput L k v) j = if j = k then some v else mget L j := by
  induction L with
  | nil =>
    show (if k = j then some v else none) = _
    by_cases h : j = k
    · rw [if_pos h, if_pos h.symm]
    · rw [if_neg h, if_neg (fun e => h e.symm)]
      rfl
  | cons p L ih =>
    unfold mput
    by_cases hp : p.1 = k
    · rw [if_pos hp]
      show (if k = j then some v else mget L j) = if j = k then some v else (if p.1 = j then some p.2 else mget L j)
      by_cases h : j = k
      · rw [if_pos h, if_pos h.symm]
      · rw [if_neg h, if_neg (fun e => h e.symm), if_neg (fun e => h (e.symm.trans hp))]
    · rw [if_neg hp]
      show (if p.1 = j then some p.2 else mget (mput L k v) j) = if j = k then some v else (if p.1 = j then some p.2 else mget L j)
      by_cases h1 : p.1 = j
      · rw [if_pos h1, if_pos h1, if_neg (fun e => hp (h1.trans e))]
      · rw [if_neg h1, if_neg h1, ih]
theorem mget_none {L : MpL} {k : ByteArray} (h : k ∉ L.map (·.1)) : mget L k = none := by
  induction L with
  | nil => rfl
  | cons p L ih =>
    rw [List.map_cons] at h
    unfold mget
    rw [if_neg (fun e => h (by rw [e]; exact List.mem_cons_self ..))]
    exact ih fun hm => h (List.mem_cons_of_mem _ hm)
section
variable {P : Program} {w : World} {t k e : TypeId} {b : Nat} {L : MpL} {z : Value}
theorem MpB.keepF {F : Nat → Prop} {w' : World} (h : MpB w b L) (he : Ext F w w') (hb : ¬ F b) : MpB w' b L := by
  obtain ⟨E, c, h1, h2⟩ := h.blk
  exact ⟨⟨E, c, by rw [he.block b (Array.getElem?_eq_some_iff.1 h1).1 hb]; exact h1, h2⟩, h.one, h.few⟩
theorem MpB.keep {w' : World} (h : MpB w b L) (he : Ext (fun _ => False) w w') : MpB w' b L := h.keepF he id
theorem MpB.lt (h : MpB w b L) : b < w.heap.size := by
  obtain ⟨E, c, h1, h2⟩ := h.blk
  exact (Array.getElem?_eq_some_iff.1 h1).1
theorem MpB.new (w : World) : MpB (w.alloc (.map #[] 0)) w.heap.size [] := ⟨⟨#[], 0, by show (w.heap.push _)[w.heap.size]? = _; simp, rfl⟩, List.nodup_nil, fun p hp => by cases hp⟩
theorem mput_keys (L : MpL) (k : ByteArray) (v : Value) : (k ∈ L.map (·.1) ∧ (mput L k v).map (·.1) = L.map (·.1)) ∨ (k ∉ L.map (·.1) ∧ mput L k v = L ++ [(k, v)]) := by
  induction L with
  | nil => exact .inr ⟨by simp, rfl⟩
  | cons p L ih =>
    unfold mput
    by_cases hp : p.1 = k
    · rw [if_pos hp]
      exact .inl ⟨by rw [List.map_cons, hp]; exact List.mem_cons_self .., by rw [List.map_cons, List.map_cons, hp]⟩
    · rw [if_neg hp]
      rcases ih with ⟨h1, h2⟩ | ⟨h1, h2⟩
      · exact .inl ⟨List.mem_cons_of_mem _ h1, by rw [List.map_cons, List.map_cons, h2]⟩
      · exact .inr ⟨fun h => by
          rw [List.map_cons] at h
          rcases List.mem_cons.1 h with h | h
          · exact hp h.symm
          · exact h1 h, by rw [h2]; rfl⟩
theorem mput_nodup {L : MpL} (h : (L.map (·.1)).Nodup) (k : ByteArray) (v : Value) : ((mput L k v).map (·.1)).Nodup := by
  rcases mput_keys L k v with ⟨_, h2⟩ | ⟨h1, h2⟩
  · rw [h2]; exact h
  · rw [h2, List.map_append]
    exact List.nodup_append.2 ⟨h, by simp, fun a ha c hc e => h1 (by rw [List.map_cons, List.map_nil, List.mem_singleton] at hc; rw [← show c = k from hc, ← e]; exact ha)⟩
theorem mput_few {L : MpL} {k : ByteArray} {v : Value} (h : ∀ p ∈ L, p.1.size ≤ maxLen) (hk : k.size ≤ maxLen) : ∀ p ∈ mput L k v, p.1.size ≤ maxLen := by
  induction L with
  | nil => intro p hp; rw [List.mem_singleton.1 hp]; exact hk
  | cons q L ih =>
    intro p hp
    unfold mput at hp
    split at hp
    · rcases List.mem_cons.1 hp with rfl | hp
      · exact hk
      · exact h p (List.mem_cons_of_mem _ hp)
    · rcases List.mem_cons.1 hp with rfl | hp
      · exact h p (List.mem_cons_self ..)
      · exact ih (fun p hp => h p (List.mem_cons_of_mem _ hp)) p hp
theorem at_key {L : MpL} (h : (L.map (·.1)).Nodup) {j : Nat} {k : ByteArray} {x : Value} (hj : L[j]? = some (k, x)) : mget L k = some x ∧ ∀ v, mput L k v = L.set j (k, v) := by
  induction L generalizing j with
  | nil => cases hj
  | cons p L ih =>
    cases j with
    | zero =>
      cases hj
      exact ⟨by unfold mget; rw [if_pos rfl], fun v => by unfold mput; rw [if_pos rfl]; rfl⟩
    | succ j =>
      have hj : L[j]? = some (k, x) := by simpa using hj
      rw [List.map_cons, List.nodup_cons] at h
      have hne : ¬ p.1 = k := fun e => h.1 (by rw [e]; exact List.mem_map.2 ⟨_, List.mem_of_getElem? hj, rfl⟩)
      obtain ⟨h1, h2⟩ := ih h.2 hj
      refine ⟨?_, fun v => ?_⟩
      · unfold mget
        rw [if_neg hne]
        exact h1
      · unfold mput
        rw [if_neg hne, h2]
        rfl
theorem MpE.get {E : List MapEntry} (h : MpE E L) {i : Nat} {x : MapEntry} (hi : E[i]? = some x) : ∃ p, L[i]? = some p ∧ x.key = .string p.1 ∧ x.val = p.2 := by
  have h1 : (E.map fun e => (e.key, e.val))[i]? = some (x.key, x.val) := by rw [List.getElem?_map, hi]; rfl
  rw [h, List.getElem?_map] at h1
  obtain ⟨p, hp, h2⟩ := Option.map_eq_some_iff.1 h1
  exact ⟨p, hp, (congrArg Prod.fst h2).symm, (congrArg Prod.snd h2).symm⟩
theorem MpE.keys {E : List MapEntry} (h : MpE E L) (hk : P.underlying k = some .string) (hs : ∀ p ∈ L, p.1.size ≤ maxLen) : ∀ x ∈ E, ∃ l, keyOf P k x.key = some l := fun x hx => by
  obtain ⟨i, hi⟩ := List.getElem?_of_mem hx
  obtain ⟨p, hp, h1, _⟩ := h.get hi
  exact ⟨_, by rw [h1]; exact keyOf_string_mk hk (hs p (List.mem_of_getElem? hp))⟩
/-- What the search for a key finds. -/
theorem mp_find {E : List MapEntry} (h : MpE E L) (hn : (L.map (·.1)).Nodup) (hk : P.underlying k = some .string) (hs : ∀ p ∈ L, p.1.size ≤ maxLen) {key : ByteArray} (hks : key.size ≤ maxLen) (w : World) :
    ((Instr.findKey k (.string key) E).run P w = .ok none w ∧ mget L key = none ∧ key ∉ L.map (·.1)) ∨ ∃ j x, (Instr.findKey k (.string key) E).run P w = .ok (some (j, x)) w ∧ L[j]? = some (key, x) ∧ (E[j]?).map (·.key) = some (.string key) := by
  rcases (string_law hk).find w (keyOf_string_mk hk hks) E (h.keys hk hs) with ⟨h1, h2⟩ | ⟨j, x, h1, h2, h3⟩
  · have no : key ∉ L.map (·.1) := fun hm => by
      obtain ⟨p, hp, e⟩ := List.mem_map.1 hm
      obtain ⟨i, hi⟩ := List.getElem?_of_mem hp
      have hl : (E.map fun e => (e.key, e.val))[i]? = some ((.string p.1 : Value), p.2) := by rw [h, List.getElem?_map, hi]; rfl
      rw [List.getElem?_map] at hl
      obtain ⟨x, hx, h4⟩ := Option.map_eq_some_iff.1 hl
      refine h2 x (List.mem_of_getElem? hx) ?_
      exact (congrArg Prod.fst h4).trans (by rw [e])
    exact .inl ⟨h1, mget_none no, no⟩
  · obtain ⟨p, hp, h4, h5⟩ := h.get h2
    have hp1 : p.1 = key := by
      rw [h3] at h4
      exact (Value.string.inj h4).symm
    exact .inr ⟨j, x.val, h1, by rw [hp, h5, ← hp1], by rw [h2]; exact congrArg some h3⟩
theorem MpB.look (h : MpB w b L) (ht : P.underlying t = some (.map k e)) (hk : P.underlying k = some .string) (hz : (zeroValue e).run P w = .ok z w) {key : ByteArray} (hks : key.size ≤ maxLen) :
    RunV P (Instr.lookup t (.map (some b)) (.string key) false) w ((mget L key).getD z) w := by
  obtain ⟨E, c, hb, hE⟩ := h.blk
  have hkey := keyOf_string_mk hk hks
  have hch := (string_law hk).check w E.isEmpty hkey
  rcases mp_find hE h.one hk h.few hks w with ⟨h1, h2, _⟩ | ⟨j, x, h1, h2, _⟩
  · rw [h2]
    simp [RunV, Instr.lookup, run_underlying ht, MapKept.run_getObj_map hb, hch, h1, hz, Result.andThen]
  · rw [(at_key h.one h2).1]
    simp [RunV, Instr.lookup, run_underlying ht, MapKept.run_getObj_map hb, hch, h1, Result.andThen]
theorem MpB.put (h : MpB w b L) (ht : P.underlying t = some (.map k e)) (hk : P.underlying k = some .string) {key : ByteArray} (hks : key.size ≤ maxLen) (v : Value) :
    ∃ w', RunU P (Instr.mapUpdate t (.map (some b)) (.string key) v) w w' ∧ MpB w' b (mput L key v) ∧ Ext (· = b) w w' := by
  obtain ⟨E, c, hb, hE⟩ := h.blk
  have hkey := keyOf_string_mk hk hks
  have hch := (string_law hk).check w false hkey
  have ext : ∀ o : Obj, Ext (· = b) w { w with heap := w.heap.setIfInBounds b o } := fun o => ⟨rfl, rfl, rfl, by simp, fun i hi hn => by
    show (w.heap.setIfInBounds b o)[i]? = _
    rw [Array.getElem?_setIfInBounds_ne (fun e => hn e.symm)]⟩
  have here : ∀ o : Obj, ({ w with heap := w.heap.setIfInBounds b o } : World).heap[b]? = some o := fun o => by
    show (w.heap.setIfInBounds b o)[b]? = _
    rw [Array.getElem?_setIfInBounds_self_of_lt (Array.getElem?_eq_some_iff.1 hb).1]
  rcases mp_find hE h.one hk h.few hks w with ⟨h1, h2, h3⟩ | ⟨j, x, h1, h2, h3⟩
  · refine ⟨{ w with heap := w.heap.setIfInBounds b (.map (E.push { key := .string key, val := v, born := c }) (c + 1)) }, ?_, ⟨⟨_, _, here _, ?_⟩, mput_nodup h.one _ _, mput_few h.few hks⟩, ext _⟩
    · simp [RunU, Instr.mapUpdate, run_underlying ht, MapKept.run_getObj_map hb, hch, h1, Result.andThen, MapKept.run_setObj_map _ hb]
    · rcases mput_keys L key v with ⟨h4, _⟩ | ⟨_, h4⟩
      · exact absurd h4 h3
      · rw [h4]
        unfold MpE at hE ⊢
        rw [Array.toList_push, List.map_append, hE, List.map_append]
        rfl
  · obtain ⟨y, hy, hy2⟩ := Option.map_eq_some_iff.1 h3
    have hyE : E[j]? = some y := by simpa using hy
    refine ⟨{ w with heap := w.heap.setIfInBounds b (.map (E.modify j fun e => { e with key := .string key, val := v }) c) }, ?_, ⟨⟨_, _, here _, ?_⟩, mput_nodup h.one _ _, mput_few h.few hks⟩, ext _⟩
    · simp [RunU, Instr.mapUpdate, run_underlying ht, MapKept.run_getObj_map hb, hch, h1, Result.andThen, MapKept.run_setObj_map _ hb, hyE, hy2, (string_law hk).stays w hkey]
    · rw [(at_key h.one h2).2]
      unfold MpE at hE ⊢
      have hEi : ∀ i, (E.toList[i]?).map (fun e : MapEntry => (e.key, e.val)) = (L[i]?).map (fun p : ByteArray × Value => ((.string p.1 : Value), p.2)) := fun i => by rw [← List.getElem?_map, hE, List.getElem?_map]
      rw [Array.toList_modify]
      apply List.ext_getElem?
      intro i
      have hL : j < L.length := (List.getElem?_eq_some_iff.1 h2).1
      rw [List.getElem?_map, List.getElem?_map, List.getElem?_modify, List.getElem?_set]
      by_cases hij : j = i
      · subst hij
        rw [if_pos rfl, if_pos hL, hy]
        simp
      · rw [if_neg hij, ← hEi i]
        simp [hij]
end
end Sh
end Go.Proofs.YtjkoafjnmkchdaaDoor

/- Deflate: the trail of places in a map, and the copy that it finds. Conditions: sizes. -/
namespace Go.Proofs.YtjkoafjnmkchdaaDoor
namespace Inf
open Sh Bit
set_option linter.unusedVariables false
set_option linter.unusedSimpArgs false
set_option maxRecDepth 4000
set_option maxHeartbeats 1000000
attribute [local irreducible] Ld St Nw Nn Lt LdS
theorem c_alike {S : ByteArray} {a b m : Nat} (hab : a ≤ b) (hb : b + m ≤ S.size) (hs : S.size ≤ 2000000) (w : World) : C54 S (a : Int) (b : Int) (m : Int) w fun r w1 => r = ((alikeK S.data.toList a b 0 m : Nat) : Int) ∧ Ext (fun _ => False) w w1 := by
  refine T54 _ _ _ _ _ _ ?_
  unfold S54
  refine ⟨fun k st w3 => ∃ n : Nat, st = (n : Int) ∧ n ≤ m ∧ k = m - n ∧ alikeK S.data.toList a b n (m - n) = alikeK S.data.toList a b 0 m ∧ Ext (fun _ => False) w w3, m, ⟨0, rfl, by omega, rfl, rfl, Ext.refl _ _⟩, ?_⟩
  rintro k st w3 ⟨n, rfl, hn, rfl, ha, he⟩
  unfold S54L1
  refine Br.dec (fun q => ?_) fun q => ?_
  · rw [i64_id (n := (a : Int) + (n : Int)) (by omega), i64_id (n := (b : Int) + (n : Int)) (by omega), show (a : Int) + (n : Int) = ((a + n : Nat) : Int) by omega, show (b : Int) + (n : Int) = ((b + n : Nat) : Int) by omega, bAt_list, bAt_list]
    rw [show m - n = (m - (n + 1)) + 1 by omega, alikeK_step] at ha
    refine ⟨by omega, by omega, by omega, by omega, Br.eq (fun h1 => ?_) fun h1 => ?_⟩
    · rw [if_pos (UInt8.toNat_inj.1 (by omega))] at ha
      exact ⟨m - (n + 1), by omega, n + 1, by rw [i64_id (by omega)]; rfl, by omega, rfl, ha, he.drew⟩
    · rw [if_neg (fun e => h1 (by rw [e]))] at ha
      exact ⟨by rw [ha], he.drew⟩
  · have : n = m := by omega
    subst this
    rw [Nat.sub_self] at ha
    exact ⟨by rw [← ha]; rfl, he.drew⟩
/-- The places before p where these three bytes are. -/
def posN (s : List UInt8) (p : Nat) (key : List UInt8) : List Nat := (List.range p).filter fun q => (s.drop q).take 3 = key ∧ q + 3 ≤ s.length
theorem posN_succ (s : List UInt8) (p : Nat) (key : List UInt8) : posN s (p + 1) key = if (s.drop p).take 3 = key ∧ p + 3 ≤ s.length then posN s p key ++ [p] else posN s p key := by
  unfold posN
  rw [List.range_succ, List.filter_append]
  split
  · rename_i h
    congr 1
    simp [h]
  · rename_i h
    rw [show List.filter (fun q => decide ((s.drop q).take 3 = key ∧ q + 3 ≤ s.length)) [p] = [] by simp only [List.filter_cons, List.filter_nil, h, decide_false]; rfl, List.append_nil]
theorem posN_end (s : List UInt8) {p : Nat} (hp : s.length < p + 3) (key : List UInt8) : ∀ d, posN s (p + d) key = posN s p key
  | 0 => rfl
  | d + 1 => by
    rw [← Nat.add_assoc, posN_succ, if_neg (by omega), posN_end s hp key d]
theorem posN_mem {s : List UInt8} {p q : Nat} {key : List UInt8} : q ∈ posN s p key ↔ q < p ∧ (s.drop q).take 3 = key ∧ q + 3 ≤ s.length := by
  unfold posN
  rw [List.mem_filter, List.mem_range, decide_eq_true_iff]
theorem posN_sort (s : List UInt8) (p : Nat) (key : List UInt8) : (posN s p key).Pairwise (· < ·) := List.Pairwise.filter _ List.pairwise_lt_range
theorem posN_len (s : List UInt8) (p : Nat) (key : List UInt8) : (posN s p key).length ≤ p := by
  unfold posN
  have := List.length_filter_le (fun q => decide ((s.drop q).take 3 = key ∧ q + 3 ≤ s.length)) (List.range p)
  rw [List.length_range] at this
  exact this
/-- Where no such place is, nothing is found. -/
theorem thr_skip {s : List UInt8} {p F : Nat} : ∀ d, (∀ k, F < k → k ≤ F + d → mlen s p k < 3) → thr (bst s p (F + d)) = thr (bst s p F)
  | 0, _ => rfl
  | d + 1, h => by
    rw [← Nat.add_assoc, thr_low (h (F + d + 1) (by omega) (by omega))]
    exact thr_skip d fun k h1 h2 => h k h1 (by omega)
theorem mem_mlen {s : List UInt8} {p k : Nat} (h3 : p + 3 ≤ s.length) (h1 : 1 ≤ k) (hk : k ≤ p) : 3 ≤ mlen s p k ↔ p - k ∈ posN s p ((s.drop p).take 3) := by
  rw [mlen3 h3 hk, posN_mem]
  exact ⟨fun h => ⟨by omega, h, by omega⟩, fun h => h.2.1⟩
/-- What the trail holds. -/
structure Trl (w : World) (mb : Nat) (L : MpL) (s : List UInt8) (p : Nat) : Prop where
  map : MpB w mb L
  val : ∀ k v, mget L k = some v → ∃ sl, v = Slc.v sl ∧ Row w sl 3 1 (ints (ordI (posN s p k.data.toList))) ∧ ¬ sl.own mb
  no : ∀ k, mget L k = none → posN s p k.data.toList = []
  sep : ∀ k k' sl sl', mget L k = some (Slc.v sl) → mget L k' = some (Slc.v sl') → k ≠ k' → ∀ j, sl.own j → ¬ sl'.own j
/-- The blocks of a trail. -/
def tOwn (mb : Nat) (L : MpL) (j : Nat) : Prop := j = mb ∨ ∃ k sl, mget L k = some (Slc.v sl) ∧ sl.own j
section
variable {w : World} {mb : Nat} {L : MpL} {s : List UInt8} {p : Nat}
theorem Trl.keepF {F : Nat → Prop} {w' : World} (h : Trl w mb L s p) (he : Ext F w w') (hF : ∀ j, tOwn mb L j → ¬ F j) : Trl w' mb L s p :=
  ⟨h.map.keepF he (hF mb (.inl rfl)), fun k v hk => by
    obtain ⟨sl, h1, h2, h3⟩ := h.val k v hk
    exact ⟨sl, h1, h2.keep he fun j hj => hF j (.inr ⟨k, sl, by rw [hk, h1], hj⟩), h3⟩, h.no, h.sep⟩
theorem Trl.keep {w' : World} (h : Trl w mb L s p) (he : Ext (fun _ => False) w w') : Trl w' mb L s p := h.keepF he fun _ _ h => h
theorem Trl.lt (h : Trl w mb L s p) {j : Nat} (hj : tOwn mb L j) : j < w.heap.size := by
  rcases hj with rfl | ⟨k, sl, hk, hj⟩
  · exact h.map.lt
  · obtain ⟨sl', h1, h2, _⟩ := h.val k _ hk
    rw [Slc.v_inj] at h1
    subst h1
    exact h2.own_lt hj
theorem und54 : Tryd.prog.underlying 60 = some (.map 9 69) := by kernel_rfl
theorem zero72 (w : World) : (zeroValue 69).run Tryd.prog w = .ok (Slc.v ⟨none, 0, 0⟩) w := by
  have h : (Tryd.prog.info? 69).bind (·.zero) = some (Slc.v ⟨none, 0, 0⟩) := by kernel_rfl
  cases hi : Tryd.prog.info? 69 with
  | none => rw [hi] at h; cases h
  | some i =>
    rw [hi] at h
    have hz : i.zero = some (Slc.v ⟨none, 0, 0⟩) := h
    simp [zeroValue, typeInfo, hi, hz]
/-- A key is looked up. -/
theorem Trl.look (h : Trl w mb L s p) {key : ByteArray} (hk : key.size ≤ maxLen) : ∃ sl, RunV Tryd.prog (Instr.lookup 60 (.map (some mb)) (.string key) false) w (Slc.v sl) w ∧ Row w sl 3 1 (ints (ordI (posN s p key.data.toList))) ∧ (∀ j, sl.own j → tOwn mb L j ∧ j ≠ mb) ∧
    ∀ k' sl', mget L k' = some (Slc.v sl') → k' ≠ key → ∀ j, sl.own j → ¬ sl'.own j := by
  have hr := h.map.look und54 und_string (zero72 w) hk
  cases hg : mget L key with
  | none =>
    rw [hg] at hr
    refine ⟨⟨none, 0, 0⟩, hr, ?_, fun j hj => ?_, fun k' sl' _ _ j hj => ?_⟩
    · rw [h.no key hg]
      exact Row.nil w _ _
    · obtain ⟨a, ha, _⟩ := hj; cases ha
    · obtain ⟨a, ha, _⟩ := hj; cases ha
  | some v =>
    rw [hg] at hr
    obtain ⟨sl, rfl, h2, h3⟩ := h.val key v hg
    exact ⟨sl, hr, h2, fun j hj => ⟨.inr ⟨key, sl, hg, hj⟩, fun e => h3 (by rw [← e]; exact hj)⟩, fun k' sl' hk' hne j hj => h.sep key k' sl sl' hg hk' (fun e => hne e.symm) j hj⟩
end
section
variable {w : World} {mb : Nat} {L : MpL} {S : ByteArray} {p : Nat}
/-- The copy that the trail finds: the longest, the nearest of these. -/
theorem c_copiedT (h : Trl w mb L S.data.toList p) (hp : p < S.size) (hs : S.size ≤ 1048576) :
    C32 (some mb) S (p : Int) w fun r w1 => r = (0, (((thr (bst S.data.toList p (farK p))).1 : Nat) : Int), (((thr (bst S.data.toList p (farK p))).2 : Nat) : Int)) ∧ Ext (fun _ => False) w w1 := by
  have hsz : S.data.toList.length = S.size := (size_list S).symm
  refine T32 _ _ _ _ _ ?_
  unfold S32
  refine (Hn.start w).nw fun w4 H => ?_
  simp only [List.nil_append] at H
  refine H.nw fun w5 H => ?_
  simp only [List.cons_append, List.nil_append] at H
  rw [i64_id (n := (p : Int) + 3) (by omega)]
  refine Br.dec (fun q => ?_) fun q => ?_
  · iterate 3 refine H.ld 1 rfl rfl ?_
    iterate 3 (refine H.st 0 rfl (by simp) fun _ H => ?_; simp only [List.nil_append, List.cons_append, List.set_cons_zero, List.set_cons_succ, Nat.zero_add] at H)
    iterate 3 refine H.ld 0 rfl rfl ?_
    have : thr (bst S.data.toList p (farK p)) = (0, 0) := by
      have := bst_le S.data.toList p (farK p)
      unfold mostK at this
      unfold thr
      rw [if_pos (by omega)]
    rw [this]
    exact ⟨rfl, H.ext⟩
  · have h3 : p + 3 ≤ S.data.toList.length := by omega
    have hmk : mostK S.data.toList p = min 258 (S.size - p) := by unfold mostK; rw [hsz]
    have hmost : (if IntKind.i64.wrap (((S.size : Nat) : Int) - (p : Int)) < 258 then IntKind.i64.wrap (((S.size : Nat) : Int) - (p : Int)) else 258) = ((mostK S.data.toList p : Nat) : Int) := by
      rw [hmk, i64_id (by omega)]
      split <;> omega
    rw [hmost]
    refine Lt.of ?_
    have hT := h.keep H.ext
    have e3 : ((p : Int) + 3).toNat = p + 3 := by omega
    rw [e3, Int.toNat_natCast]
    have hkey : (S.extract p (p + 3)).data.toList = (S.data.toList.drop p).take 3 := by rw [extract_list]; congr 1; omega
    obtain ⟨sl, hrun, hrow, hown, _⟩ := hT.look (key := S.extract p (p + 3)) (by rw [ByteArray.size_extract]; unfold maxLen; omega)
    rw [hkey] at hrow
    refine ⟨by omega, by omega, by omega, by omega, sl, _, hrun, ?_⟩
    clear hrun
    have hiv := IV.row hrow
    have hsort := posN_sort S.data.toList p ((S.data.toList.drop p).take 3)
    have hmem := fun k => mem_mlen (s := S.data.toList) (p := p) (k := k) h3
    have hlt : ∀ q, q ∈ posN S.data.toList p ((S.data.toList.drop p).take 3) → q < p := fun q hq => (posN_mem.1 hq).1
    have hlen := posN_len S.data.toList p ((S.data.toList.drop p).take 3)
    generalize posN S.data.toList p ((S.data.toList.drop p).take 3) = PS at hiv hsort hmem hlt hlen
    have hsl : sl.len = PS.length := by rw [hiv.1, ordI_len]
    dsimp only
    rw [hsl]
    -- places between have no copy
    have skip : ∀ F G A B, PS = A ++ B → F ≤ G → G ≤ p → (∀ q ∈ A, G < p - q) → (∀ q ∈ B, p - q ≤ F) → thr (bst S.data.toList p G) = thr (bst S.data.toList p F) := fun F G A B hPS hFG hGp hA hB => by
      have := thr_skip (s := S.data.toList) (p := p) (F := F) (G - F) fun k k1 k2 => by
        rcases Nat.lt_or_ge (mlen S.data.toList p k) 3 with h | h
        · exact h
        · have := (hmem k (by omega) (by omega)).1 h
          rw [hPS] at this
          rcases List.mem_append.1 this with h | h
          · have := hA _ h; omega
          · have := hB _ h; omega
      rw [show F + (G - F) = G by omega] at this
      exact this
    refine ⟨fun m st w9 => ∃ (A B : List Nat) (F : Nat), PS = A ++ B ∧ st = (A.length : Int) - 1 ∧ m = A.length ∧ (∀ q ∈ A, F < p - q) ∧ (∀ q ∈ B, p - q ≤ F) ∧ F ≤ farK p ∧
      Hn w w9 [(w.heap.size, prow (0, 0, 0), 40), (w4.heap.size, prow (0, ((thr (bst S.data.toList p F)).1 : Int), ((thr (bst S.data.toList p F)).2 : Int)), 40)] ∧ IV w9 sl (ordI PS), PS.length,
      ⟨PS, [], 0, by simp, by rw [i64_id (by omega)], rfl, fun q hq => by have := hlt q hq; omega, (fun q hq => by cases hq), Nat.zero_le _, H, hiv⟩, ?_⟩
    rintro m st w9 ⟨A, B, F, hPS, rfl, rfl, hA, hB, hF, H, hiv⟩
    unfold S32L1 prow at *
    have hfk : farK p = min p 32768 := rfl
    have fin : ∀ F', thr (bst S.data.toList p (farK p)) = thr (bst S.data.toList p F') → F' = F → ∀ w9, Hn w w9 [(w.heap.size, prow (0, 0, 0), 40), (w4.heap.size, prow (0, ((thr (bst S.data.toList p F)).1 : Int), ((thr (bst S.data.toList p F)).2 : Int)), 40)] → Ld w9 (⟨w4.heap.size, 0, none⟩ : Addr) (Value.int .u8) fun (x61 : Int) =>
        Ld w9 ((⟨w4.heap.size, 0, none⟩ : Addr).add 1) (Value.int .i64) fun (x62 : Int) =>
        Ld w9 ((⟨w4.heap.size, 0, none⟩ : Addr).add 2) (Value.int .i64) fun (x63 : Int) =>
        St w9 (⟨w.heap.size, 0, none⟩ : Addr) (.int .u8 x61) fun vw64 =>
        St vw64 ((⟨w.heap.size, 0, none⟩ : Addr).add 1) (.int .i64 x62) fun vw65 =>
        St vw65 ((⟨w.heap.size, 0, none⟩ : Addr).add 2) (.int .i64 x63) fun vw66 =>
        Ld vw66 (⟨w.heap.size, 0, none⟩ : Addr) (Value.int .u8) fun (x67 : Int) =>
        Ld vw66 ((⟨w.heap.size, 0, none⟩ : Addr).add 1) (Value.int .i64) fun (x68 : Int) =>
        Ld vw66 ((⟨w.heap.size, 0, none⟩ : Addr).add 2) (Value.int .i64) fun (x69 : Int) =>
        (((x67, x68, x69) : Int × Int × Int) = (0, (((thr (bst S.data.toList p (farK p))).1 : Nat) : Int), (((thr (bst S.data.toList p (farK p))).2 : Nat) : Int)) ∧ Ext (fun _ => False) w vw66) := fun F' hF' e w9 H => by
      subst e
      unfold prow at H
      iterate 3 refine H.ld 1 rfl rfl ?_
      iterate 3 (refine H.st 0 rfl (by simp) fun _ H => ?_; simp only [List.nil_append, List.cons_append, List.set_cons_zero, List.set_cons_succ, Nat.zero_add] at H)
      iterate 3 refine H.ld 0 rfl rfl ?_
      rw [hF']
      exact ⟨rfl, H.ext⟩
    refine Br.dec (fun q1 => ?_) fun q1 => ?_
    · obtain ⟨A', qq, rfl⟩ : ∃ A' qq, A = A' ++ [qq] := by
        rcases List.eq_nil_or_concat A with h | ⟨A', qq, h⟩
        · subst h; simp at q1
        · exact ⟨A', qq, by rw [h, List.concat_eq_append]⟩
      have hAl : (((A' ++ [qq]).length : Nat) : Int) - 1 = (A'.length : Int) := by rw [List.length_append]; simp
      rw [hAl]
      have hPl : A'.length < PS.length := by rw [hPS]; simp
      have hqm : qq ∈ PS := by rw [hPS]; simp
      have hqp := hlt qq hqm
      have hget : ((ordI PS).getD A'.length 0) = (qq : Int) := by
        rw [ordI_get, List.getD_eq_getElem?_getD, hPS, List.append_assoc, List.getElem?_append_right (Nat.le_refl _), Nat.sub_self]
        rfl
      obtain ⟨a, ha, hc⟩ := hiv.get (i := A'.length) (by rw [ordI_len]; exact hPl)
      rw [hget] at hc
      rw [ha]
      refine ⟨by omega, by omega, Nn.of ?_⟩
      rw [Int.toNat_natCast]
      refine Ld.mk (x := (qq : Int)) hc ?_
      have hFq := hA qq (by simp)
      have hA' : ∀ q ∈ A', p - qq < p - q := fun q hq => by
        rw [hPS, List.append_assoc] at hsort
        have := (List.pairwise_append.1 hsort).2.2 q hq qq (by simp)
        omega
      rw [i64_id (n := (p : Int) - (qq : Int)) (by omega)]
      refine Br.dec (fun q2 => ?_) fun q2 => ?_
      · iterate 1 refine H.ld 1 rfl rfl ?_
        refine Br.dec (fun q3 => ?_) fun q3 => ?_
        · refine ⟨by omega, by omega, Nn.of ?_⟩
          refine Ld.mk (x := (qq : Int)) hc ?_
          refine (c_alike (S := S) (a := qq) (b := p) (m := mostK S.data.toList p) (by omega) (by omega) (by omega) w9).mono ?_
          rintro r w36 ⟨rfl, he⟩
          have H := H.keep he
          have hiv := hiv.keep he
          have hcc := he.cell_same hc
          iterate 1 refine H.ld 1 rfl rfl ?_
          have eM : alikeK S.data.toList qq p 0 (mostK S.data.toList p) = mlen S.data.toList p (p - qq) := by
            unfold mlen
            rw [show p - (p - qq) = qq by omega]
          rw [eM]
          have m3 : 3 ≤ mlen S.data.toList p (p - qq) := (hmem (p - qq) (by omega) (by omega)).2 (by rw [show p - (p - qq) = qq by omega]; exact hqm)
          have sk := skip F (p - qq - 1) (A' ++ [qq]) B hPS (by omega) (by omega) (fun q hq => by
            rcases List.mem_append.1 hq with h | h
            · have := hA' q h; omega
            · rw [List.mem_singleton.1 h]; omega) hB
          have th := thr_high (s := S.data.toList) (p := p) (F := p - qq - 1) (by rw [show p - qq - 1 + 1 = p - qq by omega]; exact m3)
          rw [show p - qq - 1 + 1 = p - qq by omega, sk] at th
          have hB' : ∀ q ∈ qq :: B, p - q ≤ p - qq := fun q hq => by
            rcases List.mem_cons.1 hq with rfl | hq
            · exact Nat.le_refl _
            · have := hB q hq; omega
          have hPS' : PS = A' ++ (qq :: B) := by rw [hPS, List.append_assoc]; rfl
          dsimp only
          refine Br.dec (fun q4 => ?_) fun q4 => ?_
          · refine ⟨by omega, by omega, Nn.of ?_⟩
            refine Ld.mk (x := (qq : Int)) hcc ?_
            rw [i64_id (n := (p : Int) - (qq : Int)) (by omega)]
            rw [if_pos (by omega)] at th
            have hiv0 := hiv
            have hsz36 := H.size
            refine H.st' 1 rfl (by simp) fun w40 H e40 => ?_
            simp only [List.set_cons_zero, List.set_cons_succ] at H
            refine H.st' 1 rfl (by simp) fun w41 H e41 => ?_
            simp only [List.set_cons_zero, List.set_cons_succ] at H
            refine H.st' 1 rfl (by simp) fun w42 H e42 => ?_
            simp only [List.set_cons_zero, List.set_cons_succ] at H
            have hnb : ∀ j, sl.own j → ¬ j = w4.heap.size := fun j hj => by
              have h1 := h.lt (hown j hj).1
              have h2 := H.ge 1 rfl
              omega
            refine ⟨A'.length, by simp, A', qq :: B, p - qq, hPS', by rw [i64_id (by omega)], rfl, hA', hB', by omega, ?_, ((hiv.keepF e40 hnb).keepF e41 hnb).keepF e42 hnb⟩
            rw [th]
            dsimp only
            rw [show (p : Int) - (qq : Int) = ((p - qq : Nat) : Int) by omega] at H
            exact H
          · rw [if_neg (by omega)] at th
            exact ⟨A'.length, by simp, A', qq :: B, p - qq, hPS', by rw [i64_id (by omega)], rfl, hA', hB', by omega, by rw [th]; exact H, hiv⟩
        · refine fin F ?_ rfl w9 H
          have hm3 : 3 ≤ mostK S.data.toList p := by omega
          have hle := bst_le S.data.toList p F
          have hq3 : ¬ ((thr (bst S.data.toList p F)).1 : Int) < (mostK S.data.toList p : Int) := q3
          have heq : (bst S.data.toList p F).1 = mostK S.data.toList p := by
            unfold thr at hq3
            split at hq3
            · exact absurd hq3 (by show ¬ ¬ ((0 : Nat) : Int) < _; omega)
            · omega
          have := bst_max heq (farK p - F)
          rw [show F + (farK p - F) = farK p by omega] at this
          rw [this]
      · refine fin F (skip F (farK p) (A' ++ [qq]) B hPS hF (by omega) (fun q hq => ?_) hB) rfl w9 H
        rcases List.mem_append.1 hq with h | h
        · have := hA' q h; omega
        · rw [List.mem_singleton.1 h]; omega
    · have : A = [] := by
        cases A with
        | nil => rfl
        | cons a A => simp at q1
      subst this
      exact fin F (skip F (farK p) [] B hPS hF (by omega) (fun q hq => by cases hq) hB) rfl w9 H
end
end Inf
end Go.Proofs.YtjkoafjnmkchdaaDoor

/- Deflate: places are added to the trail. Conditions: sizes. -/
namespace Go.Proofs.YtjkoafjnmkchdaaDoor
namespace Inf
open Sh Bit
set_option linter.unusedVariables false
set_option linter.unusedSimpArgs false
set_option maxRecDepth 4000
set_option maxHeartbeats 1000000
attribute [local irreducible] Ld St Nw Nn Lt LdS
section
variable {w : World} {mb : Nat} {L : MpL} {s : List UInt8} {p q : Nat}
theorem Trl.stay (h : Trl w mb L s q) (hq : s.length < q + 3) (d : Nat) : Trl w mb L s (q + d) :=
  ⟨h.map, fun k v hk => by rw [posN_end s hq]; exact h.val k v hk, fun k hk => by rw [posN_end s hq]; exact h.no k hk, h.sep⟩
/-- A place is added. -/
theorem Trl.push (h : Trl w mb L s q) (hs : s.length ≤ 1048576) (hq : q + 3 ≤ s.length) {key : ByteArray} (hkey : key.data.toList = (s.drop q).take 3) (hks : key.size ≤ maxLen) {sl : Slc} (hrow : Row w sl 3 1 (ints (ordI (posN s q key.data.toList)))) (hown : ∀ j, sl.own j → tOwn mb L j ∧ j ≠ mb)
    (hsep : ∀ k' sl', mget L k' = some (Slc.v sl') → k' ≠ key → ∀ j, sl.own j → ¬ sl'.own j) {g : Nat} (hg : Blk w g #[.int .i64 (q : Int)] 3) :
    ∃ sl' wc, RunV Tryd.prog (Builtin.append_ #[69, 69] 69 #[Slc.v sl, Slc.v ⟨some ⟨g, 0, none⟩, 1, 1⟩]) w (Slc.v sl') wc ∧ ∃ wd, RunU Tryd.prog (Instr.mapUpdate 60 (.map (some mb)) (.string key) (Slc.v sl')) wc wd ∧
      ∃ L', Trl wd mb L' s (q + 1) ∧ Ext (tOwn mb L) w wd ∧ ∀ j, tOwn mb L' j → tOwn mb L j ∨ w.heap.size ≤ j := by
  have hpl := posN_len s q key.data.toList
  have hsl : sl.len = (posN s q key.data.toList).length := by rw [(IV.row hrow).1, ordI_len]
  obtain ⟨sl', wc, hrun, hrow', hlen', hext, hown'⟩ := elI.app1 (ty := 69) (ys := [.int .i64 (q : Int)]) hrow hg rfl (fun v hv => by rw [List.mem_singleton.1 hv]; rfl) (by omega) (by omega)
  have hmb := h.map.lt
  have hmap := h.map.keepF hext fun hj => (hown mb hj).2 rfl
  obtain ⟨wd, hput, hmap2, hext2⟩ := hmap.put und54 und_string hks (Slc.v sl')
  have hnew : ∀ j, sl'.own j → j ≠ mb := fun j hj => by
    rcases hown' j hj with e | e
    · exact (hown j e).2
    · omega
  refine ⟨sl', wc, hrun, wd, hput, mput L key (Slc.v sl'), ⟨hmap2, fun k v hk => ?_, fun k hk => ?_, fun k k' s1 s2 h1 h2 hne j hj hj2 => ?_⟩, ?_, fun j hj => ?_⟩
  · rw [mget_put] at hk
    by_cases hkk : k = key
    · rw [if_pos hkk] at hk
      cases hk
      subst hkk
      refine ⟨sl', rfl, ?_, fun hj => hnew mb hj rfl⟩
      rw [posN_succ, if_pos ⟨hkey.symm, hq⟩, ordI_app, ints_app]
      exact hrow'.keep hext2 fun j hj => hnew j hj
    · rw [if_neg hkk] at hk
      obtain ⟨s1, h1, h2, h3⟩ := h.val k v hk
      subst h1
      refine ⟨s1, rfl, ?_, h3⟩
      rw [posN_succ, if_neg (fun e => hkk (ba_ext (by rw [hkey]; exact e.1.symm)))]
      exact (h2.keep hext fun j hj hj2 => hsep k s1 hk hkk j hj2 hj).keep hext2 fun j hj e => h3 (by rw [← e]; exact hj)
  · rw [mget_put] at hk
    by_cases hkk : k = key
    · rw [if_pos hkk] at hk; cases hk
    · rw [if_neg hkk] at hk
      rw [posN_succ, if_neg (fun e => hkk (ba_ext (by rw [hkey]; exact e.1.symm)))]
      exact h.no k hk
  · rw [mget_put] at h1 h2
    have old : ∀ k s1, mget L k = some (Slc.v s1) → k ≠ key → ∀ j, sl'.own j → ¬ s1.own j := fun k s1 hk hkk j hj hj2 => by
      rcases hown' j hj with e | e
      · exact hsep k s1 hk hkk j e hj2
      · have := h.lt (.inr ⟨k, s1, hk, hj2⟩)
        omega
    by_cases e1 : k = key
    · rw [if_pos e1] at h1
      have e2 : k' ≠ key := fun e2 => hne (e1.trans e2.symm)
      rw [if_neg e2] at h2
      have h1 := Slc.v_inj _ _ |>.1 (Option.some.inj h1)
      subst h1
      exact old k' s2 h2 e2 j hj hj2
    · rw [if_neg e1] at h1
      by_cases e2 : k' = key
      · rw [if_pos e2] at h2
        have h2 := Slc.v_inj _ _ |>.1 (Option.some.inj h2)
        subst h2
        exact old k s1 h1 e1 j hj2 hj
      · rw [if_neg e2] at h2
        exact h.sep k k' s1 s2 h1 h2 hne j hj hj2
  · refine (hext.mono fun j _ hj => (hown j hj).1).trans hext2 (fun _ h => h) fun j _ e => .inl e
  · rcases hj with rfl | ⟨k, s1, hk, hj⟩
    · exact .inl (.inl rfl)
    · rw [mget_put] at hk
      by_cases e1 : k = key
      · rw [if_pos e1] at hk
        have hk := Slc.v_inj _ _ |>.1 (Option.some.inj hk)
        subst hk
        exact (hown' j hj).imp (fun e => (hown j e).1) id
      · rw [if_neg e1] at hk
        exact .inl (.inr ⟨k, s1, hk, hj⟩)
end
theorem c_addT {w : World} {mb : Nat} {L : MpL} {S : ByteArray} {p t : Nat} (h : Trl w mb L S.data.toList p) (hpt : p ≤ t) (ht : t ≤ S.size) (hs : S.size ≤ 1048576) :
    C33 (some mb) S (p : Int) (t : Int) w fun w1 => ∃ L', Trl w1 mb L' S.data.toList t ∧ Ext (tOwn mb L) w w1 ∧ ∀ j, tOwn mb L' j → tOwn mb L j ∨ w.heap.size ≤ j := by
  have hsz : S.data.toList.length = S.size := (size_list S).symm
  refine T33 _ _ _ _ _ _ ?_
  unfold S33
  refine ⟨fun m st w3 => ∃ (q : Nat) (L' : MpL), st = (q : Int) ∧ p ≤ q ∧ q ≤ t ∧ m = t - q ∧ Trl w3 mb L' S.data.toList q ∧ Ext (tOwn mb L) w w3 ∧ ∀ j, tOwn mb L' j → tOwn mb L j ∨ w.heap.size ≤ j, t - p, ⟨p, L, rfl, by omega, hpt, rfl, h, Ext.refl _ _, fun j hj => .inl hj⟩, ?_⟩
  rintro m st w3 ⟨q, L', rfl, hq1, hq2, rfl, hT, he, ho⟩
  unfold S33L1
  refine Br.dec (fun h1 => ?_) fun h1 => ?_
  · rw [i64_id (n := (q : Int) + 3) (by omega)]
    refine Br.dec (fun h2 => ?_) fun h2 => ?_
    · have e3 : ((q : Int) + 3).toNat = q + 3 := by omega
      rw [e3, Int.toNat_natCast]
      have hkey : (S.extract q (q + 3)).data.toList = (S.data.toList.drop q).take 3 := by rw [extract_list]; congr 1; omega
      have hks : (S.extract q (q + 3)).size ≤ maxLen := by rw [ByteArray.size_extract]; unfold maxLen; omega
      have hTd := hT.keep (w' := w3.drew) (Ext.refl _ _).drew
      have next : ∀ wb wd L2, Ext (fun _ => False) w3 wb → Trl wd mb L2 S.data.toList (q + 1) → Ext (tOwn mb L') wb wd → (∀ j, tOwn mb L2 j → tOwn mb L' j ∨ wb.heap.size ≤ j) → ∃ n', n' < t - q ∧ ∃ (q_1 : Nat) (L_1 : MpL), IntKind.i64.wrap ((q : Int) + 1) = (q_1 : Int) ∧ p ≤ q_1 ∧ q_1 ≤ t ∧ n' = t - q_1 ∧ Trl wd mb L_1 S.data.toList q_1 ∧ Ext (tOwn mb L) w wd ∧ ∀ j, tOwn mb L_1 j → tOwn mb L j ∨ w.heap.size ≤ j := fun wb wd L2 e1 t1 e2 o2 => by
        have z1 := he.size
        have z2 := e1.size
        refine ⟨t - (q + 1), by omega, q + 1, L2, by rw [i64_id (by omega)]; rfl, by omega, by omega, rfl, t1, ?_, fun j hj => ?_⟩
        · refine (he.trans e1 (fun _ h => h) fun _ _ h => h.elim).trans e2 (fun _ h => h) fun j hj e => ?_
          rcases ho j e with e | e
          · exact e
          · omega
        · rcases o2 j hj with e | e
          · exact ho j e
          · exact .inr (by omega)
      refine ⟨by omega, by omega, by omega, by omega, by omega, by omega, by omega, by omega, ?_, ?_⟩
      · obtain ⟨sl, hrun, hrow, hown, hsep⟩ := hTd.look hks
        refine ⟨sl, _, hrun, Nw.of ?_⟩
        have e1 := (Ext.refl (fun _ => False) w3.drew).alloc (.cells #[.int .i64 (q : Int)] 3)
        obtain ⟨sl', wc, r1, wd, r2, L2, t1, e2, o2⟩ := (hTd.keep e1).push (by omega) (by omega) hkey hks (hrow.keep e1 fun _ _ h => h) hown hsep (Blk.new w3.drew _ _)
        exact ⟨sl', wc, r1, wd, r2, next _ wd L2 ((Ext.refl _ _).drew.tr e1) t1 e2 o2⟩
      · refine Nw.of ?_
        have e1 := (Ext.refl (fun _ => False) w3.drew).alloc (.cells #[.int .i64 (q : Int)] 3)
        obtain ⟨sl, hrun, hrow, hown, hsep⟩ := (hTd.keep e1).look hks
        refine ⟨sl, _, hrun, ?_⟩
        obtain ⟨sl', wc, r1, wd, r2, L2, t1, e2, o2⟩ := (hTd.keep e1).push (by omega) (by omega) hkey hks hrow hown hsep (Blk.new w3.drew _ _)
        exact ⟨sl', wc, r1, wd, r2, next _ wd L2 ((Ext.refl _ _).drew.tr e1) t1 e2 o2⟩
    · have := hT.stay (by omega) (t - q)
      rw [show q + (t - q) = t by omega] at this
      exact ⟨L', this, he, ho⟩
  · have : q = t := by omega
    subst this
    exact ⟨L', hT, he, ho⟩
end Inf
end Go.Proofs.YtjkoafjnmkchdaaDoor

/- Deflate: the greedy parse, both sides. Conditions: sizes. -/
namespace Go.Proofs.YtjkoafjnmkchdaaDoor
namespace Inf
open Sh Bit
set_option linter.unusedVariables false
set_option linter.unusedSimpArgs false
set_option maxRecDepth 4000
set_option maxHeartbeats 1000000
attribute [local irreducible] Ld St Nw Nn Lt LdS
/-- A part is appended. -/
theorem pushP {TS T : TypeId} {z : Value} (hel : El Tryd.prog TS T 3 24 z) {w : World} {sl : Slc} {D : List Qr} (hr : Row w sl T 3 (D.flatMap prow)) (hl : D.length ≤ 2000000) (q : Qr) {K : Slc → World → Prop}
    (k : ∀ s' w', Row w' s' T 3 ((D ++ [q]).flatMap prow) → Ext sl.own w w' → (∀ j, s'.own j → sl.own j ∨ w.heap.size ≤ j) → K s' w') :
    Nw w (.cells #[.int .u8 q.1, .int .i64 q.2.1, .int .i64 q.2.2] T) fun v => Rn Tryd.prog (Builtin.append_ #[TS, TS] TS #[Slc.v sl, Slc.v ((⟨some ⟨w.heap.size, 0, none⟩, 1, 1⟩ : Slc))]) v Slc.v K := by
  refine Nw.of ?_
  have e1 := (Ext.refl (fun _ => False) w).alloc (.cells #[.int .u8 q.1, .int .i64 q.2.1, .int .i64 q.2.2] T)
  have hsl : sl.len = D.length := by
    have := hr.1
    rw [p_len] at this
    omega
  obtain ⟨s', w', hrun, hrow, hlen, hext, hown⟩ := hel.app1 (ty := TS) (ys := prow q) (hr.keep e1 fun _ _ h => h) (Blk.new w _ _) rfl (fun v hv => p_one [q] v (by simpa using hv)) (by omega) (by omega)
  refine ⟨s', w', hrun, k s' w' ?_ ?_ fun j hj => (hown j hj).imp id fun h => Nat.le_trans e1.size h⟩
  · rw [List.flatMap_append]
    simpa using hrow
  · exact (e1.mono fun _ _ h => h.elim).trans hext (fun _ h => h) fun _ _ h => h
theorem row_pv {w : World} {sl : Slc} {T : TypeId} {D : List Qr} (hr : Row w sl T 3 (D.flatMap prow)) : PV w sl D := by
  refine ⟨?_, hr.view⟩
  have := hr.1
  rw [p_len] at this
  omega
/-- One step of the parse. -/
theorem parts_step (s : List UInt8) {p : Nat} (hp : p < s.length) : (((bst s p (farK p)).1 < 3) → partsF s (s.length - p) p = ⟨s.getD p 0, 0, 0⟩ :: partsF s (s.length - (p + 1)) (p + 1)) ∧
    (¬ ((bst s p (farK p)).1 < 3) → partsF s (s.length - p) p = ⟨0, (bst s p (farK p)).1, (bst s p (farK p)).2⟩ :: partsF s (s.length - (p + (bst s p (farK p)).1)) (p + (bst s p (farK p)).1)) ∧ p + (bst s p (farK p)).1 ≤ s.length := by
  have hle := bst_le s p (farK p)
  unfold mostK at hle
  have e : s.length - p = (s.length - (p + 1)) + 1 := by omega
  refine ⟨fun h => ?_, fun h => ?_, by omega⟩
  · rw [e]
    conv => lhs; unfold partsF
    rw [if_neg (by omega), if_pos h]
  · rw [e]
    conv => lhs; unfold partsF
    rw [if_neg (by omega), if_neg h]
    congr 1
    have := partsF_more s (s.length - (p + (bst s p (farK p)).1)) ((bst s p (farK p)).1 - 1) (p + (bst s p (farK p)).1) (by omega)
    rw [← this]
    congr 1
    omega
theorem c_Parts {S : ByteArray} (hs : S.size ≤ 1048576) (w : World) : C18 S w fun r w1 => PV w1 r ((partsS S.data.toList).map rawP) ∧ Ext (fun _ => False) w w1 := by
  have hsz : S.data.toList.length = S.size := (size_list S).symm
  refine T18 _ _ _ ?_
  unfold S18
  refine Br.dec (fun q => absurd q (by omega)) fun q => Nw.of ?_
  have e0 := (Ext.refl (fun _ => False) w).alloc (.map #[] 0)
  have T0 : Trl (w.alloc (.map #[] 0)) w.heap.size [] S.data.toList 0 := ⟨MpB.new w, (fun k v hk => by cases hk), fun k _ => rfl, fun k k' s1 s2 h => by cases h⟩
  refine ⟨fun m st w3 => ∃ (p : Nat) (L : MpL) (D : List Qr), st.2 = (p : Int) ∧ p ≤ S.size ∧ m = S.size - p ∧ D.length ≤ p ∧ Row w3 st.1 40 3 (D.flatMap prow) ∧ D ++ (partsF S.data.toList (S.data.toList.length - p) p).map rawP = (partsS S.data.toList).map rawP ∧
    Trl w3 w.heap.size L S.data.toList p ∧ Ext (fun _ => False) w w3 ∧ (∀ j, st.1.own j → w.heap.size ≤ j ∧ ¬ tOwn w.heap.size L j) ∧ ∀ j, tOwn w.heap.size L j → w.heap.size ≤ j, S.size,
    ⟨0, [], [], rfl, Nat.zero_le _, rfl, Nat.le_refl _, Row.nil _ _ _, rfl, T0, e0, (fun j hj => by obtain ⟨a, ha, _⟩ := hj; cases ha), fun j hj => by
      rcases hj with rfl | ⟨k, sl, hk, _⟩
      · exact Nat.le_refl _
      · cases hk⟩, ?_⟩
  rintro m ⟨sl, p'⟩ w3 ⟨p, L, D, hp', hp, rfl, hD, hr, hres, hT, he, ho, hto⟩
  simp only at hp' hr ho
  subst hp'
  unfold S18L1
  dsimp only
  refine Br.dec (fun q1 => ?_) fun q1 => ?_
  · have hp : p < S.size := by omega
    refine (c_copiedT hT hp hs).mono ?_
    rintro r w7 ⟨rfl, e7⟩
    dsimp only
    have hT := hT.keep e7
    have hr := hr.keep e7 fun _ _ h => h
    have he := he.tr e7
    obtain ⟨s1, s2, s3⟩ := parts_step S.data.toList (p := p) (by omega)
    refine (Hn.start w7).nw fun w8 H => ?_
    simp only [List.nil_append] at H
    iterate 3 (refine H.st 0 rfl (by simp) fun _ H => ?_; simp only [List.nil_append, List.cons_append, List.set_cons_zero, List.set_cons_succ, Nat.zero_add] at H)
    iterate 2 refine H.ld 0 rfl rfl ?_
    -- what follows the append
    have next : ∀ (pr : Prt) (n : Nat), partsF S.data.toList (S.data.toList.length - p) p = pr :: partsF S.data.toList (S.data.toList.length - (p + n)) (p + n) → 1 ≤ n → p + n ≤ S.size → ∀ w9, Ext (fun _ => False) w7 w9 → ∀ s' w', Row w' s' 40 3 ((D ++ [rawP pr]).flatMap prow) → Ext sl.own w9 w' → (∀ j, s'.own j → sl.own j ∨ w9.heap.size ≤ j) → ∀ x : Int, x = ((p + n : Nat) : Int) → C33 (some w.heap.size) S (p : Int) x w' fun w10 => ∃ n', n' < S.size - p ∧ ∃ (p_1 : Nat) (L : MpL) (D : List Qr), x = (p_1 : Int) ∧ p_1 ≤ S.size ∧ n' = S.size - p_1 ∧ D.length ≤ p_1 ∧ Row w10 s' 40 3 (D.flatMap prow) ∧ D ++ (partsF S.data.toList (S.data.toList.length - p_1) p_1).map rawP = (partsS S.data.toList).map rawP ∧
        Trl w10 w.heap.size L S.data.toList p_1 ∧ Ext (fun _ => False) w w10 ∧ (∀ j, s'.own j → w.heap.size ≤ j ∧ ¬ tOwn w.heap.size L j) ∧ ∀ j, tOwn w.heap.size L j → w.heap.size ≤ j := by
      rintro pr n hpr hn hpn w9 e9 s' w' hr' e10 o10 x rfl
      have hT9 := (hT.keep e9).keepF e10 fun j hj hj2 => (ho j hj2).2 hj
      refine (c_addT hT9 (by omega) hpn hs).mono ?_
      rintro w11 ⟨L', t1, e11, o11⟩
      have z9 := e9.size
      have z10 := e10.size
      have zz := he.size
      have hdis : ∀ j, s'.own j → ¬ tOwn w.heap.size L j := fun j hj hj2 => by
        rcases o10 j hj with e | e
        · exact (ho j e).2 hj2
        · have := hT.lt hj2
          omega
      refine ⟨S.size - (p + n), by omega, p + n, L', D ++ [rawP pr], rfl, hpn, rfl, by rw [List.length_append]; simp; omega, hr'.keep e11 fun j hj hj2 => hdis j hj hj2, ?_, t1, ?_, fun j hj => ⟨?_, fun hj2 => ?_⟩, fun j hj => ?_⟩
      · rw [hpr, List.map_cons] at hres
        rw [← hres, List.append_assoc]
        rfl
      · exact ((he.tr e9).trans e10 (fun _ h => h) fun j hj e => by have := (ho j e).1; omega).trans e11 (fun _ h => h) fun j hj e => by have := hto j e; omega
      · rcases o10 j hj with e | e
        · exact (ho j e).1
        · omega
      · rcases o11 j hj2 with e | e
        · exact hdis j hj e
        · have := hr'.own_lt hj
          omega
      · rcases o11 j hj with e | e
        · exact hto j e
        · omega
    have hx : ∀ (y : Nat), p + max y 1 ≤ S.size → IntKind.i64.wrap ((p : Int) + (if 1 > (y : Int) then 1 else (y : Int))) = ((p + max y 1 : Nat) : Int) := fun y hy => by
      rw [max1, i64_id (by omega)]
      omega
    by_cases hb : (bst S.data.toList p (farK p)).1 < 3
    · have hthr : thr (bst S.data.toList p (farK p)) = (0, 0) := by unfold thr; rw [if_pos hb]
      rw [hthr] at H ⊢
      dsimp only at H ⊢
      refine Br.eq (fun _ => ?_) fun h => absurd rfl h
      refine ⟨by omega, by omega, ?_⟩
      rw [bAt_list]
      iterate 1 (refine H.st 0 rfl (by simp) fun _ H => ?_; simp only [List.nil_append, List.cons_append, List.set_cons_zero, List.set_cons_succ, Nat.zero_add] at H)
      iterate 3 refine H.ld 0 rfl rfl ?_
      refine pushP elP (D := D) (hr.keep H.ext fun _ _ h => h) (by omega) (rawP ⟨S.data.toList.getD p 0, 0, 0⟩) fun s' w' r1 r2 r3 => ?_
      exact next ⟨S.data.toList.getD p 0, 0, 0⟩ 1 (s1 hb) (Nat.le_refl _) (by omega) _ H.ext s' w' r1 r2 r3 _ (hx 0 (by omega))
    · have hthr : thr (bst S.data.toList p (farK p)) = bst S.data.toList p (farK p) := by unfold thr; rw [if_neg hb]
      rw [hthr] at H ⊢
      refine Br.eq (fun h => absurd h (by omega)) fun _ => ?_
      iterate 3 refine H.ld 0 rfl rfl ?_
      refine pushP elP (D := D) (hr.keep H.ext fun _ _ h => h) (by omega) (rawP ⟨0, (bst S.data.toList p (farK p)).1, (bst S.data.toList p (farK p)).2⟩) fun s' w' r1 r2 r3 => ?_
      refine next ⟨0, (bst S.data.toList p (farK p)).1, (bst S.data.toList p (farK p)).2⟩ _ (s2 hb) (by omega) (by omega) _ H.ext s' w' r1 r2 r3 _ ?_
      rw [hx _ (by omega)]
      omega
  · have : p = S.size := by omega
    subst this
    rw [hsz, Nat.sub_self] at hres
    have hres : D ++ [] = _ := hres
    rw [List.append_nil] at hres
    rw [← hres]
    exact ⟨row_pv hr, he⟩
/-! ### The reference's -/
end Inf
end Go.Proofs.YtjkoafjnmkchdaaDoor

/- The copy of a string: what it is said to be. No condition. -/
namespace Go.Proofs.YtjkoafjnmkchdaaDoor
open Sh
set_option linter.unusedVariables false
def C49 (s1 : ByteArray) (w : World) (R : ByteArray → World → Prop) : Prop :=
  Calls Tryd.prog 49 #[.string s1] w fun e w' => ∃ r0 : ByteArray, e = .returned (.string r0) ∧ R r0 w'
theorem C49.mono {s1 : ByteArray} {w : World} {R R' : ByteArray → World → Prop} (h : C49 s1 w R) (hr : ∀ r0 w', R r0 w' → R' r0 w') : C49 s1 w R' :=
  Calls.mono h fun _ _ ⟨r0, he, hR⟩ => ⟨r0, he, hr _ _ hR⟩
end Go.Proofs.YtjkoafjnmkchdaaDoor

/- The formulas of 9 functions of the program, written by program (gen.py); the kernel checks each. No condition. -/
namespace Go.Proofs.YtjkoafjnmkchdaaDoor
open Sh
set_option linter.unusedVariables false
set_option maxRecDepth 100000

def C42 (p1 : Option Addr × Option Addr) (vw2 : Option Addr) (l3 : Slc) (w : World) (R : World → Prop) : Prop :=
  Calls Tryd.prog 42 #[.agg #[.pointer p1.1, .pointer p1.2], .pointer vw2, Slc.v l3] w fun e w' => e = .returned (.tuple #[]) ∧ R w'
theorem C42.mono {p1 : Option Addr × Option Addr} {vw2 : Option Addr} {l3 : Slc} {w : World} {R R' : World → Prop} (h : C42 p1 vw2 l3 w R) (hr : ∀ w', R w' → R' w') : C42 p1 vw2 l3 w R' :=
  Calls.mono h fun _ _ ⟨he, hR⟩ => ⟨he, hr _ hR⟩
def C23 (l1 : Slc) (w : World) (R : ByteArray → World → Prop) (PR : Value → World → Prop) : Prop :=
  Calls Tryd.prog 23 #[Slc.v l1] w fun e w' => (∃ r0 : ByteArray, e = .returned (.string r0) ∧ R r0 w') ∨ ∃ v, e = .panicked (onePanic v) ∧ PR v w'
theorem C23.mono {l1 : Slc} {w : World} {R R' : ByteArray → World → Prop} {PR PR' : Value → World → Prop} (h : C23 l1 w R PR) (hr : ∀ r0 w', R r0 w' → R' r0 w') (hp : ∀ v w', PR v w' → PR' v w') : C23 l1 w R' PR' :=
  Calls.mono h fun _ _ he => he.elim (fun ⟨r0, he, hR⟩ => .inl ⟨r0, he, hr _ _ hR⟩) fun ⟨v, he, hP⟩ => .inr ⟨v, he, hp _ _ hP⟩
def C43 (l1 : Slc) (w : World) (R : Slc → Slc → World → Prop) : Prop :=
  Calls Tryd.prog 43 #[Slc.v l1] w fun e w' => ∃ r0 : Slc, ∃ r1 : Slc, e = .returned (.tuple #[Slc.v r0, Slc.v r1]) ∧ R r0 r1 w'
theorem C43.mono {l1 : Slc} {w : World} {R R' : Slc → Slc → World → Prop} (h : C43 l1 w R) (hr : ∀ r0 r1 w', R r0 r1 w' → R' r0 r1 w') : C43 l1 w R' :=
  Calls.mono h fun _ _ ⟨r0, r1, he, hR⟩ => ⟨r0, r1, he, hr _ _ _ hR⟩
def C45 (l1 : Slc) (keep2 : Int) (w : World) (R : Slc → World → Prop) : Prop :=
  Calls Tryd.prog 45 #[Slc.v l1, .int .i64 keep2] w fun e w' => ∃ r0 : Slc, e = .returned (Slc.v r0) ∧ R r0 w'
theorem C45.mono {l1 : Slc} {keep2 : Int} {w : World} {R R' : Slc → World → Prop} (h : C45 l1 keep2 w R) (hr : ∀ r0 w', R r0 w' → R' r0 w') : C45 l1 keep2 w R' :=
  Calls.mono h fun _ _ ⟨r0, he, hR⟩ => ⟨r0, he, hr _ _ hR⟩
def C46 (l1 : Slc) (w : World) (R : Slc → World → Prop) : Prop :=
  Calls Tryd.prog 46 #[Slc.v l1] w fun e w' => ∃ r0 : Slc, e = .returned (Slc.v r0) ∧ R r0 w'
theorem C46.mono {l1 : Slc} {w : World} {R R' : Slc → World → Prop} (h : C46 l1 w R) (hr : ∀ r0 w', R r0 w' → R' r0 w') : C46 l1 w R' :=
  Calls.mono h fun _ _ ⟨r0, he, hR⟩ => ⟨r0, he, hr _ _ hR⟩
def C47 (w : World) (R : (Int × Int × Int × Int × Int × Int × Int × Int × Int × Int × Int × Int × Int × Int × Int × Int × Int × Int × Int) → World → Prop) : Prop :=
  Calls Tryd.prog 47 #[] w fun e w' => ∃ r0 : Int × Int × Int × Int × Int × Int × Int × Int × Int × Int × Int × Int × Int × Int × Int × Int × Int × Int × Int, e = .returned (.agg #[.int .i64 (r0.1), .int .i64 (r0.2.1), .int .i64 (r0.2.2.1), .int .i64 (r0.2.2.2.1), .int .i64 (r0.2.2.2.2.1), .int .i64 (r0.2.2.2.2.2.1), .int .i64 (r0.2.2.2.2.2.2.1), .int .i64 (r0.2.2.2.2.2.2.2.1), .int .i64 (r0.2.2.2.2.2.2.2.2.1), .int .i64 (r0.2.2.2.2.2.2.2.2.2.1), .int .i64 (r0.2.2.2.2.2.2.2.2.2.2.1), .int .i64 (r0.2.2.2.2.2.2.2.2.2.2.2.1), .int .i64 (r0.2.2.2.2.2.2.2.2.2.2.2.2.1), .int .i64 (r0.2.2.2.2.2.2.2.2.2.2.2.2.2.1), .int .i64 (r0.2.2.2.2.2.2.2.2.2.2.2.2.2.2.1), .int .i64 (r0.2.2.2.2.2.2.2.2.2.2.2.2.2.2.2.1), .int .i64 (r0.2.2.2.2.2.2.2.2.2.2.2.2.2.2.2.2.1), .int .i64 (r0.2.2.2.2.2.2.2.2.2.2.2.2.2.2.2.2.2.1), .int .i64 (r0.2.2.2.2.2.2.2.2.2.2.2.2.2.2.2.2.2.2)]) ∧ R r0 w'
theorem C47.mono {w : World} {R R' : (Int × Int × Int × Int × Int × Int × Int × Int × Int × Int × Int × Int × Int × Int × Int × Int × Int × Int × Int) → World → Prop} (h : C47 w R) (hr : ∀ r0 w', R r0 w' → R' r0 w') : C47 w R' :=
  Calls.mono h fun _ _ ⟨r0, he, hR⟩ => ⟨r0, he, hr _ _ hR⟩
def C24 (l1 : Slc) (w : World) (R : ByteArray → World → Prop) (PR : Value → World → Prop) : Prop :=
  Calls Tryd.prog 24 #[Slc.v l1] w fun e w' => (∃ r0 : ByteArray, e = .returned (.string r0) ∧ R r0 w') ∨ ∃ v, e = .panicked (onePanic v) ∧ PR v w'
theorem C24.mono {l1 : Slc} {w : World} {R R' : ByteArray → World → Prop} {PR PR' : Value → World → Prop} (h : C24 l1 w R PR) (hr : ∀ r0 w', R r0 w' → R' r0 w') (hp : ∀ v w', PR v w' → PR' v w') : C24 l1 w R' PR' :=
  Calls.mono h fun _ _ he => he.elim (fun ⟨r0, he, hR⟩ => .inl ⟨r0, he, hr _ _ hR⟩) fun ⟨v, he, hP⟩ => .inr ⟨v, he, hp _ _ hP⟩
def C25 (s1 : ByteArray) (w : World) (R : ByteArray → World → Prop) : Prop :=
  Calls Tryd.prog 25 #[.string s1] w fun e w' => ∃ r0 : ByteArray, e = .returned (.string r0) ∧ R r0 w'
theorem C25.mono {s1 : ByteArray} {w : World} {R R' : ByteArray → World → Prop} (h : C25 s1 w R) (hr : ∀ r0 w', R r0 w' → R' r0 w') : C25 s1 w R' :=
  Calls.mono h fun _ _ ⟨r0, he, hR⟩ => ⟨r0, he, hr _ _ hR⟩
def C14 (s1 : ByteArray) (level2 : Int) (w : World) (R : ByteArray → Int → World → Prop) (PR : Value → World → Prop) : Prop :=
  Calls Tryd.prog 14 #[.string s1, .int .i64 level2] w fun e w' => (∃ r0 : ByteArray, ∃ r1 : Int, e = .returned (.tuple #[.string r0, .int .i64 r1]) ∧ R r0 r1 w') ∨ ∃ v, e = .panicked (onePanic v) ∧ PR v w'
theorem C14.mono {s1 : ByteArray} {level2 : Int} {w : World} {R R' : ByteArray → Int → World → Prop} {PR PR' : Value → World → Prop} (h : C14 s1 level2 w R PR) (hr : ∀ r0 r1 w', R r0 r1 w' → R' r0 r1 w') (hp : ∀ v w', PR v w' → PR' v w') : C14 s1 level2 w R' PR' :=
  Calls.mono h fun _ _ he => he.elim (fun ⟨r0, r1, he, hR⟩ => .inl ⟨r0, r1, he, hr _ _ _ hR⟩) fun ⟨v, he, hP⟩ => .inr ⟨v, he, hp _ _ hP⟩

def S42L1 (w : World) (vw2 : Option Addr) (l3 : Slc) (R : World → Prop) (I7 : Int → World → Prop) (s5 : Int) (vw6 : World) : Prop :=
  Br (decide (s5 < ((l3.len : Nat) : Int))) (0 ≤ s5 ∧ s5 < (l3.len : Nat) ∧ Nn l3.p fun a8 =>
    Ld vw6 (a8.add ((s5).toNat * 3)) (Value.int .u8) fun (x9 : Int) =>
    Ld vw6 ((a8.add ((s5).toNat * 3)).add 1) (Value.int .i64) fun (x10 : Int) =>
    Ld vw6 ((a8.add ((s5).toNat * 3)).add 2) (Value.int .i64) fun (x11 : Int) =>
    Nw vw6 (.cells #[.int .u8 0, .int .i64 0, .int .i64 0] 40) fun vw12 =>
    St vw12 (⟨vw6.heap.size, 0, none⟩ : Addr) (.int .u8 x9) fun vw13 =>
    St vw13 ((⟨vw6.heap.size, 0, none⟩ : Addr).add 1) (.int .i64 x10) fun vw14 =>
    St vw14 ((⟨vw6.heap.size, 0, none⟩ : Addr).add 2) (.int .i64 x11) fun vw15 =>
    Ld vw15 ((⟨vw6.heap.size, 0, none⟩ : Addr).add 1) (Value.int .i64) fun (x21 : Int) =>
    Br (x21 == 0) (Ld vw15 (⟨w.heap.size, 0, none⟩ : Addr) Value.pointer fun (x22 : Option Addr) =>
      Ld vw15 (⟨vw6.heap.size, 0, none⟩ : Addr) (Value.int .u8) fun (x23 : Int) =>
      C48 x22 vw2 (IntKind.i64.wrap x23) vw15 fun r24 vw25 =>
        I7 (IntKind.i64.wrap (s5 + 1)) vw25) (Ld vw15 ((⟨vw6.heap.size, 0, none⟩ : Addr).add 1) (Value.int .i64) fun (x26 : Int) =>
      C62 x26 vw15 fun r27 r28 r29 r30 vw31 =>
        Ld vw31 (⟨w.heap.size, 0, none⟩ : Addr) Value.pointer fun (x32 : Option Addr) =>
        C48 x32 vw2 r27 vw31 fun r33 vw34 =>
          C36 vw2 r28 r29 vw34 fun r35 vw36 =>
            Ld vw36 ((⟨vw6.heap.size, 0, none⟩ : Addr).add 2) (Value.int .i64) fun (x37 : Int) =>
            C63 x37 vw36 fun r38 r39 r40 r41 vw42 =>
              Ld vw42 ((⟨w.heap.size, 0, none⟩ : Addr).add 1) Value.pointer fun (x43 : Option Addr) =>
              C48 x43 vw2 r38 vw42 fun r44 vw45 =>
                C36 vw2 r39 r40 vw45 fun r46 vw47 =>
                  I7 (IntKind.i64.wrap (s5 + 1)) vw47)) (Ld vw6 (⟨w.heap.size, 0, none⟩ : Addr) Value.pointer fun (x48 : Option Addr) =>
    C48 x48 vw2 256 vw6 fun r49 vw50 =>
      R vw50)
/-- (foliant/deflate.pair).write -/
def S42 (p1 : Option Addr × Option Addr) (vw2 : Option Addr) (l3 : Slc) (w : World) (R : World → Prop) : Prop :=
  Nw w (.cells #[.pointer p1.1, .pointer p1.2] 74) fun vw4 =>
  Lp (σ := Int) (S42L1 w vw2 l3 R) 0 vw4
def pl42 : Plan := (.seq (.reg .seq) (.seq (.seq (.reg .seq) (.block (.loop [(14, (.one (.int .i64)))] [1, 3, 12, 13] (.seq (.reg .seq) (.seq (.cond .leaf .leaf) (.seq (.block (.seq (.reg .seq) (.seq (.seq (.reg .seq) (.cond (.seq (.reg .seq) .leaf) .leaf)) (.seq (.reg .seq) (.seq (.reg .seq) (.seq (.reg .seq) (.seq (.reg .seq) (.seq (.reg .seq) (.reg .seq))))))))) (.reg .seq))))))) (.reg .seq)))
set_option maxRecDepth 100000 in
theorem T42 (p1 : Option Addr × Option Addr) (vw2 : Option Addr) (l3 : Slc) (w : World) (R : World → Prop) (h : S42 p1 vw2 l3 w R) : C42 (p1.1, p1.2) vw2 l3 w R := by
  have e : fnT Tryd.prog ⟨FF, MAY, (fun _ _ => False)⟩ pl42 Tryd.f42 [.agg #[.pointer p1.1, .pointer p1.2], .pointer vw2, Slc.v l3] w [] (fun _ w => R w) = S42 p1 vw2 l3 w R := by kernel_rfl
  exact (fn_calls okF okM Tryd.func42 (by kernel_rfl) (by kernel_rfl) (e.mpr h)).mono fun _ _ ⟨_, he, hR⟩ => ⟨he, hR⟩

/-- foliant/deflate.fixed -/
def S23 (l1 : Slc) (w : World) (R : ByteArray → World → Prop) (PR : Value → World → Prop) : Prop :=
  C40 w (fun r2 r3 vw4 =>
    Nw vw4 (.cells #[.pointer none, .pointer none] 74) fun vw5 =>
    C41 r2 vw5 fun r6 r7 vw8 =>
      St vw8 (⟨vw4.heap.size, 0, none⟩ : Addr) (.pointer r6) fun vw9 =>
      C41 r3 vw9 fun r10 r11 vw12 =>
        St vw12 ((⟨vw4.heap.size, 0, none⟩ : Addr).add 1) (.pointer r10) fun vw13 =>
        C35 vw13 fun r14 vw15 =>
          C36 r14 1 1 vw15 fun r16 vw17 =>
            C36 r14 1 2 vw17 fun r18 vw19 =>
              Ld vw19 (⟨vw4.heap.size, 0, none⟩ : Addr) Value.pointer fun (x20 : Option Addr) =>
              Ld vw19 ((⟨vw4.heap.size, 0, none⟩ : Addr).add 1) Value.pointer fun (x21 : Option Addr) =>
              C42 (x20, x21) r14 l1 vw19 fun vw22 =>
                C39 r14 vw22 fun r23 vw24 =>
                  R r23 vw24) PR
def pl23 : Plan := (.seq (.reg .seq) (.seq (.reg .seq) (.seq (.reg .seq) (.seq (.reg .seq) (.seq (.reg .seq) (.seq (.reg .seq) (.seq (.reg .seq) (.seq (.reg .seq) (.seq (.reg .seq) (.seq (.reg .seq) .leaf))))))))))
set_option maxRecDepth 100000 in
theorem T23 (l1 : Slc) (w : World) (R : ByteArray → World → Prop) (PR : Value → World → Prop) (h : S23 l1 w R PR) : C23 l1 w R PR := by
  have e : fnT Tryd.prog ⟨FF, MAY, PR⟩ pl23 Tryd.f23 [Slc.v l1] w [(.one .str)] (fun s w => R s w) = S23 l1 w R PR := by kernel_rfl
  exact (fn_callsP okF okM Tryd.func23 (by kernel_rfl) (by kernel_rfl) (e.mpr h)).mono fun _ _ he => he.elim (fun ⟨s, he, hR⟩ => .inl ⟨s, he, hR⟩) .inr

def S43L1 (l1 : Slc) (s10 : Slc × Slc) (R : Slc → Slc → World → Prop) (I16 : Int → World → Prop) (s14 : Int) (vw15 : World) : Prop :=
  Br (decide (s14 < ((l1.len : Nat) : Int))) (0 ≤ s14 ∧ s14 < (l1.len : Nat) ∧ Nn l1.p fun a17 =>
    Ld vw15 (a17.add ((s14).toNat * 3)) (Value.int .u8) fun (x18 : Int) =>
    Ld vw15 ((a17.add ((s14).toNat * 3)).add 1) (Value.int .i64) fun (x19 : Int) =>
    Ld vw15 ((a17.add ((s14).toNat * 3)).add 2) (Value.int .i64) fun (x20 : Int) =>
    Nw vw15 (.cells #[.int .u8 0, .int .i64 0, .int .i64 0] 40) fun vw21 =>
    St vw21 (⟨vw15.heap.size, 0, none⟩ : Addr) (.int .u8 x18) fun vw22 =>
    St vw22 ((⟨vw15.heap.size, 0, none⟩ : Addr).add 1) (.int .i64 x19) fun vw23 =>
    St vw23 ((⟨vw15.heap.size, 0, none⟩ : Addr).add 2) (.int .i64 x20) fun vw24 =>
    Ld vw24 ((⟨vw15.heap.size, 0, none⟩ : Addr).add 1) (Value.int .i64) fun (x31 : Int) =>
    Br (x31 == 0) (Ld vw24 (⟨vw15.heap.size, 0, none⟩ : Addr) (Value.int .u8) fun (x32 : Int) =>
      0 ≤ x32 ∧ x32 < (s10.1.len : Nat) ∧ Nn s10.1.p fun a33 =>
      Ld vw24 (a33.add ((x32).toNat * 1)) (Value.int .i64) fun (x34 : Int) =>
      0 ≤ x32 ∧ x32 < (s10.1.len : Nat) ∧ Nn s10.1.p fun a35 =>
      St vw24 (a35.add ((x32).toNat * 1)) (.int .i64 (IntKind.i64.wrap (x34 + 1))) fun vw36 =>
      I16 (IntKind.i64.wrap (s14 + 1)) vw36) (Ld vw24 ((⟨vw15.heap.size, 0, none⟩ : Addr).add 1) (Value.int .i64) fun (x37 : Int) =>
      C62 x37 vw24 fun r38 r39 r40 r41 vw42 =>
        Ld vw42 ((⟨vw15.heap.size, 0, none⟩ : Addr).add 2) (Value.int .i64) fun (x43 : Int) =>
        C63 x43 vw42 fun r44 r45 r46 r47 vw48 =>
          0 ≤ r38 ∧ r38 < (s10.1.len : Nat) ∧ Nn s10.1.p fun a49 =>
          Ld vw48 (a49.add ((r38).toNat * 1)) (Value.int .i64) fun (x50 : Int) =>
          0 ≤ r38 ∧ r38 < (s10.1.len : Nat) ∧ Nn s10.1.p fun a51 =>
          St vw48 (a51.add ((r38).toNat * 1)) (.int .i64 (IntKind.i64.wrap (x50 + 1))) fun vw52 =>
          0 ≤ r44 ∧ r44 < (s10.2.len : Nat) ∧ Nn s10.2.p fun a53 =>
          Ld vw52 (a53.add ((r44).toNat * 1)) (Value.int .i64) fun (x54 : Int) =>
          0 ≤ r44 ∧ r44 < (s10.2.len : Nat) ∧ Nn s10.2.p fun a55 =>
          St vw52 (a55.add ((r44).toNat * 1)) (.int .i64 (IntKind.i64.wrap (x54 + 1))) fun vw56 =>
          I16 (IntKind.i64.wrap (s14 + 1)) vw56)) (R s10.1 s10.2 vw15)
def S43J1 (l1 : Slc) (R : Slc → Slc → World → Prop) (s10 : Slc × Slc) (vw11 : World) : Prop :=
  0 ≤ (256 : Int) ∧ (256 : Int) < (s10.1.len : Nat) ∧ Nn s10.1.p fun a12 =>
  St vw11 (a12.add (((256 : Int)).toNat * 1)) (.int .i64 1) fun vw13 =>
  Lp (σ := Int) (S43L1 l1 s10 R) 0 vw13
/-- foliant/deflate.counted -/
def S43 (l1 : Slc) (w : World) (R : Slc → Slc → World → Prop) : Prop :=
  Join (S43J1 l1 R) fun (vJ57 : (Slc × Slc) → World → Prop) =>
    (Rn Tryd.prog (Instr.makeSlice 69 (.int .i64 286) (.int .i64 286)) w.drew Slc.v fun (x58 : Slc) vw59 =>
      Rn Tryd.prog (Instr.makeSlice 69 (.int .i64 30) (.int .i64 30)) vw59 Slc.v fun (x60 : Slc) vw61 =>
      vJ57 (x58, x60) vw61) ∧
    (Rn Tryd.prog (Instr.makeSlice 69 (.int .i64 30) (.int .i64 30)) w.drew Slc.v fun (x62 : Slc) vw63 =>
      Rn Tryd.prog (Instr.makeSlice 69 (.int .i64 286) (.int .i64 286)) vw63 Slc.v fun (x64 : Slc) vw65 =>
      vJ57 (x64, x62) vw65)
def pl43 : Plan := (.seq (.reg .seq) (.join [(2, (.one .slc)), (3, (.one .slc))] [0] (.reg (.held [0, 1] (.effs 0 (some [1]) (.take 2 (.eff 1 (some []) (.take 3 .done))) (.eff 1 (some [0]) (.eff 0 (some []) (.take 2 (.take 3 .done))))))) (.seq (.reg .seq) (.seq (.seq (.reg .seq) (.block (.loop [(20, (.one (.int .i64)))] [2, 3, 18, 19] (.seq (.reg .seq) (.seq (.cond .leaf .leaf) (.seq (.block (.seq (.reg .seq) (.seq (.seq (.reg .seq) (.cond (.seq (.reg .seq) .leaf) .leaf)) (.seq (.reg .seq) (.seq (.reg .seq) (.seq (.reg .seq) (.reg .seq))))))) (.reg .seq))))))) (.seq (.reg .seq) .leaf)))))
set_option maxRecDepth 100000 in
theorem T43 (l1 : Slc) (w : World) (R : Slc → Slc → World → Prop) (h : S43 l1 w R) : C43 l1 w R := by
  have e : fnT Tryd.prog ⟨FF, MAY, (fun _ _ => False)⟩ pl43 Tryd.f43 [Slc.v l1] w [(.one .slc), (.one .slc)] (fun s w => R s.1 s.2 w) = S43 l1 w R := by kernel_rfl
  exact (fn_calls okF okM Tryd.func43 (by kernel_rfl) (by kernel_rfl) (e.mpr h)).mono fun _ _ ⟨s, he, hR⟩ => ⟨s.1, s.2, he, hR⟩

def S45L1 (l1 : Slc) (keep2 : Int) (R : Slc → World → Prop) (I5 : Int → World → Prop) (s3 : Int) (vw4 : World) : Prop :=
  Br (decide (s3 > keep2)) (0 ≤ (IntKind.i64.wrap (s3 - 1)) ∧ (IntKind.i64.wrap (s3 - 1)) < (l1.len : Nat) ∧ Nn l1.p fun a6 =>
    Ld vw4 (a6.add ((IntKind.i64.wrap (s3 - 1)).toNat * 1)) (Value.int .i64) fun (x7 : Int) =>
    Br (x7 == 0) (I5 (IntKind.i64.wrap (s3 - 1)) vw4) (0 ≤ s3 ∧ s3 ≤ ((l1.cap : Nat) : Int) ∧ R (l1.cut 1 0 ((s3).toNat) l1.cap) vw4)) (0 ≤ s3 ∧ s3 ≤ ((l1.cap : Nat) : Int) ∧ R (l1.cut 1 0 ((s3).toNat) l1.cap) vw4)
/-- foliant/deflate.cut -/
def S45 (l1 : Slc) (keep2 : Int) (w : World) (R : Slc → World → Prop) : Prop :=
  Lp (σ := Int) (S45L1 l1 keep2 R) ((l1.len : Nat) : Int) w
def pl45 : Plan := (.seq (.reg .seq) (.seq (.reg .seq) (.seq (.block (.loop [(5, (.one (.int .i64)))] [0, 1] (.seq (.seq (.reg .seq) (.cond .leaf .leaf)) (.block (.reg .seq))))) (.seq (.reg .seq) .leaf))))
set_option maxRecDepth 100000 in
theorem T45 (l1 : Slc) (keep2 : Int) (w : World) (R : Slc → World → Prop) (h : S45 l1 keep2 w R) : C45 l1 keep2 w R := by
  have e : fnT Tryd.prog ⟨FF, MAY, (fun _ _ => False)⟩ pl45 Tryd.f45 [Slc.v l1, .int .i64 keep2] w [(.one .slc)] (fun s w => R s w) = S45 l1 keep2 w R := by kernel_rfl
  exact (fn_calls okF okM Tryd.func45 (by kernel_rfl) (by kernel_rfl) (e.mpr h)).mono fun _ _ ⟨s, he, hR⟩ => ⟨s, he, hR⟩

def S46J1 (l1 : Slc) (s2 : Slc × Int) (I4 : (Slc × Int) → World → Prop) (s12 : Int) (vw13 : World) : Prop :=
  0 ≤ s2.2 ∧ s2.2 < (l1.len : Nat) ∧ Nn l1.p fun a14 =>
  Ld vw13 (a14.add ((s2.2).toNat * 1)) (Value.int .i64) fun (x15 : Int) =>
  Br (x15 == 0) (Br (decide (s12 ≥ 11)) (Nw vw13 (.cells #[.int .i64 18, .int .i64 (IntKind.i64.wrap ((if 138 < s12 then 138 else s12) - 11)), .int .i64 7] 85) fun vw16 =>
      Rn Tryd.prog (Builtin.append_ #[82, 82] 82 #[Slc.v s2.1, Slc.v ((⟨some ⟨vw13.heap.size, 0, none⟩, 1, 1⟩ : Slc))]) vw16 Slc.v fun (x17 : Slc) vw18 =>
      I4 (x17, IntKind.i64.wrap (s2.2 + (if 138 < s12 then 138 else s12))) vw18) (0 ≤ s2.2 ∧ s2.2 < (l1.len : Nat) ∧ Nn l1.p fun a19 =>
      Ld vw13 (a19.add ((s2.2).toNat * 1)) (Value.int .i64) fun (x20 : Int) =>
      Br (x20 == 0) (Br (decide (s12 ≥ 3)) (Nw vw13 (.cells #[.int .i64 17, .int .i64 (IntKind.i64.wrap (s12 - 3)), .int .i64 3] 85) fun vw21 =>
          Rn Tryd.prog (Builtin.append_ #[82, 82] 82 #[Slc.v s2.1, Slc.v ((⟨some ⟨vw13.heap.size, 0, none⟩, 1, 1⟩ : Slc))]) vw21 Slc.v fun (x22 : Slc) vw23 =>
          I4 (x22, IntKind.i64.wrap (s2.2 + s12)) vw23) (Br (decide (s12 ≥ 4)) (0 ≤ s2.2 ∧ s2.2 < (l1.len : Nat) ∧ Nn l1.p fun a24 =>
            Ld vw13 (a24.add ((s2.2).toNat * 1)) (Value.int .i64) fun (x25 : Int) =>
            Nw vw13 (.cells #[.int .i64 x25, .int .i64 0, .int .i64 0, .int .i64 16, .int .i64 (IntKind.i64.wrap ((if 7 < s12 then 7 else s12) - 4)), .int .i64 2] 85) fun vw26 =>
            Rn Tryd.prog (Builtin.append_ #[82, 82] 82 #[Slc.v s2.1, Slc.v ((⟨some ⟨vw13.heap.size, 0, none⟩, 2, 2⟩ : Slc))]) vw26 Slc.v fun (x27 : Slc) vw28 =>
            I4 (x27, IntKind.i64.wrap (s2.2 + (if 7 < s12 then 7 else s12))) vw28) (0 ≤ s2.2 ∧ s2.2 < (l1.len : Nat) ∧ Nn l1.p fun a29 =>
            Ld vw13 (a29.add ((s2.2).toNat * 1)) (Value.int .i64) fun (x30 : Int) =>
            Nw vw13 (.cells #[.int .i64 x30, .int .i64 0, .int .i64 0] 85) fun vw31 =>
            Rn Tryd.prog (Builtin.append_ #[82, 82] 82 #[Slc.v s2.1, Slc.v ((⟨some ⟨vw13.heap.size, 0, none⟩, 1, 1⟩ : Slc))]) vw31 Slc.v fun (x32 : Slc) vw33 =>
            I4 (x32, IntKind.i64.wrap (s2.2 + 1)) vw33))) (Br (decide (s12 ≥ 4)) (0 ≤ s2.2 ∧ s2.2 < (l1.len : Nat) ∧ Nn l1.p fun a34 =>
          Ld vw13 (a34.add ((s2.2).toNat * 1)) (Value.int .i64) fun (x35 : Int) =>
          Nw vw13 (.cells #[.int .i64 x35, .int .i64 0, .int .i64 0, .int .i64 16, .int .i64 (IntKind.i64.wrap ((if 7 < s12 then 7 else s12) - 4)), .int .i64 2] 85) fun vw36 =>
          Rn Tryd.prog (Builtin.append_ #[82, 82] 82 #[Slc.v s2.1, Slc.v ((⟨some ⟨vw13.heap.size, 0, none⟩, 2, 2⟩ : Slc))]) vw36 Slc.v fun (x37 : Slc) vw38 =>
          I4 (x37, IntKind.i64.wrap (s2.2 + (if 7 < s12 then 7 else s12))) vw38) (0 ≤ s2.2 ∧ s2.2 < (l1.len : Nat) ∧ Nn l1.p fun a39 =>
          Ld vw13 (a39.add ((s2.2).toNat * 1)) (Value.int .i64) fun (x40 : Int) =>
          Nw vw13 (.cells #[.int .i64 x40, .int .i64 0, .int .i64 0] 85) fun vw41 =>
          Rn Tryd.prog (Builtin.append_ #[82, 82] 82 #[Slc.v s2.1, Slc.v ((⟨some ⟨vw13.heap.size, 0, none⟩, 1, 1⟩ : Slc))]) vw41 Slc.v fun (x42 : Slc) vw43 =>
          I4 (x42, IntKind.i64.wrap (s2.2 + 1)) vw43)))) (0 ≤ s2.2 ∧ s2.2 < (l1.len : Nat) ∧ Nn l1.p fun a44 =>
    Ld vw13 (a44.add ((s2.2).toNat * 1)) (Value.int .i64) fun (x45 : Int) =>
    Br (x45 == 0) (Br (decide (s12 ≥ 3)) (Nw vw13 (.cells #[.int .i64 17, .int .i64 (IntKind.i64.wrap (s12 - 3)), .int .i64 3] 85) fun vw46 =>
        Rn Tryd.prog (Builtin.append_ #[82, 82] 82 #[Slc.v s2.1, Slc.v ((⟨some ⟨vw13.heap.size, 0, none⟩, 1, 1⟩ : Slc))]) vw46 Slc.v fun (x47 : Slc) vw48 =>
        I4 (x47, IntKind.i64.wrap (s2.2 + s12)) vw48) (Br (decide (s12 ≥ 4)) (0 ≤ s2.2 ∧ s2.2 < (l1.len : Nat) ∧ Nn l1.p fun a49 =>
          Ld vw13 (a49.add ((s2.2).toNat * 1)) (Value.int .i64) fun (x50 : Int) =>
          Nw vw13 (.cells #[.int .i64 x50, .int .i64 0, .int .i64 0, .int .i64 16, .int .i64 (IntKind.i64.wrap ((if 7 < s12 then 7 else s12) - 4)), .int .i64 2] 85) fun vw51 =>
          Rn Tryd.prog (Builtin.append_ #[82, 82] 82 #[Slc.v s2.1, Slc.v ((⟨some ⟨vw13.heap.size, 0, none⟩, 2, 2⟩ : Slc))]) vw51 Slc.v fun (x52 : Slc) vw53 =>
          I4 (x52, IntKind.i64.wrap (s2.2 + (if 7 < s12 then 7 else s12))) vw53) (0 ≤ s2.2 ∧ s2.2 < (l1.len : Nat) ∧ Nn l1.p fun a54 =>
          Ld vw13 (a54.add ((s2.2).toNat * 1)) (Value.int .i64) fun (x55 : Int) =>
          Nw vw13 (.cells #[.int .i64 x55, .int .i64 0, .int .i64 0] 85) fun vw56 =>
          Rn Tryd.prog (Builtin.append_ #[82, 82] 82 #[Slc.v s2.1, Slc.v ((⟨some ⟨vw13.heap.size, 0, none⟩, 1, 1⟩ : Slc))]) vw56 Slc.v fun (x57 : Slc) vw58 =>
          I4 (x57, IntKind.i64.wrap (s2.2 + 1)) vw58))) (Br (decide (s12 ≥ 4)) (0 ≤ s2.2 ∧ s2.2 < (l1.len : Nat) ∧ Nn l1.p fun a59 =>
        Ld vw13 (a59.add ((s2.2).toNat * 1)) (Value.int .i64) fun (x60 : Int) =>
        Nw vw13 (.cells #[.int .i64 x60, .int .i64 0, .int .i64 0, .int .i64 16, .int .i64 (IntKind.i64.wrap ((if 7 < s12 then 7 else s12) - 4)), .int .i64 2] 85) fun vw61 =>
        Rn Tryd.prog (Builtin.append_ #[82, 82] 82 #[Slc.v s2.1, Slc.v ((⟨some ⟨vw13.heap.size, 0, none⟩, 2, 2⟩ : Slc))]) vw61 Slc.v fun (x62 : Slc) vw63 =>
        I4 (x62, IntKind.i64.wrap (s2.2 + (if 7 < s12 then 7 else s12))) vw63) (0 ≤ s2.2 ∧ s2.2 < (l1.len : Nat) ∧ Nn l1.p fun a64 =>
        Ld vw13 (a64.add ((s2.2).toNat * 1)) (Value.int .i64) fun (x65 : Int) =>
        Nw vw13 (.cells #[.int .i64 x65, .int .i64 0, .int .i64 0] 85) fun vw66 =>
        Rn Tryd.prog (Builtin.append_ #[82, 82] 82 #[Slc.v s2.1, Slc.v ((⟨some ⟨vw13.heap.size, 0, none⟩, 1, 1⟩ : Slc))]) vw66 Slc.v fun (x67 : Slc) vw68 =>
        I4 (x67, IntKind.i64.wrap (s2.2 + 1)) vw68)))
def S46L1 (l1 : Slc) (s2 : Slc × Int) (vJ69 : Int → World → Prop) (I72 : Int → World → Prop) (s70 : Int) (vw71 : World) : Prop :=
  Br (decide ((IntKind.i64.wrap (s2.2 + s70)) < ((l1.len : Nat) : Int))) (0 ≤ (IntKind.i64.wrap (s2.2 + s70)) ∧ (IntKind.i64.wrap (s2.2 + s70)) < (l1.len : Nat) ∧ Nn l1.p fun a73 =>
    Ld vw71.drew (a73.add ((IntKind.i64.wrap (s2.2 + s70)).toNat * 1)) (Value.int .i64) fun (x74 : Int) =>
    0 ≤ s2.2 ∧ s2.2 < (l1.len : Nat) ∧ Nn l1.p fun a75 =>
    Ld vw71.drew (a75.add ((s2.2).toNat * 1)) (Value.int .i64) fun (x76 : Int) =>
    Br (x74 == x76) (I72 (IntKind.i64.wrap (s70 + 1)) vw71.drew) (vJ69 s70 vw71.drew)) (vJ69 s70 vw71.drew)
def S46L2 (l1 : Slc) (R : Slc → World → Prop) (I4 : (Slc × Int) → World → Prop) (s2 : Slc × Int) (vw3 : World) : Prop :=
  Br (decide (s2.2 < ((l1.len : Nat) : Int))) (Join (S46J1 l1 s2 I4) fun (vJ69 : Int → World → Prop) =>
      Lp (σ := Int) (S46L1 l1 s2 vJ69) 1 vw3) (R s2.1 vw3)
/-- foliant/deflate.marks -/
def S46 (l1 : Slc) (w : World) (R : Slc → World → Prop) : Prop :=
  Lp (σ := Slc × Int) (S46L2 l1 R) ((⟨none, 0, 0⟩ : Slc), 0) w
def pl46 : Plan := (.seq (.reg .seq) (.seq (.reg .seq) (.seq (.seq (.reg .seq) (.block (.loop [(3, (.one .slc)), (4, (.one (.int .i64)))] [0] (.seq (.seq (.reg .seq) (.cond .leaf .leaf)) (.block (.seq (.reg .seq) (.join [(5, (.one (.int .i64)))] [0, 3, 4] (.block (.loop [(5, (.one (.int .i64)))] [0, 3, 4] (.seq (.seq (.reg .still) (.cond .leaf .leaf)) (.block (.reg .seq))))) (.seq (.block (.seq (.reg .seq) (.cond (.seq (.reg .seq) (.reg .seq)) (.seq (.reg .seq) (.cond (.reg .seq) (.seq (.reg .seq) (.cond (.seq (.reg .seq) (.reg .seq)) (.seq (.reg .seq) (.reg .seq))))))))) (.reg .seq))))))))) (.seq (.reg .seq) .leaf))))
set_option maxRecDepth 100000 in
theorem T46 (l1 : Slc) (w : World) (R : Slc → World → Prop) (h : S46 l1 w R) : C46 l1 w R := by
  have e : fnT Tryd.prog ⟨FF, MAY, (fun _ _ => False)⟩ pl46 Tryd.f46 [Slc.v l1] w [(.one .slc)] (fun s w => R s w) = S46 l1 w R := by kernel_rfl
  exact (fn_calls okF okM Tryd.func46 (by kernel_rfl) (by kernel_rfl) (e.mpr h)).mono fun _ _ ⟨s, he, hR⟩ => ⟨s, he, hR⟩

/-- foliant/deflate.places -/
def S47 (w : World) (R : (Int × Int × Int × Int × Int × Int × Int × Int × Int × Int × Int × Int × Int × Int × Int × Int × Int × Int × Int) → World → Prop) : Prop :=
  Nw w (.cells #[.int .i64 0, .int .i64 0, .int .i64 0, .int .i64 0, .int .i64 0, .int .i64 0, .int .i64 0, .int .i64 0, .int .i64 0, .int .i64 0, .int .i64 0, .int .i64 0, .int .i64 0, .int .i64 0, .int .i64 0, .int .i64 0, .int .i64 0, .int .i64 0, .int .i64 0] 86) fun vw1 =>
  St vw1 (⟨w.heap.size, 0, none⟩ : Addr) (.int .i64 16) fun vw2 =>
  St vw2 ((⟨w.heap.size, 0, none⟩ : Addr).add 1) (.int .i64 17) fun vw3 =>
  St vw3 ((⟨w.heap.size, 0, none⟩ : Addr).add 2) (.int .i64 18) fun vw4 =>
  St vw4 ((⟨w.heap.size, 0, none⟩ : Addr).add 3) (.int .i64 0) fun vw5 =>
  St vw5 ((⟨w.heap.size, 0, none⟩ : Addr).add 4) (.int .i64 8) fun vw6 =>
  St vw6 ((⟨w.heap.size, 0, none⟩ : Addr).add 5) (.int .i64 7) fun vw7 =>
  St vw7 ((⟨w.heap.size, 0, none⟩ : Addr).add 6) (.int .i64 9) fun vw8 =>
  St vw8 ((⟨w.heap.size, 0, none⟩ : Addr).add 7) (.int .i64 6) fun vw9 =>
  St vw9 ((⟨w.heap.size, 0, none⟩ : Addr).add 8) (.int .i64 10) fun vw10 =>
  St vw10 ((⟨w.heap.size, 0, none⟩ : Addr).add 9) (.int .i64 5) fun vw11 =>
  St vw11 ((⟨w.heap.size, 0, none⟩ : Addr).add 10) (.int .i64 11) fun vw12 =>
  St vw12 ((⟨w.heap.size, 0, none⟩ : Addr).add 11) (.int .i64 4) fun vw13 =>
  St vw13 ((⟨w.heap.size, 0, none⟩ : Addr).add 12) (.int .i64 12) fun vw14 =>
  St vw14 ((⟨w.heap.size, 0, none⟩ : Addr).add 13) (.int .i64 3) fun vw15 =>
  St vw15 ((⟨w.heap.size, 0, none⟩ : Addr).add 14) (.int .i64 13) fun vw16 =>
  St vw16 ((⟨w.heap.size, 0, none⟩ : Addr).add 15) (.int .i64 2) fun vw17 =>
  St vw17 ((⟨w.heap.size, 0, none⟩ : Addr).add 16) (.int .i64 14) fun vw18 =>
  St vw18 ((⟨w.heap.size, 0, none⟩ : Addr).add 17) (.int .i64 1) fun vw19 =>
  St vw19 ((⟨w.heap.size, 0, none⟩ : Addr).add 18) (.int .i64 15) fun vw20 =>
  Ld vw20 (⟨w.heap.size, 0, none⟩ : Addr) (Value.int .i64) fun (x21 : Int) =>
  Ld vw20 ((⟨w.heap.size, 0, none⟩ : Addr).add 1) (Value.int .i64) fun (x22 : Int) =>
  Ld vw20 ((⟨w.heap.size, 0, none⟩ : Addr).add 2) (Value.int .i64) fun (x23 : Int) =>
  Ld vw20 ((⟨w.heap.size, 0, none⟩ : Addr).add 3) (Value.int .i64) fun (x24 : Int) =>
  Ld vw20 ((⟨w.heap.size, 0, none⟩ : Addr).add 4) (Value.int .i64) fun (x25 : Int) =>
  Ld vw20 ((⟨w.heap.size, 0, none⟩ : Addr).add 5) (Value.int .i64) fun (x26 : Int) =>
  Ld vw20 ((⟨w.heap.size, 0, none⟩ : Addr).add 6) (Value.int .i64) fun (x27 : Int) =>
  Ld vw20 ((⟨w.heap.size, 0, none⟩ : Addr).add 7) (Value.int .i64) fun (x28 : Int) =>
  Ld vw20 ((⟨w.heap.size, 0, none⟩ : Addr).add 8) (Value.int .i64) fun (x29 : Int) =>
  Ld vw20 ((⟨w.heap.size, 0, none⟩ : Addr).add 9) (Value.int .i64) fun (x30 : Int) =>
  Ld vw20 ((⟨w.heap.size, 0, none⟩ : Addr).add 10) (Value.int .i64) fun (x31 : Int) =>
  Ld vw20 ((⟨w.heap.size, 0, none⟩ : Addr).add 11) (Value.int .i64) fun (x32 : Int) =>
  Ld vw20 ((⟨w.heap.size, 0, none⟩ : Addr).add 12) (Value.int .i64) fun (x33 : Int) =>
  Ld vw20 ((⟨w.heap.size, 0, none⟩ : Addr).add 13) (Value.int .i64) fun (x34 : Int) =>
  Ld vw20 ((⟨w.heap.size, 0, none⟩ : Addr).add 14) (Value.int .i64) fun (x35 : Int) =>
  Ld vw20 ((⟨w.heap.size, 0, none⟩ : Addr).add 15) (Value.int .i64) fun (x36 : Int) =>
  Ld vw20 ((⟨w.heap.size, 0, none⟩ : Addr).add 16) (Value.int .i64) fun (x37 : Int) =>
  Ld vw20 ((⟨w.heap.size, 0, none⟩ : Addr).add 17) (Value.int .i64) fun (x38 : Int) =>
  Ld vw20 ((⟨w.heap.size, 0, none⟩ : Addr).add 18) (Value.int .i64) fun (x39 : Int) =>
  R (x21, x22, x23, x24, x25, x26, x27, x28, x29, x30, x31, x32, x33, x34, x35, x36, x37, x38, x39) vw20
def pl47 : Plan := (.seq (.reg .seq) (.seq (.reg .seq) .leaf))
set_option maxRecDepth 100000 in
theorem T47 (w : World) (R : (Int × Int × Int × Int × Int × Int × Int × Int × Int × Int × Int × Int × Int × Int × Int × Int × Int × Int × Int) → World → Prop) (h : S47 w R) : C47 w R := by
  have e : fnT Tryd.prog ⟨FF, MAY, (fun _ _ => False)⟩ pl47 Tryd.f47 [] w [(.agg [(.int .i64), (.int .i64), (.int .i64), (.int .i64), (.int .i64), (.int .i64), (.int .i64), (.int .i64), (.int .i64), (.int .i64), (.int .i64), (.int .i64), (.int .i64), (.int .i64), (.int .i64), (.int .i64), (.int .i64), (.int .i64), (.int .i64)])] (fun s w => R s w) = S47 w R := by kernel_rfl
  exact (fn_calls okF okM Tryd.func47 (by kernel_rfl) (by kernel_rfl) (e.mpr h)).mono fun _ _ ⟨s, he, hR⟩ => ⟨s, he, hR⟩

def S24L1 (l1 : Slc) (vw10 : World) (r29 : Slc) (r68 : Option Addr) (r95 : Option Addr) (R : ByteArray → World → Prop) (I141 : Int → World → Prop) (s139 : Int) (vw140 : World) : Prop :=
  Br (decide (s139 < ((r29.len : Nat) : Int))) (0 ≤ s139 ∧ s139 < (r29.len : Nat) ∧ Nn r29.p fun a142 =>
    Ld vw140 (a142.add ((s139).toNat * 3)) (Value.int .i64) fun (x143 : Int) =>
    Ld vw140 ((a142.add ((s139).toNat * 3)).add 1) (Value.int .i64) fun (x144 : Int) =>
    Ld vw140 ((a142.add ((s139).toNat * 3)).add 2) (Value.int .i64) fun (x145 : Int) =>
    Nw vw140 (.cells #[.int .i64 0, .int .i64 0, .int .i64 0] 85) fun vw146 =>
    St vw146 (⟨vw140.heap.size, 0, none⟩ : Addr) (.int .i64 x143) fun vw147 =>
    St vw147 ((⟨vw140.heap.size, 0, none⟩ : Addr).add 1) (.int .i64 x144) fun vw148 =>
    St vw148 ((⟨vw140.heap.size, 0, none⟩ : Addr).add 2) (.int .i64 x145) fun vw149 =>
    Ld vw149 (⟨vw140.heap.size, 0, none⟩ : Addr) (Value.int .i64) fun (x150 : Int) =>
    C48 r68 r95 x150 vw149 fun r151 vw152 =>
      Ld vw152 ((⟨vw140.heap.size, 0, none⟩ : Addr).add 1) (Value.int .i64) fun (x153 : Int) =>
      Ld vw152 ((⟨vw140.heap.size, 0, none⟩ : Addr).add 2) (Value.int .i64) fun (x154 : Int) =>
      C36 r95 x153 x154 vw152 fun r155 vw156 =>
        I141 (IntKind.i64.wrap (s139 + 1)) vw156) (Ld vw140 (⟨vw10.heap.size, 0, none⟩ : Addr) Value.pointer fun (x157 : Option Addr) =>
    Ld vw140 ((⟨vw10.heap.size, 0, none⟩ : Addr).add 1) Value.pointer fun (x158 : Option Addr) =>
    C42 (x157, x158) r95 l1 vw140 fun vw159 =>
      C39 r95 vw159 fun r160 vw161 =>
        R r160 vw161)
def S24L2 (l1 : Slc) (vw10 : World) (r29 : Slc) (r68 : Option Addr) (r93 : Slc) (r95 : Option Addr) (R : ByteArray → World → Prop) (I116 : Int → World → Prop) (s114 : Int) (vw115 : World) : Prop :=
  Br (decide (s114 < ((r93.len : Nat) : Int))) (0 ≤ s114 ∧ s114 < (r93.len : Nat) ∧ Nn r93.p fun a117 =>
    Ld vw115 (a117.add ((s114).toNat * 1)) (Value.int .i64) fun (x118 : Int) =>
    C36 r95 x118 3 vw115 fun r119 vw120 =>
      I116 (IntKind.i64.wrap (s114 + 1)) vw120) (Lp (σ := Int) (S24L1 l1 vw10 r29 r68 r95 R) 0 vw115)
def S24L3 (l1 : Slc) (vw10 : World) (r20 : Slc) (r22 : Slc) (r29 : Slc) (r65 : Slc) (r68 : Option Addr) (r82 : Int × Int × Int × Int × Int × Int × Int × Int × Int × Int × Int × Int × Int × Int × Int × Int × Int × Int × Int) (R : ByteArray → World → Prop) (I86 : (Slc × Int) → World → Prop) (s84 : Slc × Int) (vw85 : World) : Prop :=
  Br (decide (s84.2 < 19)) (0 ≤ s84.2 ∧ s84.2 < (19 : Nat) ∧ ∃ x87 : Int, (#[.int .i64 (r82.1), .int .i64 (r82.2.1), .int .i64 (r82.2.2.1), .int .i64 (r82.2.2.2.1), .int .i64 (r82.2.2.2.2.1), .int .i64 (r82.2.2.2.2.2.1), .int .i64 (r82.2.2.2.2.2.2.1), .int .i64 (r82.2.2.2.2.2.2.2.1), .int .i64 (r82.2.2.2.2.2.2.2.2.1), .int .i64 (r82.2.2.2.2.2.2.2.2.2.1), .int .i64 (r82.2.2.2.2.2.2.2.2.2.2.1), .int .i64 (r82.2.2.2.2.2.2.2.2.2.2.2.1), .int .i64 (r82.2.2.2.2.2.2.2.2.2.2.2.2.1), .int .i64 (r82.2.2.2.2.2.2.2.2.2.2.2.2.2.1), .int .i64 (r82.2.2.2.2.2.2.2.2.2.2.2.2.2.2.1), .int .i64 (r82.2.2.2.2.2.2.2.2.2.2.2.2.2.2.2.1), .int .i64 (r82.2.2.2.2.2.2.2.2.2.2.2.2.2.2.2.2.1), .int .i64 (r82.2.2.2.2.2.2.2.2.2.2.2.2.2.2.2.2.2.1), .int .i64 (r82.2.2.2.2.2.2.2.2.2.2.2.2.2.2.2.2.2.2)] : Array Value)[(s84.2).toNat * 1]? = some (.int .i64 x87) ∧ 0 ≤ x87 ∧ x87 < (r65.len : Nat) ∧ Nn r65.p fun a88 =>
    Ld vw85 (a88.add ((x87).toNat * 1)) (Value.int .i64) fun (x89 : Int) =>
    Nw vw85 (.cells #[.int .i64 x89] 3) fun vw90 =>
    Rn Tryd.prog (Builtin.append_ #[69, 69] 69 #[Slc.v s84.1, Slc.v ((⟨some ⟨vw85.heap.size, 0, none⟩, 1, 1⟩ : Slc))]) vw90 Slc.v fun (x91 : Slc) vw92 =>
    I86 (x91, IntKind.i64.wrap (s84.2 + 1)) vw92) (C45 s84.1 4 vw85 fun r93 vw94 =>
      C35 vw94 fun r95 vw96 =>
        C36 r95 1 1 vw96 fun r97 vw98 =>
          C36 r95 2 2 vw98 fun r99 vw100 =>
            C36 r95 (IntKind.i64.wrap (((r20.len : Nat) : Int) - 257)) 5 vw100 fun r101 vw102 =>
              C36 r95 (IntKind.i64.wrap (((r22.len : Nat) : Int) - 1)) 5 vw102 fun r103 vw104 =>
                C36 r95 (IntKind.i64.wrap (((r93.len : Nat) : Int) - 4)) 4 vw104 fun r105 vw106 =>
                  Lp (σ := Int) (S24L2 l1 vw10 r29 r68 r93 r95 R) 0 vw106)
def S24L4 (l1 : Slc) (vw10 : World) (r20 : Slc) (r22 : Slc) (r29 : Slc) (x31 : Slc) (R : ByteArray → World → Prop) (PR : Value → World → Prop) (I51 : Int → World → Prop) (s49 : Int) (vw50 : World) : Prop :=
  Br (decide (s49 < ((r29.len : Nat) : Int))) (0 ≤ s49 ∧ s49 < (r29.len : Nat) ∧ Nn r29.p fun a52 =>
    Ld vw50 (a52.add ((s49).toNat * 3)) (Value.int .i64) fun (x53 : Int) =>
    Ld vw50 ((a52.add ((s49).toNat * 3)).add 1) (Value.int .i64) fun (x54 : Int) =>
    Ld vw50 ((a52.add ((s49).toNat * 3)).add 2) (Value.int .i64) fun (x55 : Int) =>
    Nw vw50 (.cells #[.int .i64 0, .int .i64 0, .int .i64 0] 85) fun vw56 =>
    St vw56 (⟨vw50.heap.size, 0, none⟩ : Addr) (.int .i64 x53) fun vw57 =>
    St vw57 ((⟨vw50.heap.size, 0, none⟩ : Addr).add 1) (.int .i64 x54) fun vw58 =>
    St vw58 ((⟨vw50.heap.size, 0, none⟩ : Addr).add 2) (.int .i64 x55) fun vw59 =>
    Ld vw59 (⟨vw50.heap.size, 0, none⟩ : Addr) (Value.int .i64) fun (x60 : Int) =>
    0 ≤ x60 ∧ x60 < (x31.len : Nat) ∧ Nn x31.p fun a61 =>
    Ld vw59 (a61.add ((x60).toNat * 1)) (Value.int .i64) fun (x62 : Int) =>
    0 ≤ x60 ∧ x60 < (x31.len : Nat) ∧ Nn x31.p fun a63 =>
    St vw59 (a63.add ((x60).toNat * 1)) (.int .i64 (IntKind.i64.wrap (x62 + 1))) fun vw64 =>
    I51 (IntKind.i64.wrap (s49 + 1)) vw64) (C44 x31 7 vw50 (fun r65 r66 vw67 =>
      C41 r65 vw67 fun r68 r69 vw70 =>
        C47 vw70 fun r82 vw83 =>
          Lp (σ := Slc × Int) (S24L3 l1 vw10 r20 r22 r29 r65 r68 r82 R) ((⟨none, 0, 0⟩ : Slc), 0) vw83) PR)
/-- foliant/deflate.own -/
def S24 (l1 : Slc) (w : World) (R : ByteArray → World → Prop) (PR : Value → World → Prop) : Prop :=
  C43 l1 w fun r2 r3 vw4 =>
    C44 r2 15 vw4 (fun r5 r6 vw7 =>
      C44 r3 15 vw7 (fun r8 r9 vw10 =>
        Nw vw10 (.cells #[.pointer none, .pointer none] 74) fun vw11 =>
        C41 r5 vw11 fun r12 r13 vw14 =>
          St vw14 (⟨vw10.heap.size, 0, none⟩ : Addr) (.pointer r12) fun vw15 =>
          C41 r8 vw15 fun r16 r17 vw18 =>
            St vw18 ((⟨vw10.heap.size, 0, none⟩ : Addr).add 1) (.pointer r16) fun vw19 =>
            C45 r5 257 vw19 fun r20 vw21 =>
              C45 r8 1 vw21 fun r22 vw23 =>
                Nw vw23 (.cells #[] 3) fun vw24 =>
                Rn Tryd.prog (Builtin.append_ #[69, 69] 69 #[Slc.v ((⟨some ⟨vw23.heap.size, 0, none⟩, 0, 0⟩ : Slc)), Slc.v r20]) vw24 Slc.v fun (x25 : Slc) vw26 =>
                Rn Tryd.prog (Builtin.append_ #[69, 69] 69 #[Slc.v x25, Slc.v r22]) vw26 Slc.v fun (x27 : Slc) vw28 =>
                C46 x27 vw28 fun r29 vw30 =>
                  Rn Tryd.prog (Instr.makeSlice 69 (.int .i64 19) (.int .i64 19)) vw30 Slc.v fun (x31 : Slc) vw32 =>
                  Lp (σ := Int) (S24L4 l1 vw10 r20 r22 r29 x31 R PR) 0 vw32) PR) PR
def pl24 : Plan := (.seq (.reg .seq) (.seq (.reg .seq) (.seq (.reg .seq) (.seq (.reg .seq) (.seq (.reg .seq) (.seq (.reg .seq) (.seq (.reg .seq) (.seq (.reg .seq) (.seq (.reg .seq) (.seq (.reg .seq) (.seq (.seq (.reg .seq) (.block (.loop [(66, (.one (.int .i64)))] [0, 5, 7, 9, 10, 11, 64, 65] (.seq (.reg .seq) (.seq (.cond .leaf .leaf) (.seq (.block (.seq (.reg .seq) (.reg .seq))) (.reg .seq))))))) (.seq (.reg .seq) (.seq (.reg .seq) (.seq (.reg .seq) (.seq (.seq (.reg .seq) (.block (.loop [(18, (.one .slc)), (89, (.one (.int .i64)))] [0, 5, 7, 9, 10, 14, 16, 88] (.seq (.reg .seq) (.seq (.cond .leaf .leaf) (.seq (.block (.seq (.reg .seq) (.reg .seq))) (.reg .seq))))))) (.seq (.reg .seq) (.seq (.reg .seq) (.seq (.reg .seq) (.seq (.reg .seq) (.seq (.reg .seq) (.seq (.reg .seq) (.seq (.reg .seq) (.seq (.seq (.reg .seq) (.block (.loop [(124, (.one (.int .i64)))] [0, 9, 10, 16, 21, 122, 123] (.seq (.reg .seq) (.seq (.cond .leaf .leaf) (.seq (.block (.seq (.reg .seq) (.reg .seq))) (.reg .seq))))))) (.seq (.seq (.reg .seq) (.block (.loop [(134, (.one (.int .i64)))] [0, 9, 16, 21, 132, 133] (.seq (.reg .seq) (.seq (.cond .leaf .leaf) (.seq (.block (.seq (.reg .seq) (.seq (.reg .seq) (.reg .seq)))) (.reg .seq))))))) (.seq (.reg .seq) (.seq (.reg .seq) .leaf))))))))))))))))))))))))))
set_option maxRecDepth 100000 in
theorem T24 (l1 : Slc) (w : World) (R : ByteArray → World → Prop) (PR : Value → World → Prop) (h : S24 l1 w R PR) : C24 l1 w R PR := by
  have e : fnT Tryd.prog ⟨FF, MAY, PR⟩ pl24 Tryd.f24 [Slc.v l1] w [(.one .str)] (fun s w => R s w) = S24 l1 w R PR := by kernel_rfl
  exact (fn_callsP okF okM Tryd.func24 (by kernel_rfl) (by kernel_rfl) (e.mpr h)).mono fun _ _ he => he.elim (fun ⟨s, he, hR⟩ => .inl ⟨s, he, hR⟩) .inr

/-- strings.Clone -/
def S25 (s1 : ByteArray) (w : World) (R : ByteArray → World → Prop) : Prop :=
  C49 s1 w fun r2 vw3 =>
    R r2 vw3
def pl25 : Plan := (.seq (.reg .seq) (.seq (.reg .seq) .leaf))
set_option maxRecDepth 100000 in
theorem T25 (s1 : ByteArray) (w : World) (R : ByteArray → World → Prop) (h : S25 s1 w R) : C25 s1 w R := by
  have e : fnT Tryd.prog ⟨FF, MAY, (fun _ _ => False)⟩ pl25 Tryd.f25 [.string s1] w [(.one .str)] (fun s w => R s w) = S25 s1 w R := by kernel_rfl
  exact (fn_calls okF okM Tryd.func25 (by kernel_rfl) (by kernel_rfl) (e.mpr h)).mono fun _ _ ⟨s, he, hR⟩ => ⟨s, he, hR⟩

/-- foliant/deflate.All -/
def S14 (s1 : ByteArray) (level2 : Int) (w : World) (R : ByteArray → Int → World → Prop) (PR : Value → World → Prop) : Prop :=
  Br (decide (level2 < 0)) (R (⟨#[]⟩ : ByteArray) 1 w) (Br (decide (level2 > 2)) (R (⟨#[]⟩ : ByteArray) 1 w) (Br (decide ((((s1).size : Nat) : Int) > 1048576)) (R (⟨#[]⟩ : ByteArray) 5 w) (C22 s1 w fun r3 vw4 =>
          Br (level2 == 0) (R r3 0 vw4) (C18 s1 vw4 fun r5 vw6 =>
              C23 r5 vw6 (fun r9 vw10 =>
                Br (decide ((((r9).size : Nat) : Int) < (((r3).size : Nat) : Int))) (Br (level2 == 2) (C24 r5 vw10 (fun r11 vw12 =>
                      Br (decide ((((r11).size : Nat) : Int) < (((r9).size : Nat) : Int))) (C25 r11 vw12 fun r13 vw14 =>
                          R r13 0 vw14) (C25 r9 vw12 fun r15 vw16 =>
                          R r15 0 vw16)) PR) (C25 r9 vw10 fun r17 vw18 =>
                      R r17 0 vw18)) (Br (level2 == 2) (C24 r5 vw10 (fun r19 vw20 =>
                      Br (decide ((((r19).size : Nat) : Int) < (((r3).size : Nat) : Int))) (C25 r19 vw20 fun r21 vw22 =>
                          R r21 0 vw22) (C25 r3 vw20 fun r23 vw24 =>
                          R r23 0 vw24)) PR) (C25 r3 vw10 fun r25 vw26 =>
                      R r25 0 vw26))) PR))))
def pl14 : Plan := (.seq (.reg .seq) (.seq (.block (.seq (.reg .seq) (.cond (.seq (.reg .seq) .leaf) (.seq (.reg .seq) (.cond (.seq (.reg .seq) .leaf) .leaf))))) (.seq (.reg .seq) (.seq (.seq (.reg .seq) (.cond (.seq (.reg .seq) .leaf) .leaf)) (.seq (.reg .seq) (.seq (.seq (.reg .seq) (.seq (.reg .seq) (.cond (.reg .seq) .leaf))) (.seq (.seq (.reg .seq) (.cond (.seq (.reg .seq) (.seq (.reg .seq) (.cond (.reg .seq) .leaf))) .leaf)) (.seq (.reg .seq) .leaf))))))))
set_option maxRecDepth 100000 in
theorem T14 (s1 : ByteArray) (level2 : Int) (w : World) (R : ByteArray → Int → World → Prop) (PR : Value → World → Prop) (h : S14 s1 level2 w R PR) : C14 s1 level2 w R PR := by
  have e : fnT Tryd.prog ⟨FF, MAY, PR⟩ pl14 Tryd.f14 [.string s1, .int .i64 level2] w [(.one .str), (.one (.int .i64))] (fun s w => R s.1 s.2 w) = S14 s1 level2 w R PR := by kernel_rfl
  exact (fn_callsP okF okM Tryd.func14 (by kernel_rfl) (by kernel_rfl) (e.mpr h)).mono fun _ _ he => he.elim (fun ⟨s, he, hR⟩ => .inl ⟨s.1, s.2, he, hR⟩) .inr

end Go.Proofs.YtjkoafjnmkchdaaDoor

/- Deflate: parts written with a pair of codes; a block with the fixed codes. Conditions: sizes. -/
namespace Go.Proofs.YtjkoafjnmkchdaaDoor
namespace Inf
open Sh Bit
set_option linter.unusedVariables false
set_option linter.unusedSimpArgs false
set_option maxRecDepth 4000
set_option maxHeartbeats 1000000
attribute [local irreducible] Ld St Nw Nn Lt LdS
/-- A writer that stands behind all that was before. -/
structure PW (w0 w : World) (wlo wb : Nat) (ws : Slc) (way : Int) (st : WS) : Prop where
  wr : WrB w wb ws way st
  inv : WInv way st
  way : way = 0 ∨ way = 1
  lo : ∀ j, fp wb ws j → wlo ≤ j
  big : wlo ≤ w.heap.size
  ext : Ext (fun j => wlo ≤ j) w0 w
/-- Blocks that the writer does not touch. -/
def Hold (w : World) (wb : Nat) (ws : Slc) (G : List (Nat × List Value × TypeId)) : Prop := ∀ p ∈ G, Blk w p.1 p.2.1.toArray p.2.2 ∧ ¬ fp wb ws p.1
section
variable {w0 w w1 : World} {wlo wb : Nat} {ws ws' : Slc} {way : Int} {st st' : WS} {G : List (Nat × List Value × TypeId)}
theorem PW.call (h : PW w0 w wlo wb ws way st) (h1 : WrB w1 wb ws' 1 st') (n : Wn w w1 wb ws ws') (hi : WInv 1 st') : PW w0 w1 wlo wb ws' 1 st' :=
  ⟨h1, hi, .inr rfl, fun j hj => by
    rcases hj with e | e
    · exact h.lo j (.inl e)
    · rcases n.new j e with e | e
      · exact h.lo j (.inr e)
      · exact Nat.le_trans h.big e, Nat.le_trans h.big n.ext.size, h.ext.trans n.ext (fun _ h => h) fun j hj e => h.lo j e⟩
theorem PW.keep (h : PW w0 w wlo wb ws way st) (he : Ext (fun _ => False) w w1) : PW w0 w1 wlo wb ws way st :=
  ⟨h.wr.keep he fun _ _ h => h, h.inv, h.way, h.lo, Nat.le_trans h.big he.size, h.ext.trans he (fun _ h => h) fun _ _ e => e.elim⟩
theorem Hold.call (h : Hold w wb ws G) (n : Wn w w1 wb ws ws') : Hold w1 wb ws' G := fun p hp => by
  obtain ⟨a, b⟩ := h p hp
  refine ⟨n.ext.blk a b, fun e => ?_⟩
  rcases e with e | e
  · exact b (.inl e)
  · rcases n.new _ e with e | e
    · exact b (.inr e)
    · have := a.lt; omega
theorem Hold.keep (h : Hold w wb ws G) (he : Ext (fun _ => False) w w1) : Hold w1 wb ws G := fun p hp => ⟨he.blk (h p hp).1 id, (h p hp).2⟩
theorem Hold.ld {α : Type} {V : α → Value} {K : α → Prop} {x : α} {b o : Nat} {cs : List Value} {t : TypeId} (h : Hold w wb ws G) (i : Nat) (hi : G[i]? = some (b, cs, t)) (hx : cs[o]? = some (V x)) (hk : K x) : Ld w ⟨b, o, none⟩ V K :=
  Ld.of (h _ (List.mem_of_getElem? hi)).1 (by simpa using hx) hk
/-- Bits are written. -/
theorem PW.low (h : PW w0 w wlo wb ws way st) (hsz : st.1.length ≤ 200000000000) (v n : Nat) (hv : v < 2 ^ n) (hn2 : n ≤ 24) (hn : 1 ≤ n ∨ way = 1) :
    C36 (at1 wb) (v : Int) (n : Int) w fun e w1 => ∃ ws', PW w0 w1 wlo wb ws' 1 (lw st v n) ∧ Wn w w1 wb ws ws' := by
  have e2 : ((2 ^ n : Nat) : Int) = 2 ^ n := by simp
  have hway := h.way
  have hp : putR way st (v : Int) (n : Int) 1 = (0, lw st v n, 1) := by
    rw [putR_ok (by rw [Int.toNat_natCast]; omega)]
    simp only [Int.toNat_natCast]
    refine Prod.ext rfl (Prod.ext rfl ?_)
    dsimp only
    split <;> omega
  refine (c_wlow h.wr h.inv (by omega) (v : Int) (n : Int)).mono ?_
  rw [hp]
  rintro e w1 ⟨_, s', h1, h2⟩
  refine ⟨s', h.call h1 h2 ?_, h2⟩
  exact ⟨(h.inv.to (by omega)).put _ _ _, fun e => absurd e (by decide)⟩
/-- A sign is written. -/
theorem PW.sign {lens : List Int} {lo hi tb : Nat} (h : PW w0 w wlo wb ws way st) (hsz : st.1.length ≤ 200000000000) (ht0 : TB w0 lo hi tb lens) (hhi : hi ≤ wlo) (hc : chk lens = 0) {g : Nat} (hg : g < lens.length) (h0 : 0 < lens.getD g 0) :
    C48 (some (⟨tb, 0, none⟩ : Addr)) (at1 wb) (g : Int) w fun e w1 => ∃ ws', PW w0 w1 wlo wb ws' 1 (cw lens st g) ∧ Wn w w1 wb ws ws' := by
  obtain ⟨n, hn⟩ := Int.eq_ofNat_of_zero_le (show 0 ≤ lens.getD g 0 by omega)
  have hway := h.way
  refine (c_write (ht0.keep h.ext fun j _ hj => by omega) hc h.wr h.inv h.way hsz (fun j hj => .inr (by have := h.lo j hj; omega)) hg hn (by omega)).mono ?_
  rintro e w1 ⟨_, s', h1, h2⟩
  refine ⟨s', h.call h1 h2 ?_, h2⟩
  exact ⟨cw_ok (h.inv.to (by omega)) _, fun e => absurd e (by decide)⟩
end
theorem wP_len {near far : List Int} (hn : Lok near) (hf : Lok far) (st : WS) (p : Prt) (hp : p.ok) : (wP near far st p).1.length ≤ st.1.length + 48 := by
  unfold wP
  split
  · have := cw_len (st := st) hn p.b.toNat
    omega
  · rename_i h0
    rcases hp with hp | ⟨_, h3, h4, h5, h6⟩
    · exact absurd hp.1 h0
    have a1 := cw_len (st := st) hn (257 + kL p.n)
    have a2 := lw_len (cw near st (257 + kL p.n)) (p.n - firstL (kL p.n)) (moreL (kL p.n))
    have a3 := cw_len (st := lw (cw near st (257 + kL p.n)) (p.n - firstL (kL p.n)) (moreL (kL p.n))) hf (kD p.f)
    have a4 := lw_len (cw far (lw (cw near st (257 + kL p.n)) (p.n - firstL (kL p.n)) (moreL (kL p.n))) (kD p.f)) (p.f - baseD (kD p.f)) (moreD (kD p.f))
    obtain ⟨k1, _⟩ := kL_spec h3 h4
    obtain ⟨d1, _⟩ := kD_spec h5 h6
    have b1 : moreL (kL p.n) ≤ 5 := by unfold moreL; split <;> omega
    have b2 : moreD (kD p.f) ≤ 13 := by unfold moreD; omega
    omega
/-- (foliant/deflate.pair).write -/
theorem c_pair {w : World} {wlo wb : Nat} {ws s : Slc} {way : Int} {st : WS} {near far : List Int} {lo1 hi1 t1 lo2 hi2 t2 : Nat} {l : List Prt} (hP : PV w s (l.map rawP)) (hsl : l ≠ [] → ∀ j, s.own j → j < wlo) (hl : l.length ≤ 1048576) (hok : ∀ p ∈ l, p.ok ∧ Has near far p)
    (T1 : TB w lo1 hi1 t1 near) (T2 : TB w lo2 hi2 t2 far) (h1 : hi1 ≤ wlo) (h2 : hi2 ≤ wlo) (hc1 : chk near = 0) (hc2 : chk far = 0) (hg : 256 < near.length) (hg0 : 0 < near.getD 256 0) (hW : WrB w wb ws way st) (hi : WInv way st) (hway : way = 0 ∨ way = 1) (hlo : ∀ j, fp wb ws j → wlo ≤ j) (hbig : wlo ≤ w.heap.size) (hsz : st.1.length ≤ 100000) :
    C42 (some ⟨t1, 0, none⟩, some ⟨t2, 0, none⟩) (at1 wb) s w fun w1 => ∃ ws', PW w w1 wlo wb ws' 1 (cw near (l.foldl (wP near far) st) 256) ∧ Wn w w1 wb ws ws' := by
  have hk1 := chk_lok hc1
  have hk2 := chk_lok hc2
  refine T42 (some ⟨t1, 0, none⟩, some ⟨t2, 0, none⟩) _ _ _ _ ?_
  unfold S42
  refine Nw.of ?_
  have e4 := (Ext.refl (fun _ => False) w).alloc (.cells #[.pointer (some ⟨t1, 0, none⟩), .pointer (some ⟨t2, 0, none⟩)] 74)
  have hfl : ∀ j, fp wb ws j → j < w.heap.size := hW.lt
  have P0 : PW w w wlo wb ws way st := ⟨hW, hi, hway, hlo, hbig, Ext.refl _ _⟩
  refine ⟨fun m i' w3 => ∃ (i : Nat) (ws' : Slc) (way' : Int), i' = (i : Int) ∧ i ≤ l.length ∧ m = l.length - i ∧ PW w w3 wlo wb ws' way' ((l.take i).foldl (wP near far) st) ∧ Wn w w3 wb ws ws' ∧ Hold w3 wb ws' [(w.heap.size, [.pointer (some ⟨t1, 0, none⟩), .pointer (some ⟨t2, 0, none⟩)], 74)] ∧ ((l.take i).foldl (wP near far) st).1.length ≤ 100000 + 48 * i, l.length,
    ⟨0, ws, way, rfl, Nat.zero_le _, rfl, P0.keep e4, (Wn.refl _ _ _).to' e4, fun p hp => by
      rw [List.mem_singleton.1 hp]
      exact ⟨Blk.new w _ _, fun hh => by have := hfl _ hh; simp at this⟩, hsz⟩, ?_⟩
  rintro m i' w3 ⟨i, ws3, way3, rfl, hil, rfl, P3, n3, H3, z3⟩
  unfold S42L1
  have hlen : s.len = l.length := by rw [hP.1, List.length_map]
  rw [hlen]
  refine Br.dec (fun q => ?_) fun q => ?_
  · have hil : i < l.length := by omega
    have hio : (l.map rawP)[i]? = some (rawP l[i]) := by rw [List.getElem?_map, List.getElem?_eq_getElem hil]; rfl
    have hPk : PV w3 s (l.map rawP) := ⟨hP.1, hP.2.keepF P3.ext fun j hj e => by have := hsl (fun e => by rw [e] at hil; simp at hil) j hj; omega⟩
    obtain ⟨a, ha, c0, c1, c2⟩ := hPk.get hio
    obtain ⟨pok, phas⟩ := hok l[i] (List.getElem_mem hil)
    have htk : (l.take (i + 1)).foldl (wP near far) st = wP near far ((l.take i).foldl (wP near far) st) l[i] := by
      rw [List.take_add_one, List.getElem?_eq_getElem hil, List.foldl_append]
      rfl
    have hwl := wP_len hk1 hk2 ((l.take i).foldl (wP near far) st) l[i] pok
    rw [← htk] at hwl
    generalize (l.take i).foldl (wP near far) st = st3 at *
    generalize l[i] = p at *
    obtain ⟨pb, pn, pf⟩ := p
    have hpb := pb.toNat_lt
    rw [ha]
    refine ⟨by omega, by omega, Nn.of ?_⟩
    rw [Int.toNat_natCast]
    refine Ld.mk (x := (pb.toNat : Int)) c0 (Ld.mk (x := (pn : Int)) c1 (Ld.mk (x := (pf : Int)) c2 ?_))
    refine (Hn.start w3).nw fun w4 H => ?_
    simp only [List.nil_append] at H
    iterate 3 (refine H.st 0 rfl (by simp) fun _ H => ?_; simp only [List.nil_append, List.cons_append, List.set_cons_zero, List.set_cons_succ, Nat.zero_add] at H)
    rename_i w7
    have P7 := P3.keep H.ext
    have n7 := n3.to' H.ext
    have H7 : Hold w7 wb ws3 [(w.heap.size, [.pointer (some ⟨t1, 0, none⟩), .pointer (some ⟨t2, 0, none⟩)], 74), (w3.heap.size, [.int .u8 (pb.toNat : Int), .int .i64 (pn : Int), .int .i64 (pf : Int)], 40)] := fun p hp => by
      rcases List.mem_cons.1 hp with rfl | hp
      · exact H3.keep H.ext _ (List.mem_singleton.2 rfl)
      · rw [List.mem_singleton.1 hp]
        exact ⟨H.get 0 rfl, fun hh => by have := P3.wr.lt _ hh; simp at this⟩
    clear H
    have fin : ∀ w9 ws9, PW w w9 wlo wb ws9 1 (wP near far st3 ⟨pb, pn, pf⟩) → Wn w w9 wb ws ws9 → Hold w9 wb ws9 [(w.heap.size, [.pointer (some ⟨t1, 0, none⟩), .pointer (some ⟨t2, 0, none⟩)], 74), (w3.heap.size, [.int .u8 (pb.toNat : Int), .int .i64 (pn : Int), .int .i64 (pf : Int)], 40)] →
        ∃ n', n' < l.length - i ∧ ∃ (i_1 : Nat) (ws' : Slc) (way' : Int), IntKind.i64.wrap ((i : Int) + 1) = (i_1 : Int) ∧ i_1 ≤ l.length ∧ n' = l.length - i_1 ∧ PW w w9 wlo wb ws' way' ((l.take i_1).foldl (wP near far) st) ∧ Wn w w9 wb ws ws' ∧ Hold w9 wb ws' [(w.heap.size, [.pointer (some ⟨t1, 0, none⟩), .pointer (some ⟨t2, 0, none⟩)], 74)] ∧ ((l.take i_1).foldl (wP near far) st).1.length ≤ 100000 + 48 * i_1 := fun w9 ws9 P9 n9 H9 =>
      ⟨l.length - (i + 1), by omega, i + 1, ws9, 1, by rw [i64_id (by omega)]; rfl, by omega, rfl, by rw [htk]; exact P9, n9, fun p hp => H9 p (by rw [List.mem_singleton.1 hp]; exact List.mem_cons_self ..), by omega⟩
    refine H7.ld 1 rfl rfl ?_
    unfold Has at phas
    dsimp only at phas
    refine Br.eq (fun h0 => ?_) fun h0 => ?_
    · have hpn : pn = 0 := by omega
      subst hpn
      rw [if_pos rfl] at phas
      refine H7.ld 0 rfl rfl ?_
      refine H7.ld 1 rfl rfl ?_
      rw [i64_id (by omega)]
      refine (P7.sign (by omega) T1 h1 hc1 phas.1 phas.2).mono ?_
      rintro e w8 ⟨ws8, P8, n8⟩
      exact fin w8 ws8 P8 (n7.trans n8) (H7.call n8)
    · have hpn : ¬ pn = 0 := by omega
      rw [if_neg hpn] at phas
      rcases pok with hp | ⟨_, q3, q4, q5, q6⟩
      · exact absurd hp.1 hpn
      dsimp only at q3 q4 q5 q6
      obtain ⟨k1, k2, k3, k4⟩ := kL_spec q3 q4
      obtain ⟨d1, d2, d3⟩ := kD_spec q5 q6
      have b1 : moreL (kL pn) ≤ 5 := by unfold moreL; split <;> omega
      have b2 : moreD (kD pf) ≤ 13 := by unfold moreD; omega
      refine H7.ld 1 rfl rfl ?_
      refine (c_Sign (pn : Int) w7).mono ?_
      rintro a1 a2 a3 a4 w8 ⟨hs, e8⟩
      unfold sgnF at hs
      rw [if_neg (by omega), Int.toNat_natCast] at hs
      simp only [Prod.mk.injEq] at hs
      obtain ⟨rfl, rfl, rfl, rfl⟩ := hs
      have P8 := P7.keep e8
      have n8 := n7.to' e8
      have H8 := H7.keep e8
      refine H8.ld 0 rfl rfl ?_
      refine (P8.sign (by omega) T1 h1 hc1 phas.1.1 phas.1.2).mono ?_
      rintro _ w9 ⟨ws9, P9, n9⟩
      have H9 := H8.call n9
      have l9 := cw_len (st := st3) hk1 (257 + kL pn)
      refine (P9.low (by omega) (pn - firstL (kL pn)) (moreL (kL pn)) (by omega) (by omega) (.inr rfl)).mono ?_
      rintro _ w10 ⟨ws10, P10, n10⟩
      have H10 := H9.call n10
      have l10 := lw_len (cw near st3 (257 + kL pn)) (pn - firstL (kL pn)) (moreL (kL pn))
      refine H10.ld 1 rfl rfl ?_
      refine (c_Back (pf : Int) w10).mono ?_
      rintro a1 a2 a3 a4 w11 ⟨hs, e11⟩
      unfold bckF at hs
      rw [if_neg (by omega), Int.toNat_natCast] at hs
      simp only [Prod.mk.injEq] at hs
      obtain ⟨rfl, rfl, rfl, rfl⟩ := hs
      have P11 := P10.keep e11
      have H11 := H10.keep e11
      refine H11.ld 0 rfl rfl ?_
      refine (P11.sign (by omega) T2 h2 hc2 phas.2.1 phas.2.2).mono ?_
      rintro _ w12 ⟨ws12, P12, n12⟩
      have H12 := H11.call n12
      have l12 := cw_len (st := lw (cw near st3 (257 + kL pn)) (pn - firstL (kL pn)) (moreL (kL pn))) hk2 (kD pf)
      refine (P12.low (by omega) (pf - baseD (kD pf)) (moreD (kD pf)) (by unfold moreD at *; omega) (by omega) (.inr rfl)).mono ?_
      rintro _ w13 ⟨ws13, P13, n13⟩
      refine fin w13 ws13 ?_ (((((n8.trans n9).trans n10).to' e11).trans n12).trans n13) (H12.call n13)
      unfold wP
      rw [if_neg hpn]
      exact P13
  · have : i = l.length := by omega
    subst this
    rw [List.take_length] at P3 z3
    refine H3.ld 0 rfl rfl ?_
    refine (P3.sign (by omega) T1 h1 hc1 (g := 256) hg hg0).mono ?_
    rintro _ w4 ⟨ws4, P4, n4⟩
    exact ⟨ws4, P4, n3.trans n4⟩
theorem wPs_len {near far : List Int} (hn : Lok near) (hf : Lok far) : ∀ (l : List Prt) (st : WS), (∀ p ∈ l, p.ok) → (l.foldl (wP near far) st).1.length ≤ st.1.length + 48 * l.length
  | [], st, _ => Nat.le_refl _
  | p :: l, st, h => by
    have h1 := wP_len hn hf st p (h p (List.mem_cons_self ..))
    have h2 := wPs_len hn hf l (wP near far st p) fun q hq => h q (List.mem_cons_of_mem _ hq)
    rw [List.foldl_cons, List.length_cons]
    omega
theorem PV.lt {w : World} {s : Slc} {L : List Qr} (h : PV w s L) (hL : L ≠ []) {j : Nat} (hj : s.own j) : j < w.heap.size := by
  obtain ⟨q, r, rfl⟩ := List.exists_cons_of_ne_nil hL
  obtain ⟨a, ha, c, _⟩ := h.get (i := 0) rfl
  obtain ⟨b, hb, rfl⟩ := hj
  rw [ha] at hb
  cases hb
  have := cell_lt' c
  rw [add_block] at this
  exact this
/-- foliant/deflate.fixed -/
theorem c_fixedB {w : World} {s : Slc} {l : List Prt} (hP : PV w s (l.map rawP)) (hl : l.length ≤ 1048576) (hf : Fit l []) : C23 s w (fun r w1 => r = ⟨(fixO l).toArray⟩ ∧ Ext (fun _ => False) w w1) fun _ _ => False := by
  refine T23 _ _ _ _ ?_
  unfold S23
  refine (c_Fixed w).mono ?_ fun _ _ h => h
  rintro r2 r3 w4 ⟨I2, I3, e4⟩
  have o3 : ∀ j, r3.own j → j ≠ w4.heap.size := fun j hj => by have := own_lt' I3 (by intro e; have := fixD_len; rw [e] at this; simp at this) hj; omega
  refine (Hn.start w).keep e4 |>.nw' fun w5 H e5 => ?_
  simp only [List.nil_append] at H
  have z5 : w4.heap.size < w5.heap.size := H.lt 0 rfl
  refine (c_new (I2.keep e5)).mono ?_
  rintro r6 r7 w8 ⟨rfl, e8, _, h8⟩
  obtain ⟨t1, rfl, T1⟩ := h8 chk_fixL
  have H := H.keep e8
  refine H.st' 0 rfl (by simp) fun w9 H e9 => ?_
  simp only [List.set_cons_zero, List.set_cons_succ] at H
  have T1 := T1.keep e9 fun j h1 h2 e => by omega
  have I3 := ((I3.keep e5).keep e8).keepF e9 o3
  refine (c_new I3).mono ?_
  rintro r10 r11 w12 ⟨rfl, e12, _, h12⟩
  obtain ⟨t2, rfl, T2⟩ := h12 chk_fixD
  have H := H.keep e12
  have T1 := T1.keep e12 fun _ _ _ h => h
  have z9 : w8.heap.size ≤ w9.heap.size := e9.size
  have z8 := e8.size
  refine H.st' 0 rfl (by simp) fun w13 H e13 => ?_
  simp only [List.set_cons_zero, List.set_cons_succ] at H
  have T1 := T1.keep e13 fun j h1 h2 e => by have e : j = w4.heap.size := e; omega
  have T2 := T2.keep e13 fun j h1 h2 e => by have e : j = w4.heap.size := e; omega
  have z13 := e13.size
  have z12 := e12.size
  refine (Bit.c_new w13).mono ?_
  rintro r14 w15 ⟨rfl, W, e15⟩
  have H := H.keep e15
  have T1 := T1.keep e15 fun _ _ _ h => h
  have T2 := T2.keep e15 fun _ _ _ h => h
  have z15 := e15.size
  have P15 : PW w15 w15 w13.heap.size w13.heap.size ⟨none, 0, 0⟩ 0 ([], 0) := ⟨W, WInv.zero _, .inl rfl, (fun j hj => by
    rcases hj with e | ⟨a, ha, _⟩
    · omega
    · cases ha), z15, Ext.refl _ _⟩
  refine (P15.low (by simp) 1 1 (by decide) (by decide) (.inl (by decide))).mono ?_
  rintro _ w17 ⟨s17, P17, n17⟩
  refine (P17.low (by have := lw_len ([], 0) 1 1; simp only [List.length_nil] at this; omega) 1 2 (by decide) (by decide) (.inl (by decide))).mono ?_
  rintro _ w19 ⟨s19, P19, n19⟩
  have P19 : PW w15 w19 w13.heap.size w13.heap.size s19 1 stF := P19
  have hzF : stF.1.length ≤ 3 := by
    have h1 := lw_len ([], 0) 1 1
    have h2 := lw_len (lw ([], 0) 1 1) 1 2
    unfold stF
    simp only [List.length_nil] at h1
    omega
  have bB := P19.ext.blk (H.get 0 rfl) (by show ¬ w13.heap.size ≤ w4.heap.size; omega)
  refine Ld.of bB rfl (Ld.of bB rfl ?_)
  have E15 : Ext (fun _ => False) w w15 := H.ext
  have hPk : PV w19 s (l.map rawP) := by
    by_cases hnil : l = []
    · subst hnil
      exact ⟨hP.1, hP.2.1, fun j v hj => by cases hj⟩
    · exact ⟨hP.1, (hP.2.keep E15).keepF P19.ext fun j hj e => by
        have := hP.lt (by simpa using hnil) hj
        have := e4.size
        omega⟩
  have hoks := Fit.ok hf
  refine (c_pair (s := s) (l := l) hPk (fun hnil j hj => by have := hP.lt (by simpa using hnil) hj; have := e4.size; omega) hl (fun p hp => ⟨hoks p hp, fix_has (hoks p hp)⟩) (T1.keep P19.ext fun j _ h2 e => by omega) (T2.keep P19.ext fun j _ h2 e => by omega) (by omega) (by omega) chk_fixL chk_fixD (by rw [fixL_len]; decide) (by have := fixL_get 256 (by decide); omega) P19.wr P19.inv P19.way P19.lo P19.big (by omega)).mono ?_
  rintro w22 ⟨s22, P22, n22⟩
  have z1 := wPs_len (chk_lok chk_fixL) (chk_lok chk_fixD) l stF hoks
  have z2 := cw_len (st := l.foldl (wP fixL fixD) stF) (chk_lok chk_fixL) 256
  refine (c_wtext P22.wr (by omega)).mono ?_
  rintro r w24 ⟨rfl, e24⟩
  refine ⟨rfl, ?_⟩
  have zz := e4.size
  exact ((E15.trans P19.ext (fun _ h => h) fun j hj e => by omega).trans P22.ext (fun _ h => h) fun j hj e => by omega).tr e24
end Inf
end Go.Proofs.YtjkoafjnmkchdaaDoor

/- A stable sort: orders, merges, blocks; plain laws, no program in sight. No condition. -/
namespace Go.Proofs.YtjkoafjnmkchdaaDoor
namespace Srt
set_option linter.unusedVariables false
set_option linter.unusedSimpArgs false
/-- An element: where it lies, and its place among the equals. -/
abbrev E := Nat × Nat
def lt (W : Nat → Int) (a b : E) : Prop := W a.1 < W b.1 ∨ (W a.1 = W b.1 ∧ a.2 < b.2)
abbrev So (W : Nat → Int) (l : List E) : Prop := l.Pairwise (lt W)
section
variable {W : Nat → Int}
theorem lt_trans {a b c : E} (h : lt W a b) (k : lt W b c) : lt W a c := by
  unfold lt at *
  omega
theorem lt_of {a b : E} (h : W a.1 ≤ W b.1) (k : a.2 < b.2) : lt W a b := by
  unfold lt
  omega
theorem le_of_lt {a b : E} (h : lt W a b) : W a.1 ≤ W b.1 := by
  unfold lt at h
  omega
theorem so_app {l m : List E} : So W (l ++ m) ↔ So W l ∧ So W m ∧ ∀ a ∈ l, ∀ b ∈ m, lt W a b := List.pairwise_append
/-- Two sorted rows with the same elements are one. -/
theorem so_unique : ∀ {l m : List E}, So W l → So W m → l.Perm m → l = m := by
  intro l m hl hm hp
  refine hp.eq_of_pairwise (le := lt W) (fun a b _ _ h k => ?_) hl hm
  unfold lt at h k
  omega
/-- x goes between A and B. -/
theorem so_put {A B : List E} {x : E} (h : So W (A ++ B)) (h1 : ∀ y ∈ A, lt W y x) (h2 : ∀ y ∈ B, lt W x y) : So W (A ++ x :: B) := by
  obtain ⟨a, b, c⟩ := so_app.1 h
  refine so_app.2 ⟨a, List.pairwise_cons.2 ⟨h2, b⟩, fun y hy z hz => ?_⟩
  rcases List.mem_cons.1 hz with rfl | hz
  · exact h1 y hy
  · exact c y hy z hz
/-- The tags rise from one to the other. -/
def Tg (l m : List E) : Prop := ∀ a ∈ l, ∀ b ∈ m, a.2 < b.2
theorem Tg.perm {l l' m m' : List E} (h : Tg l m) (h1 : l'.Perm l) (h2 : m'.Perm m) : Tg l' m' := fun a ha b hb => h a (h1.mem_iff.1 ha) b (h2.mem_iff.1 hb)
theorem Tg.sub {l l' m m' : List E} (h : Tg l m) (h1 : ∀ a ∈ l', a ∈ l) (h2 : ∀ a ∈ m', a ∈ m) : Tg l' m' := fun a ha b hb => h a (h1 a ha) b (h2 b hb)
/-! ### Merging by symmetry -/
/-- The two rows, parted so that what is moved is in order. -/
theorem sym_cross {U1 U2 V1 V2 : List E} (hU : So W (U1 ++ U2)) (hV : So W (V1 ++ V2)) (hT : Tg (U1 ++ U2) (V1 ++ V2))
    (h1 : U1 = [] ∨ V2 = [] ∨ ∃ A a b B, U1 = A ++ [a] ∧ V2 = b :: B ∧ W a.1 ≤ W b.1) (h2 : V1 = [] ∨ U2 = [] ∨ ∃ A a b B, V1 = A ++ [a] ∧ U2 = b :: B ∧ W a.1 < W b.1) :
    ∀ x ∈ U1 ++ V1, ∀ y ∈ U2 ++ V2, lt W x y := by
  obtain ⟨u1, u2, u3⟩ := so_app.1 hU
  obtain ⟨v1, v2, v3⟩ := so_app.1 hV
  have last : ∀ {A : List E} {a x : E}, So W (A ++ [a]) → x ∈ A ++ [a] → x = a ∨ lt W x a := fun {A a x} h hx => by
    rcases List.mem_append.1 hx with hx | hx
    · exact .inr ((so_app.1 h).2.2 x hx a (by simp))
    · exact .inl (by simpa using hx)
  have first : ∀ {B : List E} {b y : E}, So W (b :: B) → y ∈ b :: B → y = b ∨ lt W b y := fun {B b y} h hy => by
    rcases List.mem_cons.1 hy with rfl | hy
    · exact .inl rfl
    · exact .inr ((List.pairwise_cons.1 h).1 y hy)
  intro x hx y hy
  rcases List.mem_append.1 hx with hx | hx
  · rcases List.mem_append.1 hy with hy | hy
    · exact u3 x hx y hy
    · rcases h1 with e | e | ⟨A, a, b, B, e1, e2, hw⟩
      · rw [e] at hx; cases hx
      · rw [e] at hy; cases hy
      · have ht := hT x (List.mem_append_left _ hx) y (List.mem_append_right _ hy)
        have hab : lt W a b := lt_of hw (hT a (by rw [e1]; simp) b (by rw [e2]; simp))
        have hb1 : W b.1 ≤ W y.1 := by
          rw [e2] at hy v2
          rcases first v2 hy with rfl | h
          · exact Int.le_refl _
          · exact le_of_lt h
        have ha1 : W x.1 ≤ W a.1 := by
          rw [e1] at hx u1
          rcases last u1 hx with rfl | h
          · exact Int.le_refl _
          · exact le_of_lt h
        exact lt_of (by omega) ht
  · rcases List.mem_append.1 hy with hy | hy
    · rcases h2 with e | e | ⟨A, a, b, B, e1, e2, hw⟩
      · rw [e] at hx; cases hx
      · rw [e] at hy; cases hy
      · have hb1 : W b.1 ≤ W y.1 := by
          rw [e2] at hy u2
          rcases first u2 hy with rfl | h
          · exact Int.le_refl _
          · exact le_of_lt h
        have ha1 : W x.1 ≤ W a.1 := by
          rw [e1] at hx v1
          rcases last v1 hx with rfl | h
          · exact Int.le_refl _
          · exact le_of_lt h
        exact .inl (by omega)
    · exact v3 x hx y hy
/-! ### Blocks -/
/-- The blocks have this size; the last may be smaller. -/
def Sz (bs : Nat) : List (List E) → Prop
  | [] => True
  | [B] => 1 ≤ B.length ∧ B.length ≤ bs
  | B :: C :: r => B.length = bs ∧ Sz bs (C :: r)
structure Bk (W : Nat → Int) (Bs : List (List E)) : Prop where
  so : ∀ B ∈ Bs, So W B
  tg : Bs.Pairwise Tg
theorem Sz.len {bs : Nat} (h0 : 1 ≤ bs) : ∀ {Bs : List (List E)}, Sz bs Bs → ∀ B ∈ Bs, 1 ≤ B.length ∧ B.length ≤ bs
  | [], _, B, hB => by cases hB
  | [X], h, B, hB => by
    rw [List.mem_singleton.1 hB]
    exact h
  | X :: Y :: r, h, B, hB => by
    rcases List.mem_cons.1 hB with rfl | hB
    · have := h.1; omega
    · exact Sz.len h0 h.2 B hB
/-- Full blocks ahead of some. -/
theorem Sz.app {bs : Nat} : ∀ {Ms Rs : List (List E)}, (∀ M ∈ Ms, M.length = bs) → Sz bs Rs → (1 ≤ bs) → Sz bs (Ms ++ Rs)
  | [], Rs, _, h, _ => h
  | [M], [], hm, _, h0 => ⟨by rw [hm M (by simp)]; exact h0, by rw [hm M (by simp)]; exact Nat.le_refl _⟩
  | [M], R :: r, hm, h, _ => ⟨hm M (by simp), h⟩
  | M :: M' :: Ms, Rs, hm, h, h0 => ⟨hm M (by simp), Sz.app (Ms := M' :: Ms) (fun X hX => hm X (List.mem_cons_of_mem _ hX)) h h0⟩
theorem flat_full {bs : Nat} : ∀ {Ms : List (List E)}, (∀ M ∈ Ms, M.length = bs) → Ms.flatten.length = Ms.length * bs
  | [], _ => by simp
  | M :: Ms, h => by
    rw [List.flatten_cons, List.length_append, h M (by simp), flat_full fun X hX => h X (List.mem_cons_of_mem _ hX), List.length_cons, Nat.add_mul]
    omega
/-- At most one block: it is sorted. -/
theorem Bk.done {bs : Nat} {Bs : List (List E)} (h : Bk W Bs) (hs : Sz bs Bs) (h0 : 1 ≤ bs) (hn : Bs.flatten.length ≤ bs) : So W Bs.flatten := by
  match Bs, h, hs, hn with
  | [], _, _, _ => exact List.Pairwise.nil
  | [B], h, _, _ =>
    have := h.so B (by simp)
    simpa using this
  | B :: C :: r, h, hs, hn =>
    have h1 := hs.1
    have h2 := (Sz.len h0 hs.2 C (by simp)).1
    simp only [List.flatten_cons, List.length_append] at hn
    omega
/-- Two neighbours become one. -/
theorem Bk.merge {Ms Rs : List (List E)} {U V M : List E} (h : Bk W (Ms ++ U :: V :: Rs)) (hM : So W M) (hp : M.Perm (U ++ V)) : Bk W (Ms ++ M :: Rs) := by
  have hmem : ∀ x ∈ M, x ∈ U ∨ x ∈ V := fun x hx => List.mem_append.1 (hp.mem_iff.1 hx)
  obtain ⟨t1, t2, t3⟩ := List.pairwise_append.1 h.tg
  obtain ⟨t4, t5⟩ := List.pairwise_cons.1 t2
  obtain ⟨t6, t7⟩ := List.pairwise_cons.1 t5
  refine ⟨fun B hB => ?_, List.pairwise_append.2 ⟨t1, List.pairwise_cons.2 ⟨fun R hR a ha b hb => ?_, t7⟩, fun A hA B hB a ha b hb => ?_⟩⟩
  · rcases List.mem_append.1 hB with hB | hB
    · exact h.so B (List.mem_append_left _ hB)
    · rcases List.mem_cons.1 hB with rfl | hB
      · exact hM
      · exact h.so B (List.mem_append_right _ (List.mem_cons_of_mem _ (List.mem_cons_of_mem _ hB)))
  · rcases hmem a ha with h1 | h1
    · exact t4 R (List.mem_cons_of_mem _ hR) a h1 b hb
    · exact t6 R hR a h1 b hb
  · rcases List.mem_cons.1 hB with rfl | hB
    · rcases hmem b hb with h1 | h1
      · exact t3 A hA U (by simp) a ha b h1
      · exact t3 A hA V (by simp) a ha b h1
    · exact t3 A hA B (by simp [hB]) a ha b hb
theorem merge_perm {Ms Rs : List (List E)} {U V M O : List E} (h : (Ms ++ U :: V :: Rs).flatten.Perm O) (hp : M.Perm (U ++ V)) : (Ms ++ M :: Rs).flatten.Perm O := by
  refine List.Perm.trans ?_ h
  simp only [List.flatten_append, List.flatten_cons]
  refine List.Perm.append_left _ ?_
  rw [← List.append_assoc]
  exact List.Perm.append_right _ hp
/-! ### Rotations and exchanges -/
theorem set_mid {α : Type} {pre post : List α} {c v : α} {i : Nat} (h : pre.length = i) : (pre ++ c :: post).set i v = pre ++ v :: post := by
  rw [List.set_append_right _ _ (by omega), show i - pre.length = 0 by omega]
  rfl
theorem get_mid {α : Type} {pre post : List α} {c : α} {i : Nat} (h : pre.length = i) : (pre ++ c :: post)[i]? = some c := by
  rw [List.getElem?_append_right (by omega), show i - pre.length = 0 by omega]
  rfl
/-- A row parted at a place. -/
theorem split_at {α : Type} {l : List α} {i : Nat} (h : i < l.length) : ∃ pre c post, l = pre ++ c :: post ∧ pre.length = i :=
  ⟨l.take i, l[i], l.drop (i + 1), by rw [← List.drop_eq_getElem_cons h, List.take_append_drop], by rw [List.length_take]; omega⟩
theorem cut_at {α : Type} {l : List α} {i : Nat} (h : i ≤ l.length) : ∃ A B, l = A ++ B ∧ A.length = i :=
  ⟨l.take i, l.drop i, (List.take_append_drop i l).symm, by rw [List.length_take]; omega⟩
end
end Srt
end Go.Proofs.YtjkoafjnmkchdaaDoor
