/- Content operators: Takes and Check, on both sides. Condition: the table of spaces is laid. -/
import Derived.Test.YtcblpehnkogfdaaGreatDoorOpB
namespace Go.Proofs.YtcblpehnkogfdaaGreatDoor
namespace Opr
open Sh Mat
set_option linter.unusedVariables false
set_option linter.unusedSimpArgs false
set_option maxRecDepth 8000
set_option maxHeartbeats 8000000
theorem takesL_at {nm : By} : ∀ (R : List (By × By × List By)) (i : Nat) (r : By × By × List By), R[i]? = some r → (∀ (j : Nat) (q : By × By × List By), j < i → R[j]? = some q → nm ∉ q.2.2) → nm ∈ r.2.2 → takesL nm R = r.1
  | [], i, r, h, _, _ => by cases h
  | x :: R, 0, r, h, _, hm => by
    cases h
    unfold takesL
    rw [if_pos hm]
  | x :: R, i + 1, r, h, hn, hm => by
    unfold takesL
    rw [if_neg (hn 0 x (by omega) rfl)]
    exact takesL_at R i r (by simpa using h) (fun j q hj hq => hn (j + 1) q (by omega) (by simpa using hq)) hm
theorem takesL_no {nm : By} : ∀ (R : List (By × By × List By)), (∀ (j : Nat) (q : By × By × List By), R[j]? = some q → nm ∉ q.2.2) → takesL nm R = [63]
  | [], _ => rfl
  | x :: R, hn => by
    unfold takesL
    rw [if_neg (hn 0 x rfl)]
    exact takesL_no R fun j q hq => hn (j + 1) q (by simpa using hq)
theorem takes_in (nm : By) : takes nm = [63] ∨ ∃ r ∈ rows, takes nm = r.1 := by
  have : ∀ R : List (By × By × List By), takesL nm R = [63] ∨ ∃ r ∈ R, takesL nm R = r.1 := fun R => by
    induction R with
    | nil => exact .inl rfl
    | cons x R ih =>
      unfold takesL
      split
      · exact .inr ⟨x, by simp, rfl⟩
      · rcases ih with h | ⟨r, hr, h⟩
        · exact .inl h
        · exact .inr ⟨r, List.mem_cons_of_mem _ hr, h⟩
  exact this rows
theorem rows_low : (rows.all fun r => decide (r.1.length ≤ 6) && r.1.all fun b => decide (b < 128)) = true := by decide +kernel
theorem takes_low (nm : By) : (takes nm).length ≤ 6 ∧ ∀ i, i < (takes nm).length → ((takes nm).getD i 0).toNat < 128 := by
  have key : ∀ l : By, (decide (l.length ≤ 6) && l.all fun b => decide (b < 128)) = true → l.length ≤ 6 ∧ ∀ i, i < l.length → (l.getD i 0).toNat < 128 := fun l hl => by
    obtain ⟨h1, h2⟩ := Bool.and_eq_true_iff.1 hl
    refine ⟨of_decide_eq_true h1, fun i hi => ?_⟩
    have := List.all_eq_true.1 h2 (l.getD i 0) (by rw [List.getD_eq_getElem?_getD, List.getElem?_eq_getElem hi]; exact List.getElem_mem hi)
    exact of_decide_eq_true this
  rcases takes_in nm with h | ⟨r, hr, h⟩
  · rw [h]
    exact key _ (by decide)
  · rw [h]
    exact key _ (List.all_eq_true.1 rows_low r hr)
/-- Whether an operand fits. -/
def fitsK (b : UInt8) (k : Int) : Bool := if b = 110 then k == 2 || k == 3 else if b = 115 then k == 4 else if b = 78 then k == 5 else if b = 97 then k == 6 else if b = 100 then k == 7 else true
def fitsT : By → List Ob → Bool
  | b :: t, o :: L => fitsK b o.1 && fitsT t L
  | _, _ => true
/-- What Check answers. -/
def chkF (nm : By) (L : List Ob) (d : By) : Int := if takes nm = [63] then 28 else if (takes nm).length ≠ L.length then 28 else if fitsT (takes nm) L = false then 28 else if d ≠ [] ∧ nm ≠ [66, 73] then 3 else 0
theorem fitsT_no {t : By} {L : List Ob} {i : Nat} {b : UInt8} {o : Ob} (hb : t[i]? = some b) (ho : L[i]? = some o) (h : fitsK b o.1 = false) : fitsT t L = false := by
  induction t generalizing L i with
  | nil => cases hb
  | cons x t ih =>
    cases L with
    | nil => cases ho
    | cons p L =>
      cases i with
      | zero =>
        cases hb; cases ho
        simp [fitsT, h]
      | succ i =>
        simp [fitsT, ih (by simpa using hb) (by simpa using ho)]
theorem fitsT_yes {t : By} {L : List Ob} (h : ∀ (i : Nat) (b : UInt8) (o : Ob), t[i]? = some b → L[i]? = some o → fitsK b o.1 = true) : fitsT t L = true := by
  induction t generalizing L with
  | nil => unfold fitsT; rfl
  | cons x t ih =>
    cases L with
    | nil => unfold fitsT; rfl
    | cons p L =>
      have h0 := h 0 x p rfl rfl
      have := ih (L := L) fun i b o hb ho => h (i + 1) b o (by simpa using hb) (by simpa using ho)
      simp [fitsT, h0, this]
theorem itW_ext (w : World) (b : Nat) (s : ByteArray) (p : Nat) : Ext (· = b) w (itW w b s p) :=
  ⟨rfl, rfl, rfl, by simp [itW], fun k hk hn => by
    unfold itW
    simp only
    rw [Array.getElem?_setIfInBounds]
    rw [if_neg fun e => hn e.symm]⟩
theorem itW_at {w : World} {b : Nat} {s : ByteArray} {p : Nat} (h : b < w.heap.size) : (itW w b s p).heap[b]? = some (.stringIter s p) := by
  unfold itW
  simp [Array.getElem?_setIfInBounds, h]
attribute [local irreducible] Ld St Nw Nn Lt LdS
section
variable {w w1 : World} {s : Slc} {L : List By}
theorem c_contains (h : SL w s L) (hl : L.length ≤ 1000000) (v : ByteArray) : C72 s v w fun r w1 => r = decide (bl v ∈ L) ∧ w1 = w := by
  refine T72 _ _ _ _ ?_
  unfold S72
  refine C112.mono (T112 _ _ _ (fun r w1 => decide (r ≥ 0) = decide (bl v ∈ L) ∧ w1 = w) ?_) (fun r w1 h => h)
  unfold S112
  refine ⟨fun n st w1 => ∃ i : Nat, st = (i : Int) ∧ i ≤ L.length ∧ n = L.length - i ∧ w1 = w ∧ ∀ j l, j < i → L[j]? = some l → bl v ≠ l, L.length, ⟨0, rfl, by omega, rfl, rfl, fun j l hj => by omega⟩, ?_⟩
  rintro n st w ⟨i, rfl, hi, rfl, rfl, hno⟩
  unfold S112L1
  rw [h.1]
  refine Br.dec (fun q => ⟨by omega, by omega, ?_⟩) fun q => ?_
  · obtain ⟨l, hli⟩ : ∃ l, L[i]? = some l := ⟨_, List.getElem?_eq_getElem (by omega)⟩
    obtain ⟨a, ha, hc⟩ := h.get hli
    rw [ha, Int.toNat_natCast]
    refine Nn.of (Ld.mk hc ?_)
    rw [eqB, bl_ba]
    refine Br.dec (fun q2 => ⟨?_, rfl⟩) fun q2 => ⟨L.length - (i + 1), by omega, i + 1, by rw [i64_id (by omega)]; rfl, by omega, rfl, rfl, fun j l' hj hl' => ?_⟩
    · rw [decide_eq_true (by omega), decide_eq_true (by rw [q2]; exact List.mem_of_getElem? hli)]
    · by_cases e : j = i
      · subst e
        rw [hli] at hl'
        cases hl'
        exact q2
      · exact hno j l' (by omega) hl'
  · refine ⟨?_, rfl⟩
    rw [decide_eq_false (by omega), decide_eq_false]
    intro hm
    obtain ⟨j, hj⟩ := List.mem_iff_getElem?.1 hm
    exact hno j _ (by have := (List.getElem?_eq_some_iff.1 hj).1; omega) hj rfl
theorem tab14 {i : Nat} (h : i < 14) : ∃ r, rows[i]? = some r ∧ (#[.string ⟨#[]⟩, .string ⟨#[98, 32, 66, 32, 98, 42, 32, 66, 42, 32, 66, 84, 32, 69, 84, 32, 69, 77, 67, 32, 66, 88, 32, 69, 88, 32, 102, 32, 70, 32, 102, 42, 32, 104, 32, 110, 32, 113, 32, 81, 32, 115, 32, 83, 32, 84, 42, 32, 87, 32, 87, 42]⟩, .string ⟨#[110]⟩, .string ⟨#[103, 32, 71, 32, 105, 32, 106, 32, 74, 32, 77, 32, 119, 32, 84, 99, 32, 84, 76, 32, 84, 114, 32, 84, 115, 32, 84, 119, 32, 84, 122]⟩, .string ⟨#[110, 110]⟩, .string ⟨#[100, 48, 32, 108, 32, 109, 32, 84, 100, 32, 84, 68]⟩, .string ⟨#[110, 110, 110]⟩, .string ⟨#[114, 103, 32, 82, 71]⟩, .string ⟨#[110, 110, 110, 110]⟩, .string ⟨#[107, 32, 75, 32, 114, 101, 32, 118, 32, 121]⟩, .string ⟨#[110, 110, 110, 110, 110, 110]⟩, .string ⟨#[99, 32, 99, 109, 32, 100, 49, 32, 84, 109]⟩, .string ⟨#[78]⟩, .string ⟨#[66, 77, 67, 32, 99, 115, 32, 67, 83, 32, 68, 111, 32, 103, 115, 32, 77, 80, 32, 114, 105, 32, 115, 104]⟩, .string ⟨#[78, 110]⟩, .string ⟨#[84, 102]⟩, .string ⟨#[78, 42]⟩, .string ⟨#[66, 68, 67, 32, 68, 80]⟩, .string ⟨#[115]⟩, .string ⟨#[84, 106, 32, 39]⟩, .string ⟨#[110, 110, 115]⟩, .string ⟨#[34]⟩, .string ⟨#[97]⟩, .string ⟨#[84, 74]⟩, .string ⟨#[97, 110]⟩, .string ⟨#[100]⟩, .string ⟨#[100]⟩, .string ⟨#[66, 73]⟩] : Array Value).extract (i * 2) (i * 2 + 2) = #[.string (ba r.1), .string (ba r.2.1)] := by
  have hc : i = 0 ∨ i = 1 ∨ i = 2 ∨ i = 3 ∨ i = 4 ∨ i = 5 ∨ i = 6 ∨ i = 7 ∨ i = 8 ∨ i = 9 ∨ i = 10 ∨ i = 11 ∨ i = 12 ∨ i = 13 := by omega
  rcases hc with rfl | rfl | rfl | rfl | rfl | rfl | rfl | rfl | rfl | rfl | rfl | rfl | rfl | rfl <;> exact ⟨_, rfl, rfl⟩
theorem c_takes (h : AS w) (name : ByteArray) : C73 name w fun r w1 => r = ba (takes (bl name)) ∧ Ext (fun _ => False) w w1 := by
  refine T73 _ _ _ ?_
  unfold S73
  refine (Hn.start w).nw fun w2 H => ?_
  simp only [List.nil_append, add_lit, Nat.zero_add] at H ⊢
  iterate 28 (refine H.st 0 rfl (by simp) fun _ H => ?_; simp only [List.nil_append, List.cons_append, List.set_cons_zero, List.set_cons_succ, Nat.zero_add] at H)
  iterate 28 refine H.ld 0 rfl rfl ?_
  have e0 := H.ext
  clear H
  refine ⟨fun n st w3 => ∃ i : Nat, st = (i : Int) ∧ i ≤ 14 ∧ n = 14 - i ∧ Ext (fun _ => False) w w3 ∧ ∀ j q, j < i → rows[j]? = some q → bl name ∉ q.2.2, 14, ⟨0, rfl, by omega, rfl, e0, fun j q hj => by omega⟩, ?_⟩
  clear e0
  rintro n st w3 ⟨i, rfl, hi, rfl, e3, hno⟩
  unfold S73L1
  refine Br.dec (fun q => ⟨by omega, by omega, ?_⟩) fun q => ⟨?_, e3⟩
  · obtain ⟨r, hr, hx⟩ := tab14 (i := i) (by omega)
    have hmem : r ∈ rows := List.mem_of_getElem? hr
    rw [Int.toNat_natCast]
    refine ⟨(ba r.1, ba r.2.1), hx, ?_⟩
    refine (Hn.start w3).nw fun w4 H => ?_
    simp only [List.nil_append] at H
    iterate 2 (refine H.st 0 rfl (by simp) fun _ H => ?_; simp only [List.nil_append, List.cons_append, List.set_cons_zero, List.set_cons_succ, Nat.zero_add] at H)
    iterate 1 refine H.ld 0 rfl rfl ?_
    have e4 := e3.tr H.ext
    refine (c_fields (h.keep e4) (L := r.2.2) (by rw [bl_ba]; exact of_decide_eq_true (List.all_eq_true.1 rows_ok r hmem)) (by
      have : (rows.all fun r => decide (r.2.1.length ≤ 1000)) = true := by decide +kernel
      have := of_decide_eq_true (List.all_eq_true.1 this r hmem)
      rw [ba_size]
      omega)).mono ?_
    rintro f w5 ⟨hf, e5⟩
    have H := H.keep e5
    refine (c_contains hf (by
      have : (rows.all fun r => decide (r.2.2.length ≤ 1000)) = true := by decide +kernel
      have := of_decide_eq_true (List.all_eq_true.1 this r hmem)
      omega) name).mono ?_
    rintro b w5 ⟨rfl, rfl⟩
    refine Br.dec (fun q2 => ?_) fun q2 => ?_
    · iterate 1 refine H.ld 0 rfl rfl ?_
      refine ⟨?_, e4.tr e5⟩
      congr 1
      exact (takesL_at rows i r hr hno q2).symm
    · refine ⟨14 - (i + 1), by omega, i + 1, by rw [i64_id (by omega)]; rfl, by omega, rfl, e4.tr e5, fun j q' hj hq' => ?_⟩
      by_cases e : j = i
      · subst e
        rw [hr] at hq'
        cases hq'
        exact q2
      · exact hno j q' (by omega) hq'
  · have hi14 : i = 14 := by omega
    have : takes (bl name) = [63] := takesL_no rows fun j q' hq' => hno j q' (by have := (List.getElem?_eq_some_iff.1 hq').1; have e : rows.length = 14 := rfl; omega) hq'
    rw [this]
    rfl
theorem c_fits (b : UInt8) (k : Int) (w : World) : C74 ((b.toNat : Nat) : Int) k w fun r w1 => r = fitsK b k ∧ w1 = w := by
  refine T74 _ _ _ _ ?_
  unfold S74 fitsK
  have e : ∀ c : UInt8, (((b.toNat : Nat) : Int) = ((c.toNat : Nat) : Int)) ↔ b = c := fun c => ⟨fun h => UInt8.toNat_inj.1 (by omega), fun h => by rw [h]⟩
  refine Br.eq (fun q => ?_) fun q => ?_
  · rw [if_pos ((e 110).1 q)]
    refine Br.eq (fun q2 => ⟨by rw [q2]; rfl, rfl⟩) fun q2 => ⟨by simp [q2], rfl⟩
  rw [if_neg fun h => q ((e 110).2 h)]
  refine Br.eq (fun q => ?_) fun q => ?_
  · rw [if_pos ((e 115).1 q)]
    exact ⟨rfl, rfl⟩
  rw [if_neg fun h => q ((e 115).2 h)]
  refine Br.eq (fun q => ?_) fun q => ?_
  · rw [if_pos ((e 78).1 q)]
    exact ⟨rfl, rfl⟩
  rw [if_neg fun h => q ((e 78).2 h)]
  refine Br.eq (fun q => ?_) fun q => ?_
  · rw [if_pos ((e 97).1 q)]
    exact ⟨rfl, rfl⟩
  rw [if_neg fun h => q ((e 97).2 h)]
  refine Br.eq (fun q => ?_) fun q => ?_
  · rw [if_pos ((e 100).1 q)]
    exact ⟨rfl, rfl⟩
  rw [if_neg fun h => q ((e 100).2 h)]
  exact ⟨rfl, rfl⟩
theorem byte_at {t : By} {i : Nat} (h : i < t.length) : t[i]? = some (t.getD i 0) := by
  rw [List.getD_eq_getElem?_getD, List.getElem?_eq_getElem h]
  rfl
theorem dec_at {t : By} {i : Nat} (h : i < t.length) (hb : (t.getD i 0).toNat < 128) : Utf8.decode (ba t) i = ((t.getD i 0).toNat, 1) := by
  have hs : i < (ba t).size := by rw [ba_size]; exact h
  have e : (ba t)[i]'hs = t.getD i 0 := by
    rw [List.getD_eq_getElem?_getD, List.getElem?_eq_getElem h]
    rfl
  have := decode_ascii (ba t) i hs (by rw [e]; exact hb)
  rw [this, e]
theorem c_check {name data : ByteArray} {s : Slc} {L : List Ob} (h : AS w) (hL : OV w s L) (hlen : L.length ≤ 9223372036854775807) : C42 (name, s, data) w fun r w1 => r = chkF (bl name) L (bl data) ∧ Ext (fun _ => False) w w1 := by
  refine T42 (name, s, data) _ _ ?_
  unfold S42
  refine (Hn.start w).nw fun w2 H => ?_
  simp only [List.nil_append] at H
  iterate 1 refine H.ld 0 rfl rfl ?_
  refine (c_takes (h.keep H.ext) name).mono ?_
  rintro t w3 ⟨rfl, e3⟩
  have H := H.keep e3
  obtain ⟨tl1, tl2⟩ := takes_low (bl name)
  rw [eqB, bl_ba]
  unfold chkF
  refine Br.dec (fun q => ⟨by rw [if_pos q], H.ext⟩) fun q => ?_
  have q' : takes (bl name) ≠ [63] := q
  rw [if_neg q']
  iterate 1 refine H.ld 0 rfl rfl ?_
  rw [ba_size, hL.1]
  refine Br.ne (fun q2 => ⟨by rw [if_pos (by omega)], H.ext⟩) fun q2 => ?_
  rw [if_neg (c := List.length (takes (bl name)) ≠ List.length L) (by omega)]
  generalize ht : takes (bl name) = t at *
  refine Nw.of ?_
  have hb3 : w3.heap.size < (w3.alloc (.stringIter (ba t) 0)).heap.size := by simp
  have H4 := H.keep ((Ext.refl (fun _ => False) w3).alloc (.stringIter (ba t) 0))
  have hlt := H.lt 0 rfl
  refine ⟨fun n st w4 => ∃ i : Nat, i ≤ t.length ∧ n = t.length - i ∧ w4.heap[w3.heap.size]? = some (.stringIter (ba t) i) ∧ Hn w w4 [(w.heap.size, [.string name, Slc.v s, .string data], 48)] ∧ ∀ j b o, j < i → t[j]? = some b → L[j]? = some o → fitsK b o.1 = true, t.length,
    ⟨0, by omega, rfl, by show (w3.heap.push _)[w3.heap.size]? = _; simp, H4, fun j b o hj => by omega⟩, ?_⟩
  rintro n st w4 ⟨i, hi, rfl, hit, H, hall⟩
  unfold S42L1
  have hsz4 : w3.heap.size < w4.heap.size := (Array.getElem?_eq_some_iff.1 hit).1
  refine ⟨ba t, i, rfl, hit, ?_⟩
  rw [ba_size]
  refine Br.dec (fun q3 => ?_) fun q3 => ?_
  · rw [dec_at q3 (tl2 i q3)]
    have e5 := itW_ext w4 w3.heap.size (ba t) (i + 1)
    have H5 : Hn w (itW w4 w3.heap.size (ba t) (i + 1)) [(w.heap.size, [.string name, Slc.v s, .string data], 48)] := H.other e5 fun j hj => by subst hj; simp; omega
    have hit5 := itW_at (s := ba t) (p := i + 1) hsz4
    generalize itW w4 w3.heap.size (ba t) (i + 1) = w5 at *
    refine H5.ld 0 rfl rfl ?_
    obtain ⟨o, ho⟩ : ∃ o, L[i]? = some o := ⟨_, List.getElem?_eq_getElem (by omega)⟩
    obtain ⟨a, ha, c0, _⟩ := (hL.keep H5.ext).get ho
    rw [hL.1, ha, Int.toNat_natCast]
    refine ⟨by omega, by omega, Nn.of (Ld.mk c0 ((c_fits _ _ _).mono ?_))⟩
    rintro r w6 ⟨rfl, rfl⟩
    by_cases hf : fitsK (t.getD i 0) o.1 = true
    · rw [hf]
      refine Br.f rfl ⟨t.length - (i + 1), by omega, i + 1, by omega, rfl, hit5, H5, fun j b o' hj hb ho' => ?_⟩
      by_cases e : j = i
      · subst e
        rw [byte_at q3] at hb
        rw [ho] at ho'
        cases hb; cases ho'
        exact hf
      · exact hall j b o' (by omega) hb ho'
    · have hf : fitsK (t.getD i 0) o.1 = false := by simpa using hf
      rw [hf]
      exact Br.t rfl ⟨by rw [if_pos (fitsT_no (byte_at q3) ho hf)], H5.ext⟩
  · have hyes : fitsT t L = true := fitsT_yes fun j b o hb ho => hall j b o (by have := (List.getElem?_eq_some_iff.1 hb).1; omega) hb ho
    rw [if_neg (by rw [hyes]; simp)]
    iterate 1 refine H.ld 0 rfl rfl ?_
    rw [eqB]
    have e0 : bl (⟨#[]⟩ : ByteArray) = [] := rfl
    have e1 : bl (⟨#[66, 73]⟩ : ByteArray) = [66, 73] := rfl
    rw [e0]
    by_cases hd : bl data = []
    · rw [decide_eq_true hd, if_neg fun hh => hh.1 hd]
      exact Br.f rfl ⟨rfl, H.ext⟩
    · rw [decide_eq_false hd]
      refine Br.t rfl ?_
      iterate 1 refine H.ld 0 rfl rfl ?_
      rw [eqB, e1]
      by_cases hn : bl name = [66, 73]
      · rw [decide_eq_true hn, if_neg fun hh => hh.2 hn]
        exact Br.f rfl ⟨rfl, H.ext⟩
      · rw [decide_eq_false hn, if_pos ⟨hd, hn⟩]
        exact Br.t rfl ⟨rfl, H.ext⟩
end
end Opr
end Go.Proofs.YtcblpehnkogfdaaGreatDoor
