/- Inflate: a prefix is read alike, or ends too soon; plain laws. No condition. -/
import Derived.Test.YtapgacggllbhiaaDoorInP
namespace Go.Proofs.YtapgacggllbhiaaDoor
namespace Inf
open Sh Bit
set_option linter.unusedVariables false
set_option linter.unusedSimpArgs false
set_option maxRecDepth 4000
set_option maxHeartbeats 1000000
/-- r is a prefix of t. -/
def Pre (r t : ByteArray) : Prop := ∃ m : List UInt8, t.data.toList = r.data.toList ++ m
theorem Pre.refl (t : ByteArray) : Pre t t := ⟨[], by simp⟩
theorem Pre.size {r t : ByteArray} (h : Pre r t) : r.size ≤ t.size := by
  obtain ⟨m, h⟩ := h
  rw [size_list, size_list, h, List.length_append]
  omega
theorem byt_l (s : ByteArray) (j : Nat) : byt s j = ((s.data.toList.getD j 0).toNat : Int) := by rw [← bAt_byt, bAt_list]
theorem Pre.byt {r t : ByteArray} (h : Pre r t) {j : Nat} (hj : j < r.size) : byt r j = byt t j := by
  obtain ⟨m, h⟩ := h
  rw [size_list] at hj
  rw [byt_l, byt_l, h, List.getD_eq_getElem?_getD, List.getD_eq_getElem?_getD, List.getElem?_append_left hj]
theorem Pre.bt {r t : ByteArray} (h : Pre r t) {p : Nat} (hp : p < 8 * r.size) : bt r 1 p = bt t 1 p := by
  unfold Bit.bt
  rw [h.byt (by omega)]
theorem Pre.tk {r t : ByteArray} (h : Pre r t) (p : Nat) : ∀ n, p + n ≤ 8 * r.size → tk r 1 p n = tk t 1 p n
  | 0, _ => rfl
  | n + 1, hn => by
    have ih := h.tk p n (by omega)
    have hb := h.bt (p := p + n) (by omega)
    show (if (1 : Int) = 1 then Bit.tk r 1 p n + Bit.bt r 1 (p + n) * 2 ^ n else _) = (if (1 : Int) = 1 then Bit.tk t 1 p n + Bit.bt t 1 (p + n) * 2 ^ n else _)
    rw [if_pos rfl, if_pos rfl, ih, hb]
theorem Pre.extract {r t : ByteArray} (h : Pre r t) {a b : Nat} (hb : b ≤ r.size) : (r.extract a b).data.toList = (t.extract a b).data.toList := by
  obtain ⟨m, h⟩ := h
  rw [size_list] at hb
  rw [extract_list, extract_list, h]
  by_cases ha : a ≤ r.data.toList.length
  · rw [List.drop_append_of_le_length ha, List.take_append_of_le_length (by rw [List.length_drop]; omega)]
  · rw [show b - a = 0 by omega, List.take_zero, List.take_zero]
/-- What a prefix answers, next to the whole: B bits are there. -/
structure Rel {α : Type} (B p : Nat) (R T : Except Int (α × Nat)) : Prop where
  t : ∀ x q, T = .ok (x, q) → p ≤ q ∧ ((q ≤ B ∧ R = .ok (x, q)) ∨ (B < q ∧ R = .error 4))
  r : ∀ x q, R = .ok (x, q) → T = .ok (x, q) ∧ q ≤ B
/-- A reading that respects prefixes. -/
def Good {α : Type} (t : ByteArray) (p : Nat) (A : ByteArray → Except Int (α × Nat)) : Prop := ∀ r, Pre r t → p ≤ 8 * r.size → Rel (8 * r.size) p (A r) (A t)
def bnd {α β : Type} (a : Except Int (α × Nat)) (f : α → Nat → Except Int (β × Nat)) : Except Int (β × Nat) := match a with
  | .error e => .error e
  | .ok (x, q) => f x q
theorem Good.bnd {α β : Type} {t : ByteArray} {p : Nat} {A : ByteArray → Except Int (α × Nat)} {f : ByteArray → α → Nat → Except Int (β × Nat)} (h : Good t p A) (k : ∀ x q, (∃ r, A r = .ok (x, q)) → p ≤ q → Good t q (fun r => f r x q)) : Good t p (fun r => Inf.bnd (A r) (f r)) := by
  intro r hr hp
  show Rel (8 * r.size) p (Inf.bnd (A r) (f r)) (Inf.bnd (A t) (f t))
  have hA := h r hr hp
  have hz := hr.size
  constructor
  · intro y q' hy
    cases hT : A t with
    | error e => rw [hT] at hy; cases hy
    | ok z =>
      obtain ⟨x, q⟩ := z
      rw [hT] at hy
      have hy : f t x q = .ok (y, q') := hy
      obtain ⟨h1, h2⟩ := hA.t x q hT
      have hqt : q ≤ 8 * t.size := by
        rcases ((h t (Pre.refl t) (by omega)).t x q hT).2 with e | e
        · exact e.1
        · rw [e.2] at hT; cases hT
      have hmono := ((k x q ⟨t, hT⟩ h1) t (Pre.refl t) hqt).t y q' hy
      rcases h2 with ⟨e1, e2⟩ | ⟨e1, e2⟩
      · obtain ⟨g1, g2⟩ := ((k x q ⟨t, hT⟩ h1) r hr e1).t y q' hy
        refine ⟨by omega, ?_⟩
        show (_ ∧ Inf.bnd (A r) (f r) = _) ∨ (_ ∧ Inf.bnd (A r) (f r) = _)
        rw [e2]
        exact g2
      · refine ⟨by omega, .inr ⟨by omega, ?_⟩⟩
        show Inf.bnd (A r) (f r) = _
        rw [e2]
        rfl
  · intro y q' hy
    cases hR : A r with
    | error e => rw [hR] at hy; cases hy
    | ok z =>
      obtain ⟨x, q⟩ := z
      rw [hR] at hy
      have hy : f r x q = .ok (y, q') := hy
      obtain ⟨h1, h2⟩ := hA.r x q hR
      obtain ⟨h3, _⟩ := hA.t x q h1
      have := ((k x q ⟨r, hR⟩ h3) r hr h2).r y q' hy
      refine ⟨?_, this.2⟩
      show Inf.bnd (A t) (f t) = _
      rw [h1]
      exact this.1
theorem Good.ok {α : Type} (t : ByteArray) (p : Nat) (x : α) : Good t p (fun _ => .ok (x, p)) := fun r hr hp => ⟨fun y q h => by cases h; exact ⟨Nat.le_refl _, .inl ⟨hp, rfl⟩⟩, fun y q h => by cases h; exact ⟨rfl, hp⟩⟩
theorem Good.er {α : Type} (t : ByteArray) (p : Nat) (e : Int) : Good (α := α) t p (fun _ => .error e) := fun r hr hp => ⟨fun y q h => (by cases h), fun y q h => (by cases h)⟩
theorem Good.ite {α : Type} {t : ByteArray} {p : Nat} {c : Prop} [Decidable c] {A B : ByteArray → Except Int (α × Nat)} (h1 : c → Good t p A) (h2 : ¬ c → Good t p B) : Good t p (fun r => if c then A r else B r) := by
  by_cases h : c
  · simpa only [if_pos h] using h1 h
  · simpa only [if_neg h] using h2 h
theorem Good.eq {α : Type} {t : ByteArray} {p : Nat} {A B : ByteArray → Except Int (α × Nat)} (h : Good t p A) (e : ∀ r, p ≤ 8 * r.size → B r = A r) : Good t p B := fun r hr hp => by
  have := h r hr hp
  rw [← e r hp, ← e t (by have := hr.size; omega)] at this
  exact this
theorem g_num (t : ByteArray) (p n : Nat) : Good t p (fun r => num r p n) := fun r hr hp => by
  show Rel (8 * r.size) p (num r p n) (num t p n)
  have hz := hr.size
  constructor
  · intro v q h
    obtain ⟨rfl, rfl, h3⟩ := num_ok h
    refine ⟨by omega, ?_⟩
    unfold num
    by_cases hb : p + n ≤ 8 * r.size
    · exact .inl ⟨hb, by rw [if_pos hb, hr.tk p n hb]⟩
    · exact .inr ⟨by omega, by rw [if_neg hb]⟩
  · intro v q h
    obtain ⟨rfl, rfl, h3⟩ := num_ok h
    refine ⟨?_, h3⟩
    unfold num
    rw [if_pos (by omega), hr.tk p n h3]
theorem g_sgo (t : ByteArray) (lens : List Int) : ∀ (k n : Nat) (c f : Int) (p : Nat), Good t p (fun r => sgo lens r k n c f p)
  | 0, n, c, f, p => Good.er t p 13
  | k + 1, n, c, f, p => by
    have h : Good t p (fun r => bnd (num r p 1) fun v q => if 2 * c + v - 2 * f < (cnt lens n : Int) then .ok ((idxs lens n).getD (2 * c + v - 2 * f).toNat 0, q) else sgo lens r k (n + 1) (2 * c + v) (2 * f + (cnt lens n : Int)) q) :=
      (g_num t p 1).bnd fun v q _ _ => Good.ite (fun _ => Good.ok t q _) fun _ => g_sgo t lens k (n + 1) _ _ q
    refine h.eq fun r hp => ?_
    conv => lhs; unfold sgo
    by_cases hb : 8 * r.size ≤ p
    · rw [if_pos hb]
      have e : num r p 1 = .error 4 := by unfold num; rw [if_neg (by omega)]
      rw [e]
      rfl
    · rw [if_neg hb]
      have htk : tk r 1 p 1 = bt r 1 p := by
        show (if (1 : Int) = 1 then tk r 1 p 0 + bt r 1 (p + 0) * 2 ^ 0 else _) = _
        rw [if_pos rfl, Nat.add_zero]
        show (0 : Int) + bt r 1 p * 1 = _
        omega
      have e : num r p 1 = .ok (bt r 1 p, p + 1) := by unfold num; rw [if_pos (by omega), htk]
      rw [e]
      rfl
theorem g_sym (t : ByteArray) (lens : List Int) (p : Nat) : Good t p (fun r => sym lens r p) := g_sgo t lens _ _ _ _ p
theorem g_lens19 (t : ByteArray) : ∀ (os : List Nat) (l : List Int) (p : Nat), Good t p (fun r => lens19 r os l p)
  | [], l, p => Good.ok t p l
  | o :: os, l, p => by
    have h : Good t p (fun r => bnd (num r p 3) fun v q => lens19 r os (l.set o v) q) := (g_num t p 3).bnd fun v q _ _ => g_lens19 t os _ q
    refine h.eq fun r _ => ?_
    conv => lhs; unfold lens19
    cases num r p 3 <;> rfl
theorem g_lensF (t : ByteArray) (lens : List Int) (many : Nat) : ∀ (k : Nat) (l : List Int) (p : Nat), Good t p (fun r => lensF lens r many k l p)
  | 0, l, p => Good.er t p 0
  | k + 1, l, p => by
    have h : Good t p (fun r => if many ≤ l.length then .ok (l, p) else bnd (sym lens r p) fun sg p1 => if sg < 16 then lensF lens r many k (l ++ [(sg : Int)]) p1 else if sg = 16 ∧ l.length = 0 then .error 3 else
        bnd (num r p1 (repB sg)) fun v p2 => if many < l.length + (repL sg + v.toNat) then .error 3 else lensF lens r many k (l ++ List.replicate (repL sg + v.toNat) (if sg = 16 then l.getD (l.length - 1) 0 else 0)) p2) :=
      Good.ite (fun _ => Good.ok t p _) fun _ => (g_sym t lens p).bnd fun sg p1 _ _ => Good.ite (fun _ => g_lensF t lens many k _ _) fun _ => Good.ite (fun _ => Good.er t _ _) fun _ =>
        (g_num t p1 _).bnd fun v p2 _ _ => Good.ite (fun _ => Good.er t _ _) fun _ => g_lensF t lens many k _ _
    refine h.eq fun r _ => ?_
    conv => lhs; unfold lensF
    split
    · rfl
    · cases sym lens r p with
      | error e => rfl
      | ok z =>
        obtain ⟨sg, p1⟩ := z
        dsimp only [bnd]
        split
        · rfl
        · split
          · rfl
          · cases num r p1 (repB sg) <;> rfl
theorem g_stored (t : ByteArray) (p : Nat) (out : List UInt8) (most : Nat) : Good t p (fun r => stored r p out most) := by
  have h : Good t ((p + 7) / 8 * 8) (fun r => bnd (num r ((p + 7) / 8 * 8) 16) fun n p1 => bnd (num r p1 16) fun m p2 => if m ≠ 65535 - n then .error 3 else if ¬ out.length + n.toNat ≤ most then .error 5 else if ¬ p2 / 8 + n.toNat ≤ r.size then .error 4 else .ok (out ++ (r.extract (p2 / 8) (p2 / 8 + n.toNat)).data.toList, p2 + 8 * n.toNat)) := by
    refine (g_num t _ 16).bnd fun n p1 h1 _ => (g_num t p1 16).bnd fun m p2 h2 _ => Good.ite (fun _ => Good.er t _ _) fun _ => Good.ite (fun _ => Good.er t _ _) fun _ => ?_
    obtain ⟨r1, h1⟩ := h1
    obtain ⟨r2, h2⟩ := h2
    obtain ⟨_, rfl, _⟩ := num_ok h1
    obtain ⟨_, rfl, _⟩ := num_ok h2
    intro r hr hp
    have hz := hr.size
    constructor
    · intro x q hx
      dsimp only at hx ⊢
      split at hx
      · cases hx
      · rename_i hsz
        cases hx
        refine ⟨by omega, ?_⟩
        by_cases hb : ((p + 7) / 8 * 8 + 16 + 16) / 8 + n.toNat ≤ r.size
        · exact .inl ⟨by omega, by rw [if_neg (fun hh => hh hb), hr.extract hb]⟩
        · exact .inr ⟨by omega, by rw [if_pos hb]⟩
    · intro x q hx
      dsimp only at hx ⊢
      split at hx
      · cases hx
      · rename_i hsz
        cases hx
        have hb : ((p + 7) / 8 * 8 + 16 + 16) / 8 + n.toNat ≤ r.size := Classical.not_not.1 hsz
        exact ⟨by rw [if_neg (by omega), hr.extract hb], by omega⟩
  have h' : Good t ((p + 7) / 8 * 8) (fun r => stored r p out most) := h.eq fun r _ => by
    conv => lhs; unfold stored
    cases num r ((p + 7) / 8 * 8) 16 with
    | error e => rfl
    | ok z =>
      obtain ⟨n, p1⟩ := z
      dsimp only [bnd]
      cases num r p1 16 <;> rfl
  intro r hr hp
  have := h' r hr (by omega)
  exact ⟨fun x q hx => ⟨by have := (this.t x q hx).1; omega, (this.t x q hx).2⟩, this.r⟩
/-- A triple, as a pair with a position. -/
def dynP (s : ByteArray) (p : Nat) : Except Int ((List Int × List Int) × Nat) := match dyn s p with
  | .error e => .error e
  | .ok (a, b, q) => .ok ((a, b), q)
theorem g_dyn (t : ByteArray) (p : Nat) : Good t p (fun r => dynP r p) := by
  have h : Good t p (fun r => bnd (num r p 5) fun hl p1 => if 29 < hl then .error 3 else bnd (num r p1 5) fun hd p2 => if 29 < hd then .error 3 else bnd (num r p2 4) fun hc p3 => bnd (lens19 r (order.take (hc.toNat + 4)) (List.replicate 19 0) p3) fun l19 p4 =>
      if chk l19 ≠ 0 then .error (chk l19) else bnd (lensF l19 r (hl.toNat + 257 + (hd.toNat + 1)) (hl.toNat + 257 + (hd.toNat + 1) + 1) [] p4) fun l p5 => if l.getD 256 0 = 0 then .error 13 else if chk (l.take (hl.toNat + 257)) ≠ 0 then .error (chk (l.take (hl.toNat + 257)))
        else if chk (l.drop (hl.toNat + 257)) ≠ 0 then .error (chk (l.drop (hl.toNat + 257))) else .ok ((l.take (hl.toNat + 257), l.drop (hl.toNat + 257)), p5)) :=
    (g_num t p 5).bnd fun hl p1 _ _ => Good.ite (fun _ => Good.er t _ _) fun _ => (g_num t p1 5).bnd fun hd p2 _ _ => Good.ite (fun _ => Good.er t _ _) fun _ => (g_num t p2 4).bnd fun hc p3 _ _ => (g_lens19 t _ _ p3).bnd fun l19 p4 _ _ =>
      Good.ite (fun _ => Good.er t _ _) fun _ => (g_lensF t _ _ _ _ p4).bnd fun l p5 _ _ => Good.ite (fun _ => Good.er t _ _) fun _ => Good.ite (fun _ => Good.er t _ _) fun _ => Good.ite (fun _ => Good.er t _ _) fun _ => Good.ok t _ _
  refine h.eq fun r _ => ?_
  unfold dynP dyn
  cases num r p 5 with
  | error e => rfl
  | ok z =>
    obtain ⟨hl, p1⟩ := z
    dsimp only [bnd]
    by_cases c1 : 29 < hl
    · rw [if_pos c1, if_pos c1]
    · rw [if_neg c1, if_neg c1]
      cases num r p1 5 with
      | error e => rfl
      | ok z =>
        obtain ⟨hd, p2⟩ := z
        dsimp only
        by_cases c2 : 29 < hd
        · rw [if_pos c2, if_pos c2]
        · rw [if_neg c2, if_neg c2]
          cases num r p2 4 with
          | error e => rfl
          | ok z =>
            obtain ⟨hc, p3⟩ := z
            dsimp only
            cases lens19 r (order.take (hc.toNat + 4)) (List.replicate 19 0) p3 with
            | error e => rfl
            | ok z =>
              obtain ⟨l19, p4⟩ := z
              dsimp only
              by_cases c3 : chk l19 ≠ 0
              · rw [if_pos c3, if_pos c3]
              · rw [if_neg c3, if_neg c3]
                cases lensF l19 r (hl.toNat + 257 + (hd.toNat + 1)) (hl.toNat + 257 + (hd.toNat + 1) + 1) [] p4 with
                | error e => rfl
                | ok z =>
                  obtain ⟨l, p5⟩ := z
                  dsimp only
                  by_cases c4 : l.getD 256 0 = 0
                  · rw [if_pos c4, if_pos c4]
                  · rw [if_neg c4, if_neg c4]
                    by_cases c5 : chk (l.take (hl.toNat + 257)) ≠ 0
                    · rw [if_pos c5, if_pos c5]
                    · rw [if_neg c5, if_neg c5]
                      by_cases c6 : chk (l.drop (hl.toNat + 257)) ≠ 0
                      · rw [if_pos c6, if_pos c6]
                      · rw [if_neg c6, if_neg c6]
theorem g_copied (t : ByteArray) (far : List Int) (most sg : Nat) (out : List UInt8) (p : Nat) : Good t p (fun r => copied r far most sg out p) := by
  have h : Good t p (fun r => if 285 < sg then .error 13 else bnd (num r p (moreL (sg - 257))) fun v p1 => bnd (sym far r p1) fun d p2 => if 29 < d then .error 13 else bnd (num r p2 (moreD d)) fun x p3 => if out.length < baseD d + x.toNat then .error 14 else if most < out.length + (firstL (sg - 257) + v.toNat) then .error 5
      else .ok (copy out (baseD d + x.toNat) (firstL (sg - 257) + v.toNat), p3)) :=
    Good.ite (fun _ => Good.er t _ _) fun _ => (g_num t p _).bnd fun v p1 _ _ => (g_sym t far p1).bnd fun d p2 _ _ => Good.ite (fun _ => Good.er t _ _) fun _ => (g_num t p2 _).bnd fun x p3 _ _ => Good.ite (fun _ => Good.er t _ _) fun _ => Good.ite (fun _ => Good.er t _ _) fun _ => Good.ok t _ _
  refine h.eq fun r _ => ?_
  unfold copied
  by_cases c1 : 285 < sg
  · rw [if_pos c1, if_pos c1]
  · rw [if_neg c1, if_neg c1]
    cases num r p (moreL (sg - 257)) with
    | error e => rfl
    | ok z =>
      obtain ⟨v, p1⟩ := z
      dsimp only [bnd]
      cases sym far r p1 with
      | error e => rfl
      | ok z =>
        obtain ⟨d, p2⟩ := z
        dsimp only
        by_cases c2 : 29 < d
        · rw [if_pos c2, if_pos c2]
        · rw [if_neg c2, if_neg c2]
          cases num r p2 (moreD d) <;> rfl
theorem g_signs (t : ByteArray) (near far : List Int) (most : Nat) : ∀ (n : Nat) (K : ByteArray → Nat) (out : List UInt8) (p : Nat), 8 * t.size < p + n → (∀ r, 8 * r.size < p + K r) → Good t p (fun r => signsF r near far most (K r) out p)
  | 0, K, out, p, h, _ => fun r hr hp => by have := hr.size; omega
  | n + 1, K, out, p, h, hK => by
    have g : Good t p (fun r => bnd (sym near r p) fun sg p1 => if sg = 256 then .ok (out, p1) else if 256 < sg then bnd (copied r far most sg out p1) fun o q => signsF r near far most (K r - 1) o q else if most ≤ out.length then .error 5 else signsF r near far most (K r - 1) (out ++ [UInt8.ofNat sg]) p1) := by
      refine (g_sym t near p).bnd fun sg p1 hx _ => Good.ite (fun _ => Good.ok t _ _) fun _ => Good.ite (fun _ => ?_) fun _ => Good.ite (fun _ => Good.er t _ _) fun _ => ?_
      · obtain ⟨r0, hx⟩ := hx
        have h1 := (sym_ok hx).1
        refine (g_copied t far most sg out p1).bnd fun o q hq _ => ?_
        obtain ⟨r1, hq⟩ := hq
        have h2 := (copied_ok hq).1
        exact g_signs t near far most n (fun r => K r - 1) o q (by omega) fun r => by have := hK r; omega
      · obtain ⟨r0, hx⟩ := hx
        have h1 := (sym_ok hx).1
        exact g_signs t near far most n (fun r => K r - 1) _ p1 (by omega) fun r => by have := hK r; omega
    refine g.eq fun r hp => ?_
    obtain ⟨m, hm⟩ : ∃ m, K r = m + 1 := ⟨K r - 1, by have := hK r; omega⟩
    rw [hm, Nat.add_sub_cancel]
    conv => lhs; unfold signsF
    cases sym near r p with
    | error e => rfl
    | ok z =>
      obtain ⟨sg, p1⟩ := z
      dsimp only [bnd]
      by_cases c1 : sg = 256
      · rw [if_pos c1, if_pos c1]
      · rw [if_neg c1, if_neg c1]
        by_cases c2 : 256 < sg
        · rw [if_pos c2, if_pos c2]
          cases copied r far most sg out p1 <;> rfl
        · rw [if_neg c2, if_neg c2]
theorem g_block (t : ByteArray) (most : Nat) (kind : Int) (out : List UInt8) (p : Nat) : Good t p (fun r => block r most kind out p) := by
  have g : Good t p (fun r => if kind = 3 then .error 3 else if kind = 0 then stored r p out most else if kind = 2 then bnd (dynP r p) fun ab q => signsF r ab.1 ab.2 most (8 * r.size + 1) out q else signsF r fixL fixD most (8 * r.size + 1) out p) :=
    Good.ite (fun _ => Good.er t _ _) fun _ => Good.ite (fun _ => g_stored t p out most) fun _ => Good.ite (fun _ => (g_dyn t p).bnd fun ab q _ _ => g_signs t _ _ most (8 * t.size + 1) (fun r => 8 * r.size + 1) out q (by omega) fun r => by omega) fun _ => g_signs t _ _ most (8 * t.size + 1) (fun r => 8 * r.size + 1) out p (by omega) fun r => by omega
  refine g.eq fun r _ => ?_
  unfold block dynP
  by_cases c1 : kind = 3
  · rw [if_pos c1, if_pos c1]
  · rw [if_neg c1, if_neg c1]
    by_cases c2 : kind = 0
    · rw [if_pos c2, if_pos c2]
    · rw [if_neg c2, if_neg c2]
      by_cases c3 : kind = 2
      · rw [if_pos c3, if_pos c3]
        cases dyn r p <;> rfl
      · rw [if_neg c3, if_neg c3]
/-- Block after block: the position in bits. -/
def allQ (s : ByteArray) (most : Nat) : Nat → List UInt8 → Nat → Except Int (List UInt8 × Nat)
  | 0, _, _ => .error 0
  | k + 1, out, p => bnd (num s p 1) fun last p1 => bnd (num s p1 2) fun kind p2 => bnd (block s most kind out p2) fun o q => if last = 1 then .ok (o, q) else allQ s most k o q
theorem allF_Q (s : ByteArray) (most : Nat) : ∀ (k : Nat) (out : List UInt8) (p : Nat), allF s most k out p = match allQ s most k out p with
    | .error e => .error e
    | .ok (o, q) => .ok (o, (q + 7) / 8)
  | 0, _, _ => rfl
  | k + 1, out, p => by
    conv => lhs; unfold allF
    conv => rhs; unfold allQ
    cases num s p 1 with
    | error e => rfl
    | ok z =>
      obtain ⟨last, p1⟩ := z
      dsimp only [bnd]
      cases num s p1 2 with
      | error e => rfl
      | ok z =>
        obtain ⟨kind, p2⟩ := z
        dsimp only
        cases block s most kind out p2 with
        | error e => rfl
        | ok z =>
          obtain ⟨o, q⟩ := z
          dsimp only
          by_cases c : last = 1
          · rw [if_pos c, if_pos c]
          · rw [if_neg c, if_neg c]
            exact allF_Q s most k o q
theorem g_all (t : ByteArray) (most : Nat) : ∀ (n : Nat) (K : ByteArray → Nat) (out : List UInt8) (p : Nat), 8 * t.size < p + n → (∀ r, 8 * r.size < p + K r) → Good t p (fun r => allQ r most (K r) out p)
  | 0, K, out, p, h, _ => fun r hr hp => by have := hr.size; omega
  | n + 1, K, out, p, h, hK => by
    have g : Good t p (fun r => bnd (num r p 1) fun last p1 => bnd (num r p1 2) fun kind p2 => bnd (block r most kind out p2) fun o q => if last = 1 then .ok (o, q) else allQ r most (K r - 1) o q) := by
      refine (g_num t p 1).bnd fun last p1 h1 _ => (g_num t p1 2).bnd fun kind p2 h2 _ => (g_block t most kind out p2).bnd fun o q _ hq => Good.ite (fun _ => Good.ok t _ _) fun _ => ?_
      obtain ⟨r1, h1⟩ := h1
      obtain ⟨r2, h2⟩ := h2
      obtain ⟨_, rfl, _⟩ := num_ok h1
      obtain ⟨_, rfl, _⟩ := num_ok h2
      exact g_all t most n (fun r => K r - 1) o q (by omega) fun r => by have := hK r; omega
    refine g.eq fun r hp => ?_
    obtain ⟨m, hm⟩ : ∃ m, K r = m + 1 := ⟨K r - 1, by have := hK r; omega⟩
    rw [hm, Nat.add_sub_cancel]
    rfl
end Inf
end Go.Proofs.YtapgacggllbhiaaDoor
