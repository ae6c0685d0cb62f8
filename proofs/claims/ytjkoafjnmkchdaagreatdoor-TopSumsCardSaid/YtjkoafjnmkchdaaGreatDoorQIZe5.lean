/- Inflate: a prefix is read alike, or ends too soon; plain laws. No condition. -/
import Derived.Test.YtjkoafjnmkchdaaGreatDoorQIZe4
import Derived.Test.YtjkoafjnmkchdaaGreatDoorQIZe2
import Derived.Test.YtjkoafjnmkchdaaGreatDoorQIZe3
namespace Go.Proofs.YtjkoafjnmkchdaaGreatDoor
namespace Inf
open Sh Bit
set_option linter.unusedVariables false
set_option linter.unusedSimpArgs false
set_option maxRecDepth 4000
set_option maxHeartbeats 1000000
/-- r is a prefix of t. -/
def Pre (r t : ByteArray) : Prop := ∃ m : List UInt8, t.data.toList = r.data.toList ++ m
theorem Pre.refl (t : ByteArray) : Pre t t := ⟨[], by simp⟩
theorem Pre.size {r t : ByteArray} (h : Pre r t) : r.size ≤ t.size := by
  obtain ⟨m, h⟩ := h
  rw [size_list, size_list, h, List.length_append]
  omega
theorem byt_l (s : ByteArray) (j : Nat) : byt s j = ((s.data.toList.getD j 0).toNat : Int) := by rw [← bAt_byt, bAt_list]
theorem Pre.byt {r t : ByteArray} (h : Pre r t) {j : Nat} (hj : j < r.size) : byt r j = byt t j := by
  obtain ⟨m, h⟩ := h
  rw [size_list] at hj
  rw [byt_l, byt_l, h, List.getD_eq_getElem?_getD, List.getD_eq_getElem?_getD, List.getElem?_append_left hj]
theorem Pre.bt {r t : ByteArray} (h : Pre r t) {p : Nat} (hp : p < 8 * r.size) : bt r 1 p = bt t 1 p := by
  unfold Bit.bt
  rw [h.byt (by omega)]
theorem Pre.tk {r t : ByteArray} (h : Pre r t) (p : Nat) : ∀ n, p + n ≤ 8 * r.size → tk r 1 p n = tk t 1 p n
  | 0, _ => rfl
  | n + 1, hn => by
    have ih := h.tk p n (by omega)
    have hb := h.bt (p := p + n) (by omega)
    show (if (1 : Int) = 1 then Bit.tk r 1 p n + Bit.bt r 1 (p + n) * 2 ^ n else _) = (if (1 : Int) = 1 then Bit.tk t 1 p n + Bit.bt t 1 (p + n) * 2 ^ n else _)
    rw [if_pos rfl, if_pos rfl, ih, hb]
theorem Pre.extract {r t : ByteArray} (h : Pre r t) {a b : Nat} (hb : b ≤ r.size) : (r.extract a b).data.toList = (t.extract a b).data.toList := by
  obtain ⟨m, h⟩ := h
  rw [size_list] at hb
  rw [extract_list, extract_list, h]
  by_cases ha : a ≤ r.data.toList.length
  · rw [List.drop_append_of_le_length ha, List.take_append_of_le_length (by rw [List.length_drop]; omega)]
  · rw [show b - a = 0 by omega, List.take_zero, List.take_zero]
/-- What a prefix answers, next to the whole: B bits are there. -/
structure Rel {α : Type} (B p : Nat) (R T : Except Int (α × Nat)) : Prop where
  t : ∀ x q, T = .ok (x, q) → p ≤ q ∧ ((q ≤ B ∧ R = .ok (x, q)) ∨ (B < q ∧ R = .error 4))
  r : ∀ x q, R = .ok (x, q) → T = .ok (x, q) ∧ q ≤ B
/-- A reading that respects prefixes. -/
def Good {α : Type} (t : ByteArray) (p : Nat) (A : ByteArray → Except Int (α × Nat)) : Prop := ∀ r, Pre r t → p ≤ 8 * r.size → Rel (8 * r.size) p (A r) (A t)
def bnd {α β : Type} (a : Except Int (α × Nat)) (f : α → Nat → Except Int (β × Nat)) : Except Int (β × Nat) := match a with
  | .error e => .error e
  | .ok (x, q) => f x q
theorem Good.bnd {α β : Type} {t : ByteArray} {p : Nat} {A : ByteArray → Except Int (α × Nat)} {f : ByteArray → α → Nat → Except Int (β × Nat)} (h : Good t p A) (k : ∀ x q, (∃ r, A r = .ok (x, q)) → p ≤ q → Good t q (fun r => f r x q)) : Good t p (fun r => Inf.bnd (A r) (f r)) := by
  intro r hr hp
  show Rel (8 * r.size) p (Inf.bnd (A r) (f r)) (Inf.bnd (A t) (f t))
  have hA := h r hr hp
  have hz := hr.size
  constructor
  · intro y q' hy
    cases hT : A t with
    | error e => rw [hT] at hy; cases hy
    | ok z =>
      obtain ⟨x, q⟩ := z
      rw [hT] at hy
      have hy : f t x q = .ok (y, q') := hy
      obtain ⟨h1, h2⟩ := hA.t x q hT
      have hqt : q ≤ 8 * t.size := by
        rcases ((h t (Pre.refl t) (by omega)).t x q hT).2 with e | e
        · exact e.1
        · rw [e.2] at hT; cases hT
      have hmono := ((k x q ⟨t, hT⟩ h1) t (Pre.refl t) hqt).t y q' hy
      rcases h2 with ⟨e1, e2⟩ | ⟨e1, e2⟩
      · obtain ⟨g1, g2⟩ := ((k x q ⟨t, hT⟩ h1) r hr e1).t y q' hy
        refine ⟨by omega, ?_⟩
        show (_ ∧ Inf.bnd (A r) (f r) = _) ∨ (_ ∧ Inf.bnd (A r) (f r) = _)
        rw [e2]
        exact g2
      · refine ⟨by omega, .inr ⟨by omega, ?_⟩⟩
        show Inf.bnd (A r) (f r) = _
        rw [e2]
        rfl
  · intro y q' hy
    cases hR : A r with
    | error e => rw [hR] at hy; cases hy
    | ok z =>
      obtain ⟨x, q⟩ := z
      rw [hR] at hy
      have hy : f r x q = .ok (y, q') := hy
      obtain ⟨h1, h2⟩ := hA.r x q hR
      obtain ⟨h3, _⟩ := hA.t x q h1
      have := ((k x q ⟨r, hR⟩ h3) r hr h2).r y q' hy
      refine ⟨?_, this.2⟩
      show Inf.bnd (A t) (f t) = _
      rw [h1]
      exact this.1
theorem Good.ok {α : Type} (t : ByteArray) (p : Nat) (x : α) : Good t p (fun _ => .ok (x, p)) := fun r hr hp => ⟨fun y q h => by cases h; exact ⟨Nat.le_refl _, .inl ⟨hp, rfl⟩⟩, fun y q h => by cases h; exact ⟨rfl, hp⟩⟩
theorem Good.er {α : Type} (t : ByteArray) (p : Nat) (e : Int) : Good (α := α) t p (fun _ => .error e) := fun r hr hp => ⟨fun y q h => (by cases h), fun y q h => (by cases h)⟩
theorem Good.ite {α : Type} {t : ByteArray} {p : Nat} {c : Prop} [Decidable c] {A B : ByteArray → Except Int (α × Nat)} (h1 : c → Good t p A) (h2 : ¬ c → Good t p B) : Good t p (fun r => if c then A r else B r) := by
  by_cases h : c
  · simpa only [if_pos h] using h1 h
  · simpa only [if_neg h] using h2 h
theorem Good.eq {α : Type} {t : ByteArray} {p : Nat} {A B : ByteArray → Except Int (α × Nat)} (h : Good t p A) (e : ∀ r, p ≤ 8 * r.size → B r = A r) : Good t p B := fun r hr hp => by
  have := h r hr hp
  rw [← e r hp, ← e t (by have := hr.size; omega)] at this
  exact this
theorem g_num (t : ByteArray) (p n : Nat) : Good t p (fun r => num r p n) := fun r hr hp => by
  show Rel (8 * r.size) p (num r p n) (num t p n)
  have hz := hr.size
  constructor
  · intro v q h
    obtain ⟨rfl, rfl, h3⟩ := num_ok h
    refine ⟨by omega, ?_⟩
    unfold num
    by_cases hb : p + n ≤ 8 * r.size
    · exact .inl ⟨hb, by rw [if_pos hb, hr.tk p n hb]⟩
    · exact .inr ⟨by omega, by rw [if_neg hb]⟩
  · intro v q h
    obtain ⟨rfl, rfl, h3⟩ := num_ok h
    refine ⟨?_, h3⟩
    unfold num
    rw [if_pos (by omega), hr.tk p n h3]
theorem g_sgo (t : ByteArray) (lens : List Int) : ∀ (k n : Nat) (c f : Int) (p : Nat), Good t p (fun r => sgo lens r k n c f p)
  | 0, n, c, f, p => Good.er t p 13
  | k + 1, n, c, f, p => by
    have h : Good t p (fun r => bnd (num r p 1) fun v q => if 2 * c + v - 2 * f < (cnt lens n : Int) then .ok ((idxs lens n).getD (2 * c + v - 2 * f).toNat 0, q) else sgo lens r k (n + 1) (2 * c + v) (2 * f + (cnt lens n : Int)) q) :=
      (g_num t p 1).bnd fun v q _ _ => Good.ite (fun _ => Good.ok t q _) fun _ => g_sgo t lens k (n + 1) _ _ q
    refine h.eq fun r hp => ?_
    conv => lhs; unfold sgo
    by_cases hb : 8 * r.size ≤ p
    · rw [if_pos hb]
      have e : num r p 1 = .error 4 := by unfold num; rw [if_neg (by omega)]
      rw [e]
      rfl
    · rw [if_neg hb]
      have htk : tk r 1 p 1 = bt r 1 p := by
        show (if (1 : Int) = 1 then tk r 1 p 0 + bt r 1 (p + 0) * 2 ^ 0 else _) = _
        rw [if_pos rfl, Nat.add_zero]
        show (0 : Int) + bt r 1 p * 1 = _
        omega
      have e : num r p 1 = .ok (bt r 1 p, p + 1) := by unfold num; rw [if_pos (by omega), htk]
      rw [e]
      rfl
theorem g_sym (t : ByteArray) (lens : List Int) (p : Nat) : Good t p (fun r => sym lens r p) := g_sgo t lens _ _ _ _ p
theorem g_lens19 (t : ByteArray) : ∀ (os : List Nat) (l : List Int) (p : Nat), Good t p (fun r => lens19 r os l p)
  | [], l, p => Good.ok t p l
  | o :: os, l, p => by
    have h : Good t p (fun r => bnd (num r p 3) fun v q => lens19 r os (l.set o v) q) := (g_num t p 3).bnd fun v q _ _ => g_lens19 t os _ q
    refine h.eq fun r _ => ?_
    conv => lhs; unfold lens19
    cases num r p 3 <;> rfl
theorem g_lensF (t : ByteArray) (lens : List Int) (many : Nat) : ∀ (k : Nat) (l : List Int) (p : Nat), Good t p (fun r => lensF lens r many k l p)
  | 0, l, p => Good.er t p 0
  | k + 1, l, p => by
    have h : Good t p (fun r => if many ≤ l.length then .ok (l, p) else bnd (sym lens r p) fun sg p1 => if sg < 16 then lensF lens r many k (l ++ [(sg : Int)]) p1 else if sg = 16 ∧ l.length = 0 then .error 3 else
        bnd (num r p1 (repB sg)) fun v p2 => if many < l.length + (repL sg + v.toNat) then .error 3 else lensF lens r many k (l ++ List.replicate (repL sg + v.toNat) (if sg = 16 then l.getD (l.length - 1) 0 else 0)) p2) :=
      Good.ite (fun _ => Good.ok t p _) fun _ => (g_sym t lens p).bnd fun sg p1 _ _ => Good.ite (fun _ => g_lensF t lens many k _ _) fun _ => Good.ite (fun _ => Good.er t _ _) fun _ =>
        (g_num t p1 _).bnd fun v p2 _ _ => Good.ite (fun _ => Good.er t _ _) fun _ => g_lensF t lens many k _ _
    refine h.eq fun r _ => ?_
    conv => lhs; unfold lensF
    split
    · rfl
    · cases sym lens r p with
      | error e => rfl
      | ok z =>
        obtain ⟨sg, p1⟩ := z
        dsimp only [bnd]
        split
        · rfl
        · split
          · rfl
          · cases num r p1 (repB sg) <;> rfl
theorem g_stored (t : ByteArray) (p : Nat) (out : List UInt8) (most : Nat) : Good t p (fun r => stored r p out most) := by
  have h : Good t ((p + 7) / 8 * 8) (fun r => bnd (num r ((p + 7) / 8 * 8) 16) fun n p1 => bnd (num r p1 16) fun m p2 => if m ≠ 65535 - n then .error 3 else if ¬ out.length + n.toNat ≤ most then .error 5 else if ¬ p2 / 8 + n.toNat ≤ r.size then .error 4 else .ok (out ++ (r.extract (p2 / 8) (p2 / 8 + n.toNat)).data.toList, p2 + 8 * n.toNat)) := by
    refine (g_num t _ 16).bnd fun n p1 h1 _ => (g_num t p1 16).bnd fun m p2 h2 _ => Good.ite (fun _ => Good.er t _ _) fun _ => Good.ite (fun _ => Good.er t _ _) fun _ => ?_
    obtain ⟨r1, h1⟩ := h1
    obtain ⟨r2, h2⟩ := h2
    obtain ⟨_, rfl, _⟩ := num_ok h1
    obtain ⟨_, rfl, _⟩ := num_ok h2
    intro r hr hp
    have hz := hr.size
    constructor
    · intro x q hx
      dsimp only at hx ⊢
      split at hx
      · cases hx
      · rename_i hsz
        cases hx
        refine ⟨by omega, ?_⟩
        by_cases hb : ((p + 7) / 8 * 8 + 16 + 16) / 8 + n.toNat ≤ r.size
        · exact .inl ⟨by omega, by rw [if_neg (fun hh => hh hb), hr.extract hb]⟩
        · exact .inr ⟨by omega, by rw [if_pos hb]⟩
    · intro x q hx
      dsimp only at hx ⊢
      split at hx
      · cases hx
      · rename_i hsz
        cases hx
        have hb : ((p + 7) / 8 * 8 + 16 + 16) / 8 + n.toNat ≤ r.size := Classical.not_not.1 hsz
        exact ⟨by rw [if_neg (by omega), hr.extract hb], by omega⟩
  have h' : Good t ((p + 7) / 8 * 8) (fun r => stored r p out most) := h.eq fun r _ => by
    conv => lhs; unfold stored
    cases num r ((p + 7) / 8 * 8) 16 with
    | error e => rfl
    | ok z =>
      obtain ⟨n, p1⟩ := z
      dsimp only [bnd]
      cases num r p1 16 <;> rfl
  intro r hr hp
  have := h' r hr (by omega)
  exact ⟨fun x q hx => ⟨by have := (this.t x q hx).1; omega, (this.t x q hx).2⟩, this.r⟩
/-- A triple, as a pair with a position. -/
def dynP (s : ByteArray) (p : Nat) : Except Int ((List Int × List Int) × Nat) := match dyn s p with
  | .error e => .error e
  | .ok (a, b, q) => .ok ((a, b), q)
theorem g_dyn (t : ByteArray) (p : Nat) : Good t p (fun r => dynP r p) := by
  have h : Good t p (fun r => bnd (num r p 5) fun hl p1 => if 29 < hl then .error 3 else bnd (num r p1 5) fun hd p2 => if 29 < hd then .error 3 else bnd (num r p2 4) fun hc p3 => bnd (lens19 r (order.take (hc.toNat + 4)) (List.replicate 19 0) p3) fun l19 p4 =>
      if chk l19 ≠ 0 then .error (chk l19) else bnd (lensF l19 r (hl.toNat + 257 + (hd.toNat + 1)) (hl.toNat + 257 + (hd.toNat + 1) + 1) [] p4) fun l p5 => if l.getD 256 0 = 0 then .error 13 else if chk (l.take (hl.toNat + 257)) ≠ 0 then .error (chk (l.take (hl.toNat + 257)))
        else if chk (l.drop (hl.toNat + 257)) ≠ 0 then .error (chk (l.drop (hl.toNat + 257))) else .ok ((l.take (hl.toNat + 257), l.drop (hl.toNat + 257)), p5)) :=
    (g_num t p 5).bnd fun hl p1 _ _ => Good.ite (fun _ => Good.er t _ _) fun _ => (g_num t p1 5).bnd fun hd p2 _ _ => Good.ite (fun _ => Good.er t _ _) fun _ => (g_num t p2 4).bnd fun hc p3 _ _ => (g_lens19 t _ _ p3).bnd fun l19 p4 _ _ =>
      Good.ite (fun _ => Good.er t _ _) fun _ => (g_lensF t _ _ _ _ p4).bnd fun l p5 _ _ => Good.ite (fun _ => Good.er t _ _) fun _ => Good.ite (fun _ => Good.er t _ _) fun _ => Good.ite (fun _ => Good.er t _ _) fun _ => Good.ok t _ _
  refine h.eq fun r _ => ?_
  unfold dynP dyn
  cases num r p 5 with
  | error e => rfl
  | ok z =>
    obtain ⟨hl, p1⟩ := z
    dsimp only [bnd]
    by_cases c1 : 29 < hl
    · rw [if_pos c1, if_pos c1]
    · rw [if_neg c1, if_neg c1]
      cases num r p1 5 with
      | error e => rfl
      | ok z =>
        obtain ⟨hd, p2⟩ := z
        dsimp only
        by_cases c2 : 29 < hd
        · rw [if_pos c2, if_pos c2]
        · rw [if_neg c2, if_neg c2]
          cases num r p2 4 with
          | error e => rfl
          | ok z =>
            obtain ⟨hc, p3⟩ := z
            dsimp only
            cases lens19 r (order.take (hc.toNat + 4)) (List.replicate 19 0) p3 with
            | error e => rfl
            | ok z =>
              obtain ⟨l19, p4⟩ := z
              dsimp only
              by_cases c3 : chk l19 ≠ 0
              · rw [if_pos c3, if_pos c3]
              · rw [if_neg c3, if_neg c3]
                cases lensF l19 r (hl.toNat + 257 + (hd.toNat + 1)) (hl.toNat + 257 + (hd.toNat + 1) + 1) [] p4 with
                | error e => rfl
                | ok z =>
                  obtain ⟨l, p5⟩ := z
                  dsimp only
                  by_cases c4 : l.getD 256 0 = 0
                  · rw [if_pos c4, if_pos c4]
                  · rw [if_neg c4, if_neg c4]
                    by_cases c5 : chk (l.take (hl.toNat + 257)) ≠ 0
                    · rw [if_pos c5, if_pos c5]
                    · rw [if_neg c5, if_neg c5]
                      by_cases c6 : chk (l.drop (hl.toNat + 257)) ≠ 0
                      · rw [if_pos c6, if_pos c6]
                      · rw [if_neg c6, if_neg c6]
theorem g_copied (t : ByteArray) (far : List Int) (most sg : Nat) (out : List UInt8) (p : Nat) : Good t p (fun r => copied r far most sg out p) := by
  have h : Good t p (fun r => if 285 < sg then .error 13 else bnd (num r p (moreL (sg - 257))) fun v p1 => bnd (sym far r p1) fun d p2 => if 29 < d then .error 13 else bnd (num r p2 (moreD d)) fun x p3 => if out.length < baseD d + x.toNat then .error 14 else if most < out.length + (firstL (sg - 257) + v.toNat) then .error 5
      else .ok (copy out (baseD d + x.toNat) (firstL (sg - 257) + v.toNat), p3)) :=
    Good.ite (fun _ => Good.er t _ _) fun _ => (g_num t p _).bnd fun v p1 _ _ => (g_sym t far p1).bnd fun d p2 _ _ => Good.ite (fun _ => Good.er t _ _) fun _ => (g_num t p2 _).bnd fun x p3 _ _ => Good.ite (fun _ => Good.er t _ _) fun _ => Good.ite (fun _ => Good.er t _ _) fun _ => Good.ok t _ _
  refine h.eq fun r _ => ?_
  unfold copied
  by_cases c1 : 285 < sg
  · rw [if_pos c1, if_pos c1]
  · rw [if_neg c1, if_neg c1]
    cases num r p (moreL (sg - 257)) with
    | error e => rfl
    | ok z =>
      obtain ⟨v, p1⟩ := z
      dsimp only [bnd]
      cases sym far r p1 with
      | error e => rfl
      | ok z =>
        obtain ⟨d, p2⟩ := z
        dsimp only
        by_cases c2 : 29 < d
        · rw [if_pos c2, if_pos c2]
        · rw [if_neg c2, if_neg c2]
          cases num r p2 (moreD d) <;> rfl
theorem g_signs (t : ByteArray) (near far : List Int) (most : Nat) : ∀ (n : Nat) (K : ByteArray → Nat) (out : List UInt8) (p : Nat), 8 * t.size < p + n → (∀ r, 8 * r.size < p + K r) → Good t p (fun r => signsF r near far most (K r) out p)
  | 0, K, out, p, h, _ => fun r hr hp => by have := hr.size; omega
  | n + 1, K, out, p, h, hK => by
    have g : Good t p (fun r => bnd (sym near r p) fun sg p1 => if sg = 256 then .ok (out, p1) else if 256 < sg then bnd (copied r far most sg out p1) fun o q => signsF r near far most (K r - 1) o q else if most ≤ out.length then .error 5 else signsF r near far most (K r - 1) (out ++ [UInt8.ofNat sg]) p1) := by
      refine (g_sym t near p).bnd fun sg p1 hx _ => Good.ite (fun _ => Good.ok t _ _) fun _ => Good.ite (fun _ => ?_) fun _ => Good.ite (fun _ => Good.er t _ _) fun _ => ?_
      · obtain ⟨r0, hx⟩ := hx
        have h1 := (sym_ok hx).1
        refine (g_copied t far most sg out p1).bnd fun o q hq _ => ?_
        obtain ⟨r1, hq⟩ := hq
        have h2 := (copied_ok hq).1
        exact g_signs t near far most n (fun r => K r - 1) o q (by omega) fun r => by have := hK r; omega
      · obtain ⟨r0, hx⟩ := hx
        have h1 := (sym_ok hx).1
        exact g_signs t near far most n (fun r => K r - 1) _ p1 (by omega) fun r => by have := hK r; omega
    refine g.eq fun r hp => ?_
    obtain ⟨m, hm⟩ : ∃ m, K r = m + 1 := ⟨K r - 1, by have := hK r; omega⟩
    rw [hm, Nat.add_sub_cancel]
    conv => lhs; unfold signsF
    cases sym near r p with
    | error e => rfl
    | ok z =>
      obtain ⟨sg, p1⟩ := z
      dsimp only [bnd]
      by_cases c1 : sg = 256
      · rw [if_pos c1, if_pos c1]
      · rw [if_neg c1, if_neg c1]
        by_cases c2 : 256 < sg
        · rw [if_pos c2, if_pos c2]
          cases copied r far most sg out p1 <;> rfl
        · rw [if_neg c2, if_neg c2]
theorem g_block (t : ByteArray) (most : Nat) (kind : Int) (out : List UInt8) (p : Nat) : Good t p (fun r => block r most kind out p) := by
  have g : Good t p (fun r => if kind = 3 then .error 3 else if kind = 0 then stored r p out most else if kind = 2 then bnd (dynP r p) fun ab q => signsF r ab.1 ab.2 most (8 * r.size + 1) out q else signsF r fixL fixD most (8 * r.size + 1) out p) :=
    Good.ite (fun _ => Good.er t _ _) fun _ => Good.ite (fun _ => g_stored t p out most) fun _ => Good.ite (fun _ => (g_dyn t p).bnd fun ab q _ _ => g_signs t _ _ most (8 * t.size + 1) (fun r => 8 * r.size + 1) out q (by omega) fun r => by omega) fun _ => g_signs t _ _ most (8 * t.size + 1) (fun r => 8 * r.size + 1) out p (by omega) fun r => by omega
  refine g.eq fun r _ => ?_
  unfold block dynP
  by_cases c1 : kind = 3
  · rw [if_pos c1, if_pos c1]
  · rw [if_neg c1, if_neg c1]
    by_cases c2 : kind = 0
    · rw [if_pos c2, if_pos c2]
    · rw [if_neg c2, if_neg c2]
      by_cases c3 : kind = 2
      · rw [if_pos c3, if_pos c3]
        cases dyn r p <;> rfl
      · rw [if_neg c3, if_neg c3]
/-- Block after block: the position in bits. -/
def allQ (s : ByteArray) (most : Nat) : Nat → List UInt8 → Nat → Except Int (List UInt8 × Nat)
  | 0, _, _ => .error 0
  | k + 1, out, p => bnd (num s p 1) fun last p1 => bnd (num s p1 2) fun kind p2 => bnd (block s most kind out p2) fun o q => if last = 1 then .ok (o, q) else allQ s most k o q
theorem allF_Q (s : ByteArray) (most : Nat) : ∀ (k : Nat) (out : List UInt8) (p : Nat), allF s most k out p = match allQ s most k out p with
    | .error e => .error e
    | .ok (o, q) => .ok (o, (q + 7) / 8)
  | 0, _, _ => rfl
  | k + 1, out, p => by
    conv => lhs; unfold allF
    conv => rhs; unfold allQ
    cases num s p 1 with
    | error e => rfl
    | ok z =>
      obtain ⟨last, p1⟩ := z
      dsimp only [bnd]
      cases num s p1 2 with
      | error e => rfl
      | ok z =>
        obtain ⟨kind, p2⟩ := z
        dsimp only
        cases block s most kind out p2 with
        | error e => rfl
        | ok z =>
          obtain ⟨o, q⟩ := z
          dsimp only
          by_cases c : last = 1
          · rw [if_pos c, if_pos c]
          · rw [if_neg c, if_neg c]
            exact allF_Q s most k o q
theorem g_all (t : ByteArray) (most : Nat) : ∀ (n : Nat) (K : ByteArray → Nat) (out : List UInt8) (p : Nat), 8 * t.size < p + n → (∀ r, 8 * r.size < p + K r) → Good t p (fun r => allQ r most (K r) out p)
  | 0, K, out, p, h, _ => fun r hr hp => by have := hr.size; omega
  | n + 1, K, out, p, h, hK => by
    have g : Good t p (fun r => bnd (num r p 1) fun last p1 => bnd (num r p1 2) fun kind p2 => bnd (block r most kind out p2) fun o q => if last = 1 then .ok (o, q) else allQ r most (K r - 1) o q) := by
      refine (g_num t p 1).bnd fun last p1 h1 _ => (g_num t p1 2).bnd fun kind p2 h2 _ => (g_block t most kind out p2).bnd fun o q _ hq => Good.ite (fun _ => Good.ok t _ _) fun _ => ?_
      obtain ⟨r1, h1⟩ := h1
      obtain ⟨r2, h2⟩ := h2
      obtain ⟨_, rfl, _⟩ := num_ok h1
      obtain ⟨_, rfl, _⟩ := num_ok h2
      exact g_all t most n (fun r => K r - 1) o q (by omega) fun r => by have := hK r; omega
    refine g.eq fun r hp => ?_
    obtain ⟨m, hm⟩ : ∃ m, K r = m + 1 := ⟨K r - 1, by have := hK r; omega⟩
    rw [hm, Nat.add_sub_cancel]
    rfl
end Inf
end Go.Proofs.YtjkoafjnmkchdaaGreatDoor

/- Inflate: more room does not matter; errors are errors; InflateEnds. Condition: the laid variables. -/
namespace Go.Proofs.YtjkoafjnmkchdaaGreatDoor
namespace Inf
open Sh Bit
set_option linter.unusedVariables false
set_option linter.unusedSimpArgs false
set_option maxRecDepth 4000
set_option maxHeartbeats 1000000
section
variable {s : ByteArray} {m m' : Nat} (hm : m ≤ m')
theorem m_stored {p : Nat} {out : List UInt8} {r : List UInt8 × Nat} (hm : m ≤ m') (h : stored s p out m = .ok r) : stored s p out m' = .ok r := by
  unfold stored at h ⊢
  cases h1 : num s ((p + 7) / 8 * 8) 16 with
  | error e => rw [h1] at h; cases h
  | ok z =>
    obtain ⟨n, p1⟩ := z
    rw [h1] at h
    dsimp only at h ⊢
    cases h2 : num s p1 16 with
    | error e => rw [h2] at h; cases h
    | ok z =>
      obtain ⟨k, p2⟩ := z
      rw [h2] at h
      dsimp only at h ⊢
      by_cases c1 : k ≠ 65535 - n
      · rw [if_pos c1] at h; cases h
      · rw [if_neg c1] at h ⊢
        by_cases c2 : ¬ out.length + n.toNat ≤ m
        · rw [if_pos c2] at h; cases h
        · rw [if_neg c2] at h
          rw [if_neg (by omega)]
          exact h
theorem m_copied {far : List Int} {sg p : Nat} {out : List UInt8} {r : List UInt8 × Nat} (hm : m ≤ m') (h : copied s far m sg out p = .ok r) : copied s far m' sg out p = .ok r := by
  unfold copied at h ⊢
  by_cases c1 : 285 < sg
  · rw [if_pos c1] at h; cases h
  · rw [if_neg c1] at h ⊢
    cases h1 : num s p (moreL (sg - 257)) with
    | error e => rw [h1] at h; cases h
    | ok z =>
      obtain ⟨v, p1⟩ := z
      rw [h1] at h
      dsimp only at h ⊢
      cases h2 : sym far s p1 with
      | error e => rw [h2] at h; cases h
      | ok z =>
        obtain ⟨d, p2⟩ := z
        rw [h2] at h
        dsimp only at h ⊢
        by_cases c2 : 29 < d
        · rw [if_pos c2] at h; cases h
        · rw [if_neg c2] at h ⊢
          cases h3 : num s p2 (moreD d) with
          | error e => rw [h3] at h; cases h
          | ok z =>
            obtain ⟨x, p3⟩ := z
            rw [h3] at h
            dsimp only at h ⊢
            by_cases c3 : out.length < baseD d + x.toNat
            · rw [if_pos c3] at h; cases h
            · rw [if_neg c3] at h ⊢
              by_cases c4 : m < out.length + (firstL (sg - 257) + v.toNat)
              · rw [if_pos c4] at h; cases h
              · rw [if_neg c4] at h
                rw [if_neg (by omega)]
                exact h
theorem m_signs {near far : List Int} {r : List UInt8 × Nat} (hm : m ≤ m') : ∀ (k : Nat) (out : List UInt8) (p : Nat), signsF s near far m k out p = .ok r → signsF s near far m' k out p = .ok r
  | 0, _, _, h => by cases h
  | k + 1, out, p, h => by
    unfold signsF at h ⊢
    cases h1 : sym near s p with
    | error e => rw [h1] at h; cases h
    | ok z =>
      obtain ⟨sg, p1⟩ := z
      rw [h1] at h
      dsimp only at h ⊢
      by_cases c1 : sg = 256
      · rw [if_pos c1] at h ⊢; exact h
      · rw [if_neg c1] at h ⊢
        by_cases c2 : 256 < sg
        · rw [if_pos c2] at h ⊢
          cases h2 : copied s far m sg out p1 with
          | error e => rw [h2] at h; cases h
          | ok z =>
            obtain ⟨o, q⟩ := z
            rw [h2] at h
            rw [m_copied hm h2]
            exact m_signs hm k _ _ h
        · rw [if_neg c2] at h ⊢
          by_cases c3 : m ≤ out.length
          · rw [if_pos c3] at h; cases h
          · rw [if_neg c3] at h
            rw [if_neg (by omega)]
            exact m_signs hm k _ _ h
theorem m_block {kind : Int} {p : Nat} {out : List UInt8} {r : List UInt8 × Nat} (hm : m ≤ m') (h : block s m kind out p = .ok r) : block s m' kind out p = .ok r := by
  unfold block at h ⊢
  by_cases c1 : kind = 3
  · rw [if_pos c1] at h; cases h
  · rw [if_neg c1] at h ⊢
    by_cases c2 : kind = 0
    · rw [if_pos c2] at h ⊢; exact m_stored hm h
    · rw [if_neg c2] at h ⊢
      by_cases c3 : kind = 2
      · rw [if_pos c3] at h ⊢
        cases h1 : dyn s p with
        | error e => rw [h1] at h; cases h
        | ok z =>
          obtain ⟨a, b, q⟩ := z
          rw [h1] at h
          exact m_signs hm _ _ _ h
      · rw [if_neg c3] at h ⊢
        exact m_signs hm _ _ _ h
theorem m_all {r : List UInt8 × Nat} (hm : m ≤ m') : ∀ (k : Nat) (out : List UInt8) (p : Nat), allQ s m k out p = .ok r → allQ s m' k out p = .ok r
  | 0, _, _, h => by cases h
  | k + 1, out, p, h => by
    unfold allQ at h ⊢
    cases h1 : num s p 1 with
    | error e => rw [h1] at h; cases h
    | ok z =>
      obtain ⟨last, p1⟩ := z
      rw [h1] at h
      dsimp only [bnd] at h ⊢
      cases h2 : num s p1 2 with
      | error e => rw [h2] at h; cases h
      | ok z =>
        obtain ⟨kind, p2⟩ := z
        rw [h2] at h
        dsimp only at h ⊢
        cases h3 : block s m kind out p2 with
        | error e => rw [h3] at h; cases h
        | ok z =>
          obtain ⟨o, q⟩ := z
          rw [h3] at h
          rw [m_block hm h3]
          dsimp only at h ⊢
          by_cases c : last = 1
          · rw [if_pos c] at h ⊢; exact h
          · rw [if_neg c] at h ⊢
            exact m_all hm k _ _ h
/-! ### Errors are errors -/
theorem num_er {p n : Nat} {e : Int} (h : num s p n = .error e) : e = 4 := by
  unfold num at h
  split at h
  · cases h
  · cases h; rfl
theorem sgo_er {lens : List Int} {e : Int} : ∀ (k n : Nat) (c f : Int) (p : Nat), sgo lens s k n c f p = .error e → e = 4 ∨ e = 13
  | 0, n, c, f, p, h => by cases h; exact .inr rfl
  | k + 1, n, c, f, p, h => by
    unfold sgo at h
    split at h
    · cases h; exact .inl rfl
    · split at h
      · cases h
      · exact sgo_er k _ _ _ _ h
theorem sym_er {lens : List Int} {e : Int} {p : Nat} (h : sym lens s p = .error e) : e ≠ 0 := by
  have := sgo_er _ _ _ _ _ h
  omega
theorem stored_er {e : Int} {p : Nat} {out : List UInt8} (h : stored s p out m = .error e) : e ≠ 0 := by
  unfold stored at h
  cases h1 : num s ((p + 7) / 8 * 8) 16 with
  | error x => rw [h1] at h; cases h; have := num_er h1; omega
  | ok z =>
    obtain ⟨n, p1⟩ := z
    rw [h1] at h
    dsimp only at h
    cases h2 : num s p1 16 with
    | error x => rw [h2] at h; cases h; have := num_er h2; omega
    | ok z =>
      obtain ⟨k, p2⟩ := z
      rw [h2] at h
      dsimp only at h
      split at h
      · cases h; decide
      · split at h
        · cases h; decide
        · split at h
          · cases h; decide
          · cases h
theorem copied_er {far : List Int} {sg p : Nat} {out : List UInt8} {e : Int} (h : copied s far m sg out p = .error e) : e ≠ 0 := by
  unfold copied at h
  split at h
  · cases h; decide
  · cases h1 : num s p (moreL (sg - 257)) with
    | error x => rw [h1] at h; cases h; have := num_er h1; omega
    | ok z =>
      obtain ⟨v, p1⟩ := z
      rw [h1] at h
      dsimp only at h
      cases h2 : sym far s p1 with
      | error x => rw [h2] at h; cases h; exact sym_er h2
      | ok z =>
        obtain ⟨d, p2⟩ := z
        rw [h2] at h
        dsimp only at h
        split at h
        · cases h; decide
        · cases h3 : num s p2 (moreD d) with
          | error x => rw [h3] at h; cases h; have := num_er h3; omega
          | ok z =>
            obtain ⟨x, p3⟩ := z
            rw [h3] at h
            dsimp only at h
            split at h
            · cases h; decide
            · split at h
              · cases h; decide
              · cases h
theorem signs_er {near far : List Int} {e : Int} : ∀ (k : Nat) (out : List UInt8) (p : Nat), p ≤ 8 * s.size → 8 * s.size < p + k → signsF s near far m k out p = .error e → e ≠ 0
  | 0, _, _, hp, hk, h => by omega
  | k + 1, out, p, hp, hk, h => by
    unfold signsF at h
    cases h1 : sym near s p with
    | error x => rw [h1] at h; cases h; exact sym_er h1
    | ok z =>
      obtain ⟨sg, p1⟩ := z
      rw [h1] at h
      dsimp only at h
      obtain ⟨g1, g2, _⟩ := sym_ok h1
      split at h
      · cases h
      · split at h
        · cases h2 : copied s far m sg out p1 with
          | error x => rw [h2] at h; cases h; exact copied_er h2
          | ok z =>
            obtain ⟨o, q⟩ := z
            rw [h2] at h
            obtain ⟨c1, c2, _⟩ := copied_ok h2
            exact signs_er k o q c2 (by omega) h
        · split at h
          · cases h; decide
          · exact signs_er k _ p1 g2 (by omega) h
theorem lens19_er {e : Int} : ∀ (os : List Nat) (l : List Int) (p : Nat), lens19 s os l p = .error e → e ≠ 0
  | [], l, p, h => by cases h
  | o :: os, l, p, h => by
    unfold lens19 at h
    cases h1 : num s p 3 with
    | error x => rw [h1] at h; cases h; have := num_er h1; omega
    | ok z => rw [h1] at h; exact lens19_er os _ _ h
theorem lensF_er {lens : List Int} {many : Nat} {e : Int} : ∀ (k : Nat) (l : List Int) (p : Nat), many < l.length + k → l.length ≤ many → lensF lens s many k l p = .error e → e ≠ 0
  | 0, l, p, hk, hl, h => by omega
  | k + 1, l, p, hk, hl, h => by
    unfold lensF at h
    split at h
    · cases h
    · cases h1 : sym lens s p with
      | error x => rw [h1] at h; cases h; exact sym_er h1
      | ok z =>
        obtain ⟨sg, p1⟩ := z
        rw [h1] at h
        dsimp only at h
        split at h
        · exact lensF_er k _ _ (by rw [List.length_append]; simp; omega) (by rw [List.length_append]; simp; omega) h
        · split at h
          · cases h; decide
          · cases h2 : num s p1 (repB sg) with
            | error x => rw [h2] at h; cases h; have := num_er h2; omega
            | ok z =>
              obtain ⟨v, p2⟩ := z
              rw [h2] at h
              dsimp only at h
              have hL : 3 ≤ repL sg := by unfold repL; split <;> omega
              split at h
              · cases h; decide
              · exact lensF_er k _ _ (by rw [List.length_append, List.length_replicate]; omega) (by rw [List.length_append, List.length_replicate]; omega) h
theorem dyn_er {p : Nat} {e : Int} (h : dyn s p = .error e) : e ≠ 0 := by
  unfold dyn at h
  cases h1 : num s p 5 with
  | error x => rw [h1] at h; cases h; have := num_er h1; omega
  | ok z =>
    obtain ⟨hl, p1⟩ := z
    rw [h1] at h
    dsimp only at h
    split at h
    · cases h; decide
    · cases h2 : num s p1 5 with
      | error x => rw [h2] at h; cases h; have := num_er h2; omega
      | ok z =>
        obtain ⟨hd, p2⟩ := z
        rw [h2] at h
        dsimp only at h
        split at h
        · cases h; decide
        · cases h3 : num s p2 4 with
          | error x => rw [h3] at h; cases h; have := num_er h3; omega
          | ok z =>
            obtain ⟨hc, p3⟩ := z
            rw [h3] at h
            dsimp only at h
            cases h4 : lens19 s (order.take (hc.toNat + 4)) (List.replicate 19 0) p3 with
            | error x => rw [h4] at h; cases h; exact lens19_er _ _ _ h4
            | ok z =>
              obtain ⟨l19, p4⟩ := z
              rw [h4] at h
              dsimp only at h
              split at h
              · rename_i hc; cases h; exact hc
              · cases h5 : lensF l19 s (hl.toNat + 257 + (hd.toNat + 1)) (hl.toNat + 257 + (hd.toNat + 1) + 1) [] p4 with
                | error x => rw [h5] at h; cases h; exact lensF_er _ _ _ (by simp) (Nat.zero_le _) h5
                | ok z =>
                  obtain ⟨l, p5⟩ := z
                  rw [h5] at h
                  dsimp only at h
                  split at h
                  · cases h; decide
                  · split at h
                    · rename_i hc; cases h; exact hc
                    · split at h
                      · rename_i hc; cases h; exact hc
                      · cases h
theorem block_er {kind : Int} {p : Nat} {out : List UInt8} {e : Int} (hp : p ≤ 8 * s.size) (h : block s m kind out p = .error e) : e ≠ 0 := by
  unfold block at h
  split at h
  · cases h; decide
  · split at h
    · exact stored_er h
    · split at h
      · cases h1 : dyn s p with
        | error x => rw [h1] at h; cases h; exact dyn_er h1
        | ok z =>
          obtain ⟨a, b, q⟩ := z
          rw [h1] at h
          exact signs_er _ _ _ (dyn_ok hp h1).2 (by omega) h
      · exact signs_er _ _ _ hp (by omega) h
theorem all_er {e : Int} : ∀ (k : Nat) (out : List UInt8) (p : Nat), out.length ≤ m → p ≤ 8 * s.size → 8 * s.size < p + k → allQ s m k out p = .error e → e ≠ 0
  | 0, _, _, _, hp, hk, h => by omega
  | k + 1, out, p, ho, hp, hk, h => by
    unfold allQ at h
    cases h1 : num s p 1 with
    | error x => rw [h1] at h; cases h; have := num_er h1; omega
    | ok z =>
      obtain ⟨last, p1⟩ := z
      rw [h1] at h
      dsimp only [bnd] at h
      obtain ⟨_, _, rfl, a3⟩ := num_bd h1
      cases h2 : num s (p + 1) 2 with
      | error x => rw [h2] at h; cases h; have := num_er h2; omega
      | ok z =>
        obtain ⟨kind, p2⟩ := z
        rw [h2] at h
        dsimp only at h
        obtain ⟨_, _, rfl, b3⟩ := num_bd h2
        cases h3 : block s m kind out (p + 1 + 2) with
        | error x => rw [h3] at h; cases h; exact block_er b3 h3
        | ok z =>
          obtain ⟨o, q⟩ := z
          rw [h3] at h
          dsimp only at h
          obtain ⟨c1, c2, c3⟩ := block_ok b3 ho h3
          split at h
          · cases h
          · exact all_er k o q c3 c2 (by omega) h
theorem all_ok {o : List UInt8} {q : Nat} : ∀ (k : Nat) (out : List UInt8) (p : Nat), out.length ≤ m → p ≤ 8 * s.size → allQ s m k out p = .ok (o, q) → p < q ∧ q ≤ 8 * s.size ∧ o.length ≤ m
  | 0, _, _, _, _, h => by cases h
  | k + 1, out, p, ho, hp, h => by
    unfold allQ at h
    cases h1 : num s p 1 with
    | error x => rw [h1] at h; cases h
    | ok z =>
      obtain ⟨last, p1⟩ := z
      rw [h1] at h
      dsimp only [bnd] at h
      obtain ⟨_, _, rfl, a3⟩ := num_bd h1
      cases h2 : num s (p + 1) 2 with
      | error x => rw [h2] at h; cases h
      | ok z =>
        obtain ⟨kind, p2⟩ := z
        rw [h2] at h
        dsimp only at h
        obtain ⟨_, _, rfl, b3⟩ := num_bd h2
        cases h3 : block s m kind out (p + 1 + 2) with
        | error x => rw [h3] at h; cases h
        | ok z =>
          obtain ⟨o2, q2⟩ := z
          rw [h3] at h
          dsimp only at h
          obtain ⟨c1, c2, c3⟩ := block_ok b3 ho h3
          split at h
          · cases h; exact ⟨by omega, c2, c3⟩
          · obtain ⟨d1, d2, d3⟩ := all_ok k o2 q2 c3 c2 h
            exact ⟨by omega, d2, d3⟩
end
theorem allR_Q {s : ByteArray} {most : Int} (h : 0 ≤ most) : allR s most = match allQ s (min most 1048576).toNat (8 * s.size + 1) [] 0 with
    | .error e => (⟨#[]⟩, 0, e)
    | .ok (o, q) => (⟨o.toArray⟩, (((q + 7) / 8 : Nat) : Int), 0) := by
  unfold allR
  rw [if_neg (by omega), allF_Q]
  cases allQ s (min most 1048576).toNat (8 * s.size + 1) [] 0 <;> rfl
/-- What follows does not matter, and what is cut off is missed. -/
theorem ends_plain {s : ByteArray} {most : Int} {d : ByteArray} {n : Int} (h : (d, n, 0) = allR s most) : ∃ u : Nat, n = (u : Int) ∧ 1 ≤ u ∧ u ≤ s.size ∧ (d.size : Int) ≤ most ∧
    (∀ (more : ByteArray) (b : Int), 0 ≤ b → allR (s.extract 0 u ++ more) (most + b) = (d, n, 0)) ∧ allR (s.extract 0 (u - 1)) most = (⟨#[]⟩, 0, 4) := by
  by_cases hm : most < 0
  · unfold allR at h
    rw [if_pos hm] at h
    cases h
  have hm0 : 0 ≤ most := by omega
  rw [allR_Q hm0] at h
  cases hq : allQ s (min most 1048576).toNat (8 * s.size + 1) [] 0 with
  | error x =>
    rw [hq] at h
    cases h
    exact absurd rfl (all_er _ _ _ (Nat.zero_le _) (Nat.zero_le _) (by omega) hq)
  | ok z =>
    obtain ⟨o, q⟩ := z
    rw [hq] at h
    obtain ⟨h1, h2⟩ := Prod.mk.inj h
    obtain ⟨h2, _⟩ := Prod.mk.inj h2
    obtain ⟨a1, a2, a3⟩ := all_ok _ _ _ (Nat.zero_le _) (Nat.zero_le _) hq
    have pre : ∀ u, u ≤ s.size → Pre (s.extract 0 u) s ∧ (s.extract 0 u).size = u := fun u hu => by
      refine ⟨⟨s.data.toList.drop u, ?_⟩, by rw [ByteArray.size_extract]; omega⟩
      rw [extract_list, List.drop_zero, Nat.sub_zero, List.take_append_drop]
    have K : ∀ r : ByteArray, 8 * r.size < 0 + (8 * r.size + 1) := fun r => by omega
    have hG := g_all s (min most 1048576).toNat (8 * s.size + 1) (fun r => 8 * r.size + 1) [] 0 (by omega) K
    have hu : (q + 7) / 8 ≤ s.size := by omega
    refine ⟨(q + 7) / 8, h2, by omega, hu, ?_, fun more b hb => ?_, ?_⟩
    · rw [h1]
      show ((o.toArray.size : Nat) : Int) ≤ most
      rw [List.size_toArray]
      omega
    · obtain ⟨p1, p2⟩ := pre _ hu
      have hR : allQ (s.extract 0 ((q + 7) / 8)) (min most 1048576).toNat (8 * (s.extract 0 ((q + 7) / 8)).size + 1) [] 0 = .ok (o, q) := by
        rcases ((hG _ p1 (Nat.zero_le _)).t o q hq).2 with e | e
        · exact e.2
        · omega
      have p3 : Pre (s.extract 0 ((q + 7) / 8)) (s.extract 0 ((q + 7) / 8) ++ more) := ⟨more.data.toList, by rw [ByteArray.data_append, Array.toList_append]⟩
      have hG2 := g_all (s.extract 0 ((q + 7) / 8) ++ more) (min most 1048576).toNat (8 * (s.extract 0 ((q + 7) / 8) ++ more).size + 1) (fun r => 8 * r.size + 1) [] 0 (by omega) K
      have hT := ((hG2 _ p3 (Nat.zero_le _)).r o q hR).1
      have hT2 := m_all (m' := (min (most + b) 1048576).toNat) (by omega) _ _ _ hT
      rw [allR_Q (by omega), hT2, h1, h2]
    · obtain ⟨p1, p2⟩ := pre ((q + 7) / 8 - 1) (by omega)
      rw [allR_Q hm0]
      rcases ((hG _ p1 (Nat.zero_le _)).t o q hq).2 with e | e
      · omega
      · have e2 := e.2
        dsimp only at e2
        rw [e2]
attribute [local irreducible] Ld St Nw Nn Lt LdS
end Inf
end Go.Proofs.YtjkoafjnmkchdaaGreatDoor

/- Numbers written bit by bit: plain laws, no program in sight. No condition. -/
namespace Go.Proofs.YtjkoafjnmkchdaaGreatDoor
namespace Bit
open Sh
set_option linter.unusedVariables false

/-- Where the next bit goes in its byte. -/
def pl (way : Int) (used : Nat) : Nat := if way = 1 then used else 7 - used
def grow (st : List UInt8 × Nat) : List UInt8 := if st.2 = 0 then st.1 ++ [0] else st.1
def lastN (l : List UInt8) : Nat := (l.getD (l.length - 1) 0).toNat
def addLast (l : List UInt8) (v : Nat) : List UInt8 := l.set (l.length - 1) (UInt8.ofNat (lastN l + v))
/-- What is written (the bytes; how many bits of the last are used), after one more bit. -/
def oneS (way : Int) (st : List UInt8 × Nat) (b : Nat) : List UInt8 × Nat := (addLast (grow st) (b * 2 ^ pl way st.2), (st.2 + 1) % 8)
/-- What stands in the bits that are not used yet: nothing. -/
structure WOK (way : Int) (st : List UInt8 × Nat) : Prop where
  lt : st.2 < 8
  ne : st.2 ≠ 0 → st.1 ≠ []
  low : st.2 ≠ 0 → way = 1 → lastN st.1 < 2 ^ st.2
  high : st.2 ≠ 0 → way ≠ 1 → ∃ k, lastN st.1 = k * 2 ^ (8 - st.2)
theorem WOK.zero (way : Int) (l : List UInt8) : WOK way (l, 0) := ⟨by omega, fun h => absurd rfl h, fun h => absurd rfl h, fun h => absurd rfl h⟩
theorem grow_ne {way : Int} {st : List UInt8 × Nat} (h : WOK way st) : grow st ≠ [] := by
  unfold grow
  split
  · simp
  · rename_i h0; exact h.ne h0
theorem lastN_lt (l : List UInt8) : lastN l < 256 := UInt8.toNat_lt _
theorem lastN_push (l : List UInt8) : lastN (l ++ [0]) = 0 := by simp [lastN]
theorem grow_low {st : List UInt8 × Nat} (h : WOK 1 st) : lastN (grow st) < 2 ^ st.2 := by
  unfold grow
  split
  · rename_i h0; rw [lastN_push, h0]; decide
  · rename_i h0; exact h.low h0 rfl
theorem grow_high {way : Int} {st : List UInt8 × Nat} (h : WOK way st) (hw : way ≠ 1) : ∃ k, lastN (grow st) = k * 2 ^ (8 - st.2) := by
  unfold grow
  split
  · exact ⟨0, by rw [lastN_push]; simp⟩
  · rename_i h0; exact h.high h0 hw
/-- The new byte is below 256, and or-ing is adding. -/
theorem place_new {way : Int} {st : List UInt8 × Nat} (h : WOK way st) {b : Nat} (hb : b ≤ 1) :
    lastN (grow st) + b * 2 ^ pl way st.2 < 256 ∧ lastN (grow st) ||| b * 2 ^ pl way st.2 = lastN (grow st) + b * 2 ^ pl way st.2 ∧ b * 2 ^ pl way st.2 < 256 := by
  have hlt := h.lt
  have h1 : b * 2 ^ pl way st.2 ≤ 1 * 2 ^ pl way st.2 := Nat.mul_le_mul_right _ hb
  by_cases hw : way = 1
  · subst hw
    have hx := grow_low h
    have hp : pl 1 st.2 = st.2 := by simp [pl]
    rw [hp] at h1 ⊢
    have h8 : 2 ^ (st.2 + 1) ≤ 2 ^ 8 := Nat.pow_le_pow_right (by decide) (by omega)
    rw [Nat.pow_succ] at h8
    exact ⟨by omega, or_shift hx, by omega⟩
  · obtain ⟨k, hk⟩ := grow_high h hw
    have hp : pl way st.2 = 7 - st.2 := by simp [pl, hw]
    have h256 := lastN_lt (grow st)
    rw [hp] at h1 ⊢
    have e8 : 8 - st.2 = 7 - st.2 + 1 := by omega
    have h8 : 2 ^ (8 - st.2) = 2 * 2 ^ (7 - st.2) := by rw [e8, Nat.pow_succ]; omega
    have e256 : 256 = 2 ^ (8 - st.2) * 2 ^ st.2 := by rw [← Nat.pow_add, show 8 - st.2 + st.2 = 8 by omega]
    have hk' : k < 2 ^ st.2 := by
      rw [hk, e256, Nat.mul_comm (2 ^ (8 - st.2))] at h256
      exact Nat.lt_of_mul_lt_mul_right h256
    have hsum : (k + 1) * 2 ^ (8 - st.2) ≤ 256 := by
      rw [e256, Nat.mul_comm (2 ^ (8 - st.2))]
      exact Nat.mul_le_mul_right _ hk'
    rw [Nat.add_mul] at hsum
    have hpos : 0 < 2 ^ (7 - st.2) := Nat.pow_pos (by decide)
    refine ⟨by omega, ?_, by omega⟩
    rw [hk, Nat.or_comm, or_shift (by rw [h8]; omega), Nat.add_comm]
theorem lastN_addLast {l : List UInt8} {v : Nat} (hl : l ≠ []) (hv : lastN l + v < 256) : lastN (addLast l v) = lastN l + v := by
  have : 0 < l.length := List.length_pos_iff.2 hl
  unfold lastN addLast at *
  rw [List.length_set]
  simp only [List.getD_eq_getElem?_getD, List.getElem?_set_self (show l.length - 1 < l.length by omega), Option.getD_some]
  simp only [UInt8.toNat_ofNat']
  exact Nat.mod_eq_of_lt hv
theorem WOK.one {way : Int} {st : List UInt8 × Nat} (h : WOK way st) {b : Nat} (hb : b ≤ 1) : WOK way (oneS way st b) := by
  have hn := grow_ne h
  obtain ⟨h1, _, _⟩ := place_new h hb
  have hl := lastN_addLast hn h1
  have hlt := h.lt
  have hle : b * 2 ^ pl way st.2 ≤ 1 * 2 ^ pl way st.2 := Nat.mul_le_mul_right _ hb
  refine ⟨Nat.mod_lt _ (by decide), fun _ => ?_, fun hu hw => ?_, fun hu hw => ?_⟩
  · intro e
    have : (addLast (grow st) (b * 2 ^ pl way st.2)).length = 0 := by
      show (oneS way st b).1.length = 0
      rw [e]; rfl
    unfold addLast at this
    rw [List.length_set] at this
    exact hn (List.eq_nil_of_length_eq_zero this)
  · show lastN (addLast (grow st) (b * 2 ^ pl way st.2)) < 2 ^ ((st.2 + 1) % 8)
    have hu' : (st.2 + 1) % 8 ≠ 0 := hu
    subst hw
    rw [hl, show (st.2 + 1) % 8 = st.2 + 1 by omega, Nat.pow_succ]
    have hx := grow_low h
    rw [show pl 1 st.2 = st.2 by simp [pl]] at hle ⊢
    omega
  · show ∃ k, lastN (addLast (grow st) (b * 2 ^ pl way st.2)) = k * 2 ^ (8 - (st.2 + 1) % 8)
    have hu' : (st.2 + 1) % 8 ≠ 0 := hu
    obtain ⟨k, hk⟩ := grow_high h hw
    rw [hl, hk, show (st.2 + 1) % 8 = st.2 + 1 by omega, show pl way st.2 = 7 - st.2 by simp [pl, hw], show 8 - (st.2 + 1) = 7 - st.2 by omega, show 8 - st.2 = 7 - st.2 + 1 by omega, Nat.pow_succ]
    exact ⟨k * 2 + b, by rw [Nat.add_mul, Nat.mul_assoc, Nat.mul_comm 2]⟩
/-- Bit i of the n that a number has, in the order of writing. -/
def vbit (way : Int) (v n i : Nat) : Nat := if way = 1 then v / 2 ^ i % 2 else v / 2 ^ (n - 1 - i) % 2
theorem vbit_le (way : Int) (v n i : Nat) : vbit way v n i ≤ 1 := by unfold vbit; split <;> omega
/-- After i of the n bits. -/
def putS (way : Int) (v n : Nat) (st : List UInt8 × Nat) : Nat → List UInt8 × Nat
  | 0 => st
  | i + 1 => oneS way (putS way v n st i) (vbit way v n i)
theorem WOK.put {way : Int} {st : List UInt8 × Nat} (h : WOK way st) (v n : Nat) : ∀ i, WOK way (putS way v n st i)
  | 0 => h
  | i + 1 => (h.put v n i).one (vbit_le _ _ _ _)
theorem grow_len (st : List UInt8 × Nat) : (grow st).length ≤ st.1.length + 1 := by unfold grow; split <;> simp
theorem oneS_len (way : Int) (st : List UInt8 × Nat) (b : Nat) : (oneS way st b).1.length = (grow st).length := by unfold oneS addLast; simp
theorem putS_len (way : Int) (v n : Nat) (st : List UInt8 × Nat) : ∀ i, (putS way v n st i).1.length ≤ st.1.length + i
  | 0 => Nat.le_refl _
  | i + 1 => by
    have := putS_len way v n st i
    have h2 := grow_len (putS way v n st i)
    show (oneS way _ _).1.length ≤ _
    rw [oneS_len]
    omega
/-- What Low and High of a writer answer: the error, what is written now, the order. -/
def putR (way : Int) (st : List UInt8 × Nat) (v n w' : Int) : Int × (List UInt8 × Nat) × Int :=
  if n < 0 ∨ 24 < n ∨ v < 0 ∨ 2 ^ n.toNat ≤ v ∨ (way ≠ 0 ∧ way ≠ w') then (1, st, way)
  else (0, putS w' v.toNat n.toNat st n.toNat, if 0 < n then w' else way)
theorem putR_arg {way : Int} {st : List UInt8 × Nat} {v n w' : Int} (h : n < 0 ∨ 24 < n ∨ v < 0 ∨ 2 ^ n.toNat ≤ v ∨ (way ≠ 0 ∧ way ≠ w')) : putR way st v n w' = (1, st, way) := if_pos h
theorem putR_ok {way : Int} {st : List UInt8 × Nat} {v n w' : Int} (h : ¬ (n < 0 ∨ 24 < n ∨ v < 0 ∨ 2 ^ n.toNat ≤ v ∨ (way ≠ 0 ∧ way ≠ w'))) :
    putR way st v n w' = (0, putS w' v.toNat n.toNat st n.toNat, if 0 < n then w' else way) := if_neg h
/-- What holds of a writer between calls. -/
structure WInv (way : Int) (st : List UInt8 × Nat) : Prop where
  ok : WOK way st
  none : way = 0 → st.2 = 0
theorem WInv.to {way : Int} {st : List UInt8 × Nat} (h : WInv way st) {w' : Int} (hn : ¬ (way ≠ 0 ∧ way ≠ w')) : WOK w' st := by
  by_cases hw : way = 0
  · obtain ⟨l, u⟩ := st
    have : u = 0 := h.none hw
    subst this
    exact WOK.zero _ _
  · have : way = w' := by
      by_cases e : way = w'
      · exact e
      · exact absurd ⟨hw, e⟩ hn
    exact this ▸ h.ok
theorem WInv.zero (l : List UInt8) : WInv 0 (l, 0) := ⟨WOK.zero _ _, fun _ => rfl⟩
theorem WInv.put {way : Int} {st : List UInt8 × Nat} (h : WInv way st) (v n : Int) {w' : Int} (hw : w' ≠ 0) : WInv (putR way st v n w').2.2 (putR way st v n w').2.1 := by
  by_cases hc : n < 0 ∨ 24 < n ∨ v < 0 ∨ 2 ^ n.toNat ≤ v ∨ (way ≠ 0 ∧ way ≠ w')
  · rw [putR_arg hc]; exact h
  · rw [putR_ok hc]
    dsimp only
    split
    · exact ⟨(h.to (by omega)).put _ _ _, fun e => absurd e hw⟩
    · have : n.toNat = 0 := by omega
      rw [this]
      exact h
theorem vbit_low (v i : Nat) (hv : v < 16777216) : iand .i64 (Int.fdiv (v : Int) (2 ^ i)) 1 = ((v / 2 ^ i % 2 : Nat) : Int) := by
  have h := @ediv_pow_bd (v : Int) i (by omega)
  rw [fdiv_pow, iand_one h.1 (by omega)]
  simp
end Bit
end Go.Proofs.YtjkoafjnmkchdaaGreatDoor

/- What is written bit by bit is read back: plain laws, no program in sight. No condition. -/
namespace Go.Proofs.YtjkoafjnmkchdaaGreatDoor
namespace Bit
open Sh
set_option linter.unusedVariables false
set_option linter.unusedSimpArgs false

def nb (l : List UInt8) (j : Nat) : Nat := (l.getD j 0).toNat
theorem lastN_nb (l : List UInt8) : lastN l = nb l (l.length - 1) := rfl
/-- Bit k of a byte, in an order. -/
def bitN (way : Int) (x k : Nat) : Nat := if way = 1 then x / 2 ^ k % 2 else x / 2 ^ (7 - k) % 2
theorem byt_nb (l : List UInt8) (j : Nat) : byt ⟨l.toArray⟩ j = (nb l j : Int) := by
  unfold byt nb
  simp [Array.getD_eq_getD_getElem?, List.getD_eq_getElem?_getD]
theorem bt_bitN (l : List UInt8) (way : Int) (q : Nat) : bt ⟨l.toArray⟩ way q = (bitN way (nb l (q / 8)) (q % 8) : Int) := by
  unfold bt bitN
  rw [byt_nb]
  split <;> simp
/-- How many bits are written. -/
def pos (st : List UInt8 × Nat) : Nat := if st.2 = 0 then 8 * st.1.length else 8 * (st.1.length - 1) + st.2
theorem pos_grow {way : Int} {st : List UInt8 × Nat} (h : WOK way st) : pos st = 8 * ((grow st).length - 1) + st.2 := by
  unfold pos grow
  split
  · rename_i h0; simp [h0]
  · rfl
theorem pos_one {way : Int} {st : List UInt8 × Nat} (h : WOK way st) (b : Nat) : pos (oneS way st b) = pos st + 1 := by
  have hlt := h.lt
  have hg := List.length_pos_iff.2 (grow_ne h)
  rw [pos_grow h]
  unfold pos
  rw [oneS_len]
  show (if (st.2 + 1) % 8 = 0 then _ else _ + (st.2 + 1) % 8) = _
  split <;> omega
theorem even_shift {x b i k : Nat} (hk : k < i) : (x + b * 2 ^ i) / 2 ^ k % 2 = x / 2 ^ k % 2 := by
  obtain ⟨d, rfl⟩ : ∃ d, i = k + (d + 1) := ⟨i - k - 1, by omega⟩
  have e : b * 2 ^ (k + (d + 1)) = 2 ^ k * (2 * (b * 2 ^ d)) := by
    rw [Nat.pow_add, Nat.pow_succ, Nat.mul_left_comm, Nat.mul_comm (2 ^ d) 2, Nat.mul_left_comm b]
  rw [e, Nat.add_mul_div_left _ _ (Nat.pow_pos (by decide))]
  omega
theorem bits_one {way : Int} {st : List UInt8 × Nat} (h : WOK way st) {b : Nat} (hb : b ≤ 1) : bitN way (lastN (grow st) + b * 2 ^ pl way st.2) st.2 = b ∧
    ∀ k, k < st.2 → bitN way (lastN (grow st) + b * 2 ^ pl way st.2) k = bitN way (lastN (grow st)) k := by
  have hlt := h.lt
  by_cases hw : way = 1
  · subst hw
    have hx := grow_low h
    simp only [bitN, pl, if_true]
    refine ⟨?_, fun k hk => even_shift hk⟩
    rw [Nat.add_mul_div_right _ _ (Nat.pow_pos (by decide)), Nat.div_eq_of_lt hx]
    omega
  · obtain ⟨m, hm⟩ := grow_high h hw
    simp only [bitN, pl, hw, if_false]
    have e : 2 ^ (8 - st.2) = 2 ^ (7 - st.2) * 2 := by rw [← Nat.pow_succ]; congr 1; omega
    have hs : lastN (grow st) + b * 2 ^ (7 - st.2) = 2 ^ (7 - st.2) * (2 * m + b) := by
      rw [hm, e, Nat.mul_add, Nat.mul_comm b, ← Nat.mul_assoc, Nat.mul_comm m, Nat.mul_assoc]
      rw [Nat.mul_comm 2 m]
    have hs0 : lastN (grow st) = 2 ^ (7 - st.2) * (2 * m) := by
      rw [hm, e, Nat.mul_comm m, Nat.mul_assoc]
    refine ⟨?_, fun k hk => ?_⟩
    · rw [hs, Nat.mul_div_cancel_left _ (Nat.pow_pos (by decide))]
      omega
    · have ek : 2 ^ (7 - k) = 2 ^ (7 - st.2) * (2 * 2 ^ (st.2 - k - 1)) := by
        rw [← Nat.pow_succ', ← Nat.pow_add]
        congr 1
        omega
      rw [hs, hs0, ek, Nat.mul_div_mul_left _ _ (Nat.pow_pos (by decide)), Nat.mul_div_mul_left _ _ (Nat.pow_pos (by decide)), ← Nat.div_div_eq_div_mul, ← Nat.div_div_eq_div_mul]
      congr 2
      omega
/-- T agrees with l in the first p bits, as read in this order. -/
def Agree (way : Int) (p : Nat) (l T : List UInt8) : Prop := (∀ j, j < p / 8 → T.getD j 0 = l.getD j 0) ∧ ∀ k, k < p % 8 → bitN way (nb T (p / 8)) k = bitN way (nb l (p / 8)) k
theorem Agree.refl (way : Int) (p : Nat) (l : List UInt8) : Agree way p l l := ⟨fun _ _ => rfl, fun _ _ => rfl⟩
theorem Agree.whole {way : Int} {n : Nat} {l T : List UInt8} (h : ∀ j, j < n → T.getD j 0 = l.getD j 0) : Agree way (8 * n) l T := ⟨fun j hj => h j (by omega), fun k hk => by omega⟩
theorem Agree.any {way way' : Int} {n : Nat} {l T : List UInt8} (h : Agree way (8 * n) l T) : Agree way' (8 * n) l T := ⟨h.1, fun k hk => by omega⟩
theorem Agree.one {way : Int} {st : List UInt8 × Nat} (h : WOK way st) {b : Nat} (hb : b ≤ 1) {T : List UInt8} (ha : Agree way (pos st + 1) (oneS way st b).1 T) :
    Agree way (pos st) st.1 T ∧ bitN way (nb T (pos st / 8)) (pos st % 8) = b := by
  have hlt := h.lt
  have hgn := grow_ne h
  have hg := List.length_pos_iff.2 hgn
  obtain ⟨h1, _, _⟩ := place_new h hb
  obtain ⟨b1, b2⟩ := bits_one h hb
  have hp := pos_grow h
  have e1 : pos st / 8 = (grow st).length - 1 := by omega
  have e2 : pos st % 8 = st.2 := by omega
  have hnew : nb (oneS way st b).1 ((grow st).length - 1) = lastN (grow st) + b * 2 ^ pl way st.2 := by
    have := lastN_addLast hgn h1
    rw [lastN_nb] at this
    unfold addLast at this
    rw [List.length_set] at this
    exact this
  have hold : ∀ j, j < (grow st).length - 1 → (oneS way st b).1.getD j 0 = st.1.getD j 0 := fun j hj => by
    show (List.set _ _ _).getD j 0 = _
    rw [List.getD_eq_getElem?_getD, List.getElem?_set_ne (by omega)]
    unfold grow at hj ⊢
    split
    · rename_i h0
      rw [if_pos h0] at hj
      rw [List.getElem?_append_left (by simp at hj; exact hj), List.getD_eq_getElem?_getD]
    · rw [List.getD_eq_getElem?_getD]
  have hT : ∀ k, k ≤ st.2 → bitN way (nb T ((grow st).length - 1)) k = bitN way (lastN (grow st) + b * 2 ^ pl way st.2) k := fun k hk => by
    by_cases h8 : st.2 + 1 = 8
    · have := ha.1 ((grow st).length - 1) (by omega)
      have : nb T ((grow st).length - 1) = nb (oneS way st b).1 ((grow st).length - 1) := by unfold nb; rw [this]
      rw [this, hnew]
    · have := ha.2 k (by omega)
      rw [show (pos st + 1) / 8 = (grow st).length - 1 by omega, hnew] at this
      exact this
  refine ⟨⟨fun j hj => ?_, fun k hk => ?_⟩, ?_⟩
  · rw [ha.1 j (by omega)]
    exact hold j (by omega)
  · rw [e1]
    rw [e2] at hk
    rw [hT k (by omega), b2 k hk, lastN_nb]
    unfold grow
    rw [if_neg (by omega)]
  · rw [e1, e2, hT _ (Nat.le_refl _), b1]
theorem pos_put {way : Int} {st : List UInt8 × Nat} (h : WOK way st) (v n : Nat) : ∀ i, pos (putS way v n st i) = pos st + i
  | 0 => rfl
  | i + 1 => by
    show pos (oneS way _ _) = _
    rw [pos_one (h.put v n i), pos_put h v n i, Nat.add_assoc]
theorem Agree.put {way : Int} {st : List UInt8 × Nat} (h : WOK way st) (v n : Nat) {T : List UInt8} : ∀ i, Agree way (pos st + i) (putS way v n st i).1 T →
    Agree way (pos st) st.1 T ∧ ∀ j, j < i → bitN way (nb T ((pos st + j) / 8)) ((pos st + j) % 8) = vbit way v n j
  | 0, ha => ⟨ha, fun j hj => by omega⟩
  | i + 1, ha => by
    have hok := h.put v n i
    have hp := pos_put h v n i
    rw [← Nat.add_assoc, ← hp] at ha
    obtain ⟨h1, h2⟩ := Agree.one hok (vbit_le way v n i) ha
    rw [hp] at h1 h2
    obtain ⟨h3, h4⟩ := Agree.put h v n i h1
    refine ⟨h3, fun j hj => ?_⟩
    by_cases hji : j = i
    · subst hji; exact h2
    · exact h4 j (by omega)
theorem tk_bits {T : List UInt8} {way : Int} {p v n : Nat} (hv : v < 2 ^ n) (hb : ∀ j, j < n → bitN way (nb T ((p + j) / 8)) ((p + j) % 8) = vbit way v n j) : tk ⟨T.toArray⟩ way p n = (v : Int) := by
  by_cases hw : way = 1
  · subst hw
    have key : ∀ i, i ≤ n → tk ⟨T.toArray⟩ 1 p i = ((v % 2 ^ i : Nat) : Int) := by
      intro i
      induction i with
      | zero => intro _; simp [tk, Nat.mod_one]
      | succ i ih =>
        intro hi
        have h1 := hb i (by omega)
        simp only [tk, if_true]
        rw [ih (by omega), bt_bitN, h1, Nat.mod_pow_succ]
        simp [vbit, Int.mul_comm]
    rw [key n (Nat.le_refl _), Nat.mod_eq_of_lt hv]
  · have key : ∀ i, i ≤ n → tk ⟨T.toArray⟩ way p i = ((v / 2 ^ (n - i) : Nat) : Int) := by
      intro i
      induction i with
      | zero => intro _; simp [tk, Nat.div_eq_of_lt hv]
      | succ i ih =>
        intro hi
        have h1 := hb i (by omega)
        simp only [tk, hw, if_false]
        rw [ih (by omega), bt_bitN, h1]
        simp only [vbit, hw, if_false]
        rw [show n - i = n - 1 - i + 1 by omega, show n - (i + 1) = n - 1 - i by omega, Nat.pow_succ, ← Nat.div_div_eq_div_mul]
        generalize v / 2 ^ (n - 1 - i) = y
        omega
    rw [key n (Nat.le_refl _)]
    simp

/-! ### A list of calls -/

/-- One call of the list. -/
structure Ask where
  d : Int
  n : Int
  v : Int
  s : ByteArray
def numN (q : Ask) : Nat := q.n.natAbs % 25
def numV (q : Ask) : Nat := q.v.natAbs % 2 ^ numN q
def rawS (st : List UInt8 × Nat) (t : ByteArray) : List UInt8 × Nat := (st.1 ++ t.data.toList, 0)
def rawWay (way : Int) (st : List UInt8 × Nat) : Int := if st.2 = 0 then way else 0
theorem WInv.putS {way : Int} {st : List UInt8 × Nat} (h : WInv way st) (v n : Nat) {w' : Int} (hw : w' = 1 ∨ w' = 2) (hc : way = 0 ∨ way = w') : WInv (if 0 < ((n : Nat) : Int) then w' else way) (putS w' v n st n) := by
  split
  · exact ⟨(h.to (by omega)).put _ _ _, fun e => by omega⟩
  · have : n = 0 := by omega
    subst this
    exact h
theorem Agree.at0 {way way' : Int} {st : List UInt8 × Nat} {T : List UInt8} (h0 : st.2 = 0) (h : Agree way (pos st) st.1 T) : Agree way' (pos st) st.1 T := by
  have : pos st = 8 * st.1.length := by unfold pos; rw [if_pos h0]
  rw [this] at h ⊢
  exact h.any
/-- What call i finds when it is made again on what was written, T. -/
structure Back (q : Ask) (A B : Int × (List UInt8 × Nat)) (T : List UInt8) : Prop where
  before : Agree A.1 (pos A.2) A.2.1 T
  low : q.d = 0 → tk ⟨T.toArray⟩ 1 (pos A.2) (numN q) = (numV q : Int) ∧ pos B.2 = pos A.2 + numN q ∧ B.1 = if 0 < ((numN q : Nat) : Int) then 1 else A.1
  high : q.d = 1 → tk ⟨T.toArray⟩ 2 (pos A.2) (numN q) = (numV q : Int) ∧ pos B.2 = pos A.2 + numN q ∧ B.1 = if 0 < ((numN q : Nat) : Int) then 2 else A.1
  raw : q.d = 3 → pos B.2 = pos A.2 + 8 * q.s.size ∧ B.1 = A.1 ∧ ∀ j, j < q.s.size → T.getD (pos A.2 / 8 + j) 0 = q.s.data.toList.getD j 0
  other : q.d ≠ 0 → q.d ≠ 1 → q.d ≠ 3 → B = A
  le : pos A.2 ≤ pos B.2
end Bit
end Go.Proofs.YtjkoafjnmkchdaaGreatDoor

/- Inflate: what a writer writes of a canonical code is read back; plain laws. Conditions: a code's lengths. -/
namespace Go.Proofs.YtjkoafjnmkchdaaGreatDoor
namespace Inf
open Sh Bit
set_option linter.unusedVariables false
set_option linter.unusedSimpArgs false
set_option maxRecDepth 4000
set_option maxHeartbeats 1000000
abbrev WS := List UInt8 × Nat
/-- n bits of v, least significant first. -/
def lw (st : WS) (v n : Nat) : WS := putS 1 v n st n
/-- i of the n bits of c, most significant first. -/
def hw (st : WS) (c n : Nat) : Nat → WS
  | 0 => st
  | i + 1 => oneS 1 (hw st c n i) (c / 2 ^ (n - 1 - i) % 2)
/-- The code of a sign. -/
def cw (lens : List Int) (st : WS) (g : Nat) : WS := hw st (codeL lens g).toNat (lens.getD g 0).toNat (lens.getD g 0).toNat
section
variable {st : WS} {T : List UInt8}
theorem bit_le (x : Nat) : x % 2 ≤ 1 := by omega
theorem hw_ok (h : WOK 1 st) (c n : Nat) : ∀ i, WOK 1 (hw st c n i)
  | 0 => h
  | i + 1 => (hw_ok h c n i).one (bit_le _)
theorem hw_pos (h : WOK 1 st) (c n : Nat) : ∀ i, pos (hw st c n i) = pos st + i
  | 0 => rfl
  | i + 1 => by
    show pos (oneS 1 _ _) = _
    rw [pos_one (hw_ok h c n i), hw_pos h c n i, Nat.add_assoc]
theorem hw_len (st : WS) (c n : Nat) : ∀ i, (hw st c n i).1.length ≤ st.1.length + i
  | 0 => Nat.le_refl _
  | i + 1 => by
    have := hw_len st c n i
    have h2 := grow_len (hw st c n i)
    show (oneS 1 _ _).1.length ≤ _
    rw [oneS_len]
    omega
theorem hw_back (h : WOK 1 st) (c n : Nat) : ∀ i, Agree 1 (pos st + i) (hw st c n i).1 T → Agree 1 (pos st) st.1 T ∧ ∀ j, j < i → bt ⟨T.toArray⟩ 1 (pos st + j) = ((c / 2 ^ (n - 1 - j) % 2 : Nat) : Int)
  | 0, ha => ⟨ha, fun j hj => by omega⟩
  | i + 1, ha => by
    have hok := hw_ok h c n i
    have hp := hw_pos h c n i
    rw [← Nat.add_assoc, ← hp] at ha
    obtain ⟨h1, h2⟩ := Agree.one hok (bit_le _) ha
    rw [hp] at h1 h2
    obtain ⟨h3, h4⟩ := hw_back h c n i h1
    refine ⟨h3, fun j hj => ?_⟩
    by_cases hji : j = i
    · subst hji; rw [bt_bitN, h2]
    · exact h4 j (by omega)
theorem lw_ok (h : WOK 1 st) (v n : Nat) : WOK 1 (lw st v n) := h.put v n n
theorem lw_pos (h : WOK 1 st) (v n : Nat) : pos (lw st v n) = pos st + n := pos_put h v n n
theorem lw_len (st : WS) (v n : Nat) : (lw st v n).1.length ≤ st.1.length + n := putS_len 1 v n st n
theorem lw_back (h : WOK 1 st) {v n : Nat} (hv : v < 2 ^ n) (ha : Agree 1 (pos (lw st v n)) (lw st v n).1 T) : Agree 1 (pos st) st.1 T ∧ (pos st + n ≤ 8 * T.length → num ⟨T.toArray⟩ (pos st) n = .ok ((v : Int), pos st + n)) := by
  rw [lw_pos h] at ha
  obtain ⟨h1, h2⟩ := Agree.put h v n n ha
  refine ⟨h1, fun hT => ?_⟩
  unfold num
  rw [if_pos (by show pos st + n ≤ 8 * T.toArray.size; simpa using hT), tk_bits hv h2]
end
/-! ### Kraft's sum -/
theorem kS_fs {lens : List Int} : ∀ n, n + 1 ≤ 15 → kS lens lens.length (n + 1) = (fs (cn lens) (n + 1) + cn lens (n + 1)) * 2 ^ (15 - (n + 1))
  | 0, _ => by
    have e : cn lens 1 = (cnt lens 1 : Int) := rfl
    show (0 : Int) + (cntT lens 1 lens.length : Int) * 2 ^ (15 - 1) = (0 + cn lens 1) * _
    rw [e, Int.zero_add, Int.zero_add]
    rfl
  | n + 1, h => by
    have ih := kS_fs (lens := lens) n (by omega)
    have e : cn lens (n + 1 + 1) = (cnt lens (n + 1 + 1) : Int) := rfl
    have e1 : kS lens lens.length (n + 1 + 1) = kS lens lens.length (n + 1) + (cnt lens (n + 1 + 1) : Int) * 2 ^ (15 - (n + 1 + 1)) := rfl
    have e2 : fs (cn lens) (n + 1 + 1) = 2 * (fs (cn lens) (n + 1) + cn lens (n + 1)) := rfl
    have e3 : (2 : Int) ^ (15 - (n + 1)) = 2 * 2 ^ (15 - (n + 1 + 1)) := by rw [show 15 - (n + 1) = 15 - (n + 1 + 1) + 1 by omega, two_pow_succ]
    rw [e1, ih, e, e2, e3]
    generalize fs (cn lens) (n + 1) + cn lens (n + 1) = a
    rw [Int.add_mul, Int.mul_left_comm, Int.mul_assoc]
theorem kS_mono {lens : List Int} (i : Nat) : ∀ l d, kS lens i l ≤ kS lens i (l + d)
  | l, 0 => Int.le_refl _
  | l, d + 1 => by
    have h1 := kS_mono (lens := lens) i l d
    have h2 : kS lens i (l + (d + 1)) = kS lens i (l + d) + (cntT lens (l + d + 1) i : Int) * 2 ^ (15 - (l + d + 1)) := rfl
    have h3 : (0 : Int) ≤ (cntT lens (l + d + 1) i : Int) * 2 ^ (15 - (l + d + 1)) := Int.mul_nonneg (by omega) (Int.le_of_lt (two_pow_pos _))
    omega
theorem kr_used {lens : List Int} (hk : Lok lens) : ∀ i, kr lens i ≤ usedT lens i * 16384 ∧ 0 ≤ usedT lens i
  | 0 => ⟨by show (0 : Int) ≤ 0 * 16384; decide, Int.le_refl _⟩
  | i + 1 => by
    obtain ⟨h1, h2⟩ := kr_used hk i
    have hn := hk.nn i
    have u : usedT lens (i + 1) = if lens.getD i 0 ≠ 0 then usedT lens i + 1 else usedT lens i := rfl
    have k : kr lens (i + 1) = if 0 < lens.getD i 0 then kr lens i + 2 ^ (15 - (lens.getD i 0).toNat) else kr lens i := rfl
    by_cases h0 : lens.getD i 0 = 0
    · rw [if_neg (by omega)] at k
      rw [if_neg (fun hh => hh h0)] at u
      rw [k, u]
      exact ⟨h1, h2⟩
    · rw [if_pos (by omega)] at k
      rw [if_pos h0] at u
      have hp := two_pow_le (show 15 - (lens.getD i 0).toNat ≤ 14 by omega)
      have h14 : (2 : Int) ^ 14 = 16384 := by decide
      rw [k, u]
      omega
theorem kr_le {lens : List Int} (h : chk lens = 0) : kr lens lens.length ≤ 32768 := by
  have hk := chk_lok h
  rw [chk_rest hk] at h
  obtain ⟨h1, h2⟩ := kr_used hk lens.length
  split at h
  · rename_i hc
    rcases hc with hc | hc | ⟨hc, _⟩ <;> omega
  · cases h
/-- A code fits its length. -/
theorem code_fits {lens : List Int} (h : chk lens = 0) {n : Nat} (h1 : 1 ≤ n) (h15 : n ≤ 15) : fs (cn lens) n + cn lens n ≤ 2 ^ n := by
  have hk := chk_lok h
  obtain ⟨m, rfl⟩ : ∃ m, n = m + 1 := ⟨n - 1, by omega⟩
  have a := kS_fs (lens := lens) m h15
  have b := kS_mono (lens := lens) lens.length (m + 1) (15 - (m + 1))
  rw [show m + 1 + (15 - (m + 1)) = 15 by omega, kS_kr hk, a] at b
  have c := kr_le h
  have hp := two_pow_pos (15 - (m + 1))
  have e : (32768 : Int) = 2 ^ (m + 1) * 2 ^ (15 - (m + 1)) := by rw [← Int.pow_add, show m + 1 + (15 - (m + 1)) = 15 by omega]; decide
  exact Int.le_of_mul_le_mul_right (by omega) hp
theorem fs_nn {lens : List Int} (hk : Lok lens) (n : Nat) : 0 ≤ fs (cn lens) n := (fs_bd (fun n => cn_bd hk.len n) n).1
theorem fs_ge {lens : List Int} (hk : Lok lens) {m : Nat} (h1 : 1 ≤ m) : ∀ d, (fs (cn lens) m + cn lens m) * 2 ^ (d + 1) ≤ fs (cn lens) (m + (d + 1))
  | 0 => by
    obtain ⟨x, rfl⟩ : ∃ x, m = x + 1 := ⟨m - 1, by omega⟩
    show _ ≤ 2 * (fs (cn lens) (x + 1) + cn lens (x + 1))
    rw [Int.mul_comm]
    exact Int.le_refl _
  | d + 1 => by
    have ih := fs_ge hk h1 d
    have hc := (cn_bd hk.len (m + (d + 1))).1
    have e : fs (cn lens) (m + (d + 1 + 1)) = 2 * (fs (cn lens) (m + (d + 1)) + cn lens (m + (d + 1))) := by
      obtain ⟨x, rfl⟩ : ∃ x, m = x + 1 := ⟨m - 1, by omega⟩
      rw [show x + 1 + (d + 1 + 1) = (x + d + 1) + 2 by omega, show x + 1 + (d + 1) = x + d + 1 + 1 by omega]
      rfl
    rw [e, two_pow_succ, Int.mul_left_comm]
    omega
/-- What is known of a sign's code. -/
theorem code_of {lens : List Int} (h : chk lens = 0) {g n : Nat} (hg : g < lens.length) (hn : lens.getD g 0 = (n : Int)) (h0 : 0 < n) : 1 ≤ n ∧ n ≤ 15 ∧ n ≤ longest lens ∧
    ∃ c : Nat, (codeL lens g).toNat = c ∧ (c : Int) = codeL lens g ∧ (c : Int) = fs (cn lens) n + (cntT lens n g : Int) ∧ c < 2 ^ n := by
  have hk := chk_lok h
  have hnn := hk.nn g
  have h15 : n ≤ 15 := by omega
  have hl := lens_long (lens := lens) lens.length g hg
  have hf := fs_nn hk n
  have hx := idxs_at hn hg
  have hfit := code_fits h h0 h15
  have hc : codeL lens g = fs (cn lens) n + (cntT lens n g : Int) := by
    unfold codeL
    rw [if_pos (by omega), hn, Int.toNat_natCast]
  have hcn : cn lens n = (cnt lens n : Int) := by unfold cn; rw [if_neg (by omega)]
  refine ⟨h0, h15, by unfold longest; omega, (codeL lens g).toNat, rfl, by omega, by omega, ?_⟩
  have e : ((2 ^ n : Nat) : Int) = 2 ^ n := by simp
  omega
/-- The code's bits, most significant first, are read as the sign. -/
theorem sym_code {lens : List Int} (h : chk lens = 0) {s : ByteArray} {p g n c : Nat} (hg : g < lens.length) (hn : lens.getD g 0 = (n : Int)) (h0 : 0 < n) (hc : (codeL lens g).toNat = c)
    (hb : ∀ j, j < n → bt s 1 (p + j) = ((c / 2 ^ (n - 1 - j) % 2 : Nat) : Int)) (hs : p + n ≤ 8 * s.size) : sym lens s p = .ok (g, p + n) := by
  have hk := chk_lok h
  obtain ⟨_, h15, hll, c', hc', _, hcv, hlt⟩ := code_of h hg hn h0
  rw [hc] at hc'
  subst hc'
  have hx := idxs_at hn hg
  have key : ∀ d m : Nat, m + d = n → 1 ≤ m → ∀ f : Int, fs (cn lens) m = 2 * f → sgo lens s (longest lens + 1 - m) m ((c / 2 ^ (d + 1) : Nat) : Int) f (p + (m - 1)) = .ok (g, p + n) := fun d => by
    induction d with
    | zero =>
      intro m hm h1 f hf
      obtain rfl : m = n := by omega
      obtain ⟨k, hk'⟩ : ∃ k, longest lens + 1 - m = k + 1 := ⟨longest lens - m, by omega⟩
      rw [hk']
      unfold sgo
      have hbm := hb (m - 1) (by omega)
      rw [show m - 1 - (m - 1) = 0 by omega, Nat.pow_zero, Nat.div_one] at hbm
      rw [if_neg (by omega), hbm, show 0 + 1 = 1 by rfl, Nat.pow_one]
      have e : 2 * ((c / 2 : Nat) : Int) + ((c % 2 : Nat) : Int) - 2 * f = (cntT lens m g : Int) := by omega
      rw [e, if_pos (by omega), Int.toNat_natCast, hx.1, show p + (m - 1) + 1 = p + m by omega]
    | succ d ih =>
      intro m hm h1 f hf
      obtain ⟨k, hk'⟩ : ∃ k, longest lens + 1 - m = k + 1 := ⟨longest lens - m, by omega⟩
      have hcn : cn lens m = (cnt lens m : Int) := by unfold cn; rw [if_neg (by omega)]
      have hbm := hb (m - 1) (by omega)
      rw [show n - 1 - (m - 1) = d + 1 by omega] at hbm
      have hge := fs_ge hk h1 d
      rw [show m + (d + 1) = n by omega] at hge
      have hfn := fs_nn hk m
      have hv : 2 * ((c / 2 ^ (d + 1 + 1) : Nat) : Int) + ((c / 2 ^ (d + 1) % 2 : Nat) : Int) = ((c / 2 ^ (d + 1) : Nat) : Int) := by
        have : c / 2 ^ (d + 1 + 1) = c / 2 ^ (d + 1) / 2 := by rw [Nat.pow_succ 2 (d + 1), ← Nat.div_div_eq_div_mul]
        rw [this]
        omega
      have hle : fs (cn lens) m + cn lens m ≤ ((c / 2 ^ (d + 1) : Nat) : Int) := by
        obtain ⟨z, hz⟩ := Int.eq_ofNat_of_zero_le (show 0 ≤ fs (cn lens) m + cn lens m by rw [hcn]; omega)
        rw [hz] at hge ⊢
        have e2 : ((2 ^ (d + 1) : Nat) : Int) = 2 ^ (d + 1) := by simp
        have : z * 2 ^ (d + 1) ≤ c := by
          have h3 : ((z * 2 ^ (d + 1) : Nat) : Int) = (z : Int) * 2 ^ (d + 1) := by simp
          omega
        have := (Nat.le_div_iff_mul_le (Nat.pow_pos (by decide))).2 this
        omega
      rw [hk']
      unfold sgo
      rw [if_neg (by omega), hbm, hv, if_neg (by rw [hcn] at hle; omega)]
      have := ih (m + 1) (by omega) (by omega) (2 * f + (cnt lens m : Int)) (by
        obtain ⟨x, rfl⟩ : ∃ x, m = x + 1 := ⟨m - 1, by omega⟩
        show 2 * (fs (cn lens) (x + 1) + cn lens (x + 1)) = _
        rw [hf, hcn])
      rw [show longest lens + 1 - (m + 1) = k by omega, show p + (m + 1 - 1) = p + (m - 1) + 1 by omega] at this
      exact this
  have := key (n - 1) 1 (by omega) (Nat.le_refl _) 0 rfl
  rw [show n - 1 + 1 = n by omega, Nat.div_eq_of_lt hlt, Nat.sub_self, Nat.add_zero, Nat.add_sub_cancel] at this
  exact this
section
variable {st : WS} {T : List UInt8} {lens : List Int}
/-- A sign that is written is read. -/
theorem cw_back (h : chk lens = 0) (hok : WOK 1 st) {g n : Nat} (hg : g < lens.length) (hn : lens.getD g 0 = (n : Int)) (h0 : 0 < n) (ha : Agree 1 (pos (cw lens st g)) (cw lens st g).1 T) :
    pos (cw lens st g) = pos st + n ∧ Agree 1 (pos st) st.1 T ∧ (pos st + n ≤ 8 * T.length → sym lens ⟨T.toArray⟩ (pos st) = .ok (g, pos st + n)) := by
  have e : cw lens st g = hw st (codeL lens g).toNat n n := by unfold cw; rw [hn, Int.toNat_natCast]
  rw [e] at ha ⊢
  rw [hw_pos hok] at ha ⊢
  obtain ⟨h1, h2⟩ := hw_back hok _ _ _ ha
  exact ⟨rfl, h1, fun hT => sym_code h hg hn h0 rfl h2 (by show _ ≤ 8 * T.toArray.size; simpa using hT)⟩
theorem cw_ok (hok : WOK 1 st) (g : Nat) : WOK 1 (cw lens st g) := hw_ok hok _ _ _
theorem cw_len (hk : Lok lens) (g : Nat) : (cw lens st g).1.length ≤ st.1.length + 15 := by
  have := hw_len st (codeL lens g).toNat (lens.getD g 0).toNat (lens.getD g 0).toNat
  have h2 := hk.nn g
  unfold cw
  omega
end
/-! ### A block with the fixed codes -/
theorem base3 : ∀ k, 3 ≤ baseL k
  | 0 => Nat.le_refl _
  | k + 1 => Nat.le_trans (base3 k) (Nat.le_add_right _ _)
theorem fixL_len : fixL.length = 288 := by decide +kernel
theorem fixD_len : fixD.length = 32 := by decide +kernel
theorem fixL_get : ∀ g, g < 288 → 7 ≤ fixL.getD g 0 ∧ fixL.getD g 0 ≤ 9 := by decide +kernel
theorem fixD_get : ∀ g, g < 32 → fixD.getD g 0 = 5 := by decide +kernel
theorem nearW {st : WS} {T : List UInt8} (hok : WOK 1 st) {g : Nat} (hg : g < 288) (ha : Agree 1 (pos (cw fixL st g)) (cw fixL st g).1 T) : ∃ n, 1 ≤ n ∧ pos (cw fixL st g) = pos st + n ∧ Agree 1 (pos st) st.1 T ∧ (pos st + n ≤ 8 * T.length → sym fixL ⟨T.toArray⟩ (pos st) = .ok (g, pos st + n)) := by
  have h := fixL_get g hg
  obtain ⟨n, hn⟩ := Int.eq_ofNat_of_zero_le (show 0 ≤ fixL.getD g 0 by omega)
  obtain ⟨a, b, c⟩ := cw_back chk_fixL hok (by rw [fixL_len]; exact hg) hn (by omega) ha
  exact ⟨n, by omega, a, b, c⟩
theorem farW {st : WS} {T : List UInt8} (hok : WOK 1 st) {g : Nat} (hg : g < 32) (ha : Agree 1 (pos (cw fixD st g)) (cw fixD st g).1 T) : pos (cw fixD st g) = pos st + 5 ∧ Agree 1 (pos st) st.1 T ∧ (pos st + 5 ≤ 8 * T.length → sym fixD ⟨T.toArray⟩ (pos st) = .ok (g, pos st + 5)) :=
  cw_back chk_fixD hok (by rw [fixD_len]; exact hg) (fixD_get g hg) (by omega) ha
/-- What has been written of a block: the head, signs that give these bytes. -/
structure EN (st : WS) (out : List UInt8) : Prop where
  ok : WOK 1 st
  dec : ∀ T : List UInt8, Agree 1 (pos st) st.1 T → pos st ≤ 8 * T.length → num ⟨T.toArray⟩ 0 1 = .ok (1, 1) ∧ num ⟨T.toArray⟩ 1 2 = .ok (1, 3) ∧ ∃ i, i ≤ pos st ∧
    ∀ most k, (out.length ≤ most → signsF ⟨T.toArray⟩ fixL fixD most (k + i) [] 3 = signsF ⟨T.toArray⟩ fixL fixD most k out (pos st)) ∧ (most < out.length → signsF ⟨T.toArray⟩ fixL fixD most (k + i) [] 3 = .error 5)
theorem EN.zero : EN (lw (lw ([], 0) 1 1) 1 2) [] := by
  have h0 : WOK 1 ([], 0) := WOK.zero 1 []
  have h1 := lw_ok h0 1 1
  refine ⟨lw_ok h1 1 2, fun T ha hT => ?_⟩
  obtain ⟨a1, a2⟩ := lw_back h1 (v := 1) (n := 2) (by decide) ha
  obtain ⟨b1, b2⟩ := lw_back h0 (v := 1) (n := 1) (by decide) a1
  rw [lw_pos h1] at hT ⊢
  rw [lw_pos h0] at hT a2 ⊢
  have p0 : pos (([], 0) : WS) = 0 := rfl
  rw [p0] at hT a2 b2 ⊢
  exact ⟨b2 (by omega), a2 (by omega), 0, by omega, fun most k => ⟨fun _ => rfl, fun h => by cases h⟩⟩
/-- One literal more. -/
theorem EN.lit {st : WS} {out : List UInt8} (h : EN st out) {b : UInt8} : EN (cw fixL st b.toNat) (out ++ [b]) := by
  have hb := b.toNat_lt
  refine ⟨cw_ok h.ok _, fun T ha hT => ?_⟩
  obtain ⟨n, n1, a1, a2, a3⟩ := nearW h.ok (by omega) ha
  rw [a1] at hT ⊢
  obtain ⟨c1, c2, i, c3, c4⟩ := h.dec T a2 (by omega)
  refine ⟨c1, c2, i + 1, by omega, fun most k => ?_⟩
  obtain ⟨d1, d2⟩ := c4 most (k + 1)
  have e1 : k + 1 + i = k + (i + 1) := by omega
  rw [e1] at d1 d2
  have step : signsF ⟨T.toArray⟩ fixL fixD most (k + 1) out (pos st) = if most ≤ out.length then .error 5 else signsF ⟨T.toArray⟩ fixL fixD most k (out ++ [b]) (pos st + n) := by
    conv => lhs; unfold signsF
    rw [a3 hT]
    dsimp only
    rw [if_neg (by omega), if_neg (by omega), UInt8.ofNat_toNat]
  have hl : (out ++ [b]).length = out.length + 1 := by simp
  rw [hl]
  refine ⟨fun hm => ?_, fun hm => ?_⟩
  · rw [d1 (by omega), step, if_neg (by omega)]
  · by_cases hm2 : most < out.length
    · exact d2 hm2
    · rw [d1 (by omega), step, if_pos (by omega)]
/-- One copy more. -/
theorem EN.cpy {st : WS} {out : List UInt8} (h : EN st out) {k x d y : Nat} (hk : k ≤ 28) (hx : x < 2 ^ moreL k) (hd : d ≤ 29) (hy : y < 2 ^ moreD d) (hlen : baseD d + y ≤ out.length) :
    EN (lw (cw fixD (lw (cw fixL st (257 + k)) x (moreL k)) d) y (moreD d)) (copy out (baseD d + y) (firstL k + x)) := by
  have ok1 := cw_ok (lens := fixL) h.ok (257 + k)
  have ok2 := lw_ok ok1 x (moreL k)
  have ok3 := cw_ok (lens := fixD) ok2 d
  refine ⟨lw_ok ok3 _ _, fun T ha hT => ?_⟩
  obtain ⟨y1, y2⟩ := lw_back ok3 hy ha
  rw [lw_pos ok3] at hT ⊢
  obtain ⟨f1, f2, f3⟩ := farW ok2 (by omega) y1
  rw [f1] at hT y2 ⊢
  obtain ⟨x1, x2⟩ := lw_back ok1 hx f2
  rw [lw_pos ok1] at hT y2 f3 ⊢
  obtain ⟨n, n1, a1, a2, a3⟩ := nearW h.ok (g := 257 + k) (by omega) x1
  rw [a1] at hT y2 f3 x2 ⊢
  obtain ⟨c1, c2, i, c3, c4⟩ := h.dec T a2 (by omega)
  refine ⟨c1, c2, i + 1, by omega, fun most z => ?_⟩
  obtain ⟨d1, d2⟩ := c4 most (z + 1)
  have e1 : z + 1 + i = z + (i + 1) := by omega
  rw [e1] at d1 d2
  have step : signsF ⟨T.toArray⟩ fixL fixD most (z + 1) out (pos st) = if most < out.length + (firstL k + x) then .error 5 else signsF ⟨T.toArray⟩ fixL fixD most z (copy out (baseD d + y) (firstL k + x)) (pos st + n + moreL k + 5 + moreD d) := by
    conv => lhs; unfold signsF
    rw [a3 (by omega)]
    dsimp only
    rw [if_neg (by omega), if_pos (by omega)]
    unfold copied
    rw [if_neg (by omega), show 257 + k - 257 = k by omega, x2 (by omega)]
    dsimp only
    rw [f3 (by omega)]
    dsimp only
    rw [if_neg (by omega), y2 (by omega)]
    dsimp only
    rw [Int.toNat_natCast, Int.toNat_natCast, if_neg (by omega)]
    by_cases hc : most < out.length + (firstL k + x)
    · rw [if_pos hc, if_pos hc]
    · rw [if_neg hc, if_neg hc]
  rw [copy_len]
  have h3 : 3 ≤ firstL k := by
    unfold firstL
    split
    · omega
    · exact base3 k
  refine ⟨fun hm => ?_, fun hm => ?_⟩
  · rw [d1 (by omega), step, if_neg (by omega)]
  · by_cases hm2 : most < out.length
    · exact d2 hm2
    · rw [d1 (by omega), step, if_pos (by omega)]
/-- The end: what All answers. -/
theorem EN.fin {st : WS} {out T : List UInt8} (h : EN st out) (hT : T = (cw fixL st 256).1) (hb : out.length ≤ 1048576) :
    allR ⟨T.toArray⟩ (out.length : Int) = (⟨out.toArray⟩, (T.length : Int), 0) ∧ (0 < out.length → allR ⟨T.toArray⟩ ((out.length : Int) - 1) = (⟨#[]⟩, 0, 5)) := by
  have ok1 := cw_ok (lens := fixL) h.ok 256
  have hsz : (⟨T.toArray⟩ : ByteArray).size = T.length := by show T.toArray.size = _; simp
  have hpos : pos (cw fixL st 256) ≤ 8 * T.length ∧ 8 * T.length < pos (cw fixL st 256) + 8 := by
    rw [hT]
    unfold pos
    split
    · omega
    · rename_i h2
      have h3 := ok1.lt
      have h4 : (cw fixL st 256).1.length ≠ 0 := fun e => (grow_ne ok1) (by unfold grow; rw [if_neg h2]; exact List.eq_nil_of_length_eq_zero e)
      omega
  have ha : Agree 1 (pos (cw fixL st 256)) (cw fixL st 256).1 T := by rw [hT]; exact Agree.refl _ _ _
  obtain ⟨n, n1, a1, a2, a3⟩ := nearW h.ok (g := 256) (by omega) ha
  rw [a1] at hpos
  obtain ⟨c1, c2, i, c3, c4⟩ := h.dec T a2 (by omega)
  have run : ∀ most, (out.length ≤ most → allQ ⟨T.toArray⟩ most (8 * (⟨T.toArray⟩ : ByteArray).size + 1) [] 0 = .ok (out, pos st + n)) ∧ (most < out.length → allQ ⟨T.toArray⟩ most (8 * (⟨T.toArray⟩ : ByteArray).size + 1) [] 0 = .error 5) := fun most => by
    obtain ⟨d1, d2⟩ := c4 most (8 * T.length + 1 - i - 1 + 1)
    rw [show 8 * T.length + 1 - i - 1 + 1 + i = 8 * T.length + 1 by omega] at d1 d2
    have blk : allQ ⟨T.toArray⟩ most (8 * (⟨T.toArray⟩ : ByteArray).size + 1) [] 0 = match signsF ⟨T.toArray⟩ fixL fixD most (8 * T.length + 1) [] 3 with
        | .error e => .error e
        | .ok (o, q) => .ok (o, q) := by
      rw [hsz]
      unfold allQ
      rw [c1]
      dsimp only [bnd]
      rw [c2]
      dsimp only
      unfold block
      rw [if_neg (by decide), if_neg (by decide), if_neg (by decide), hsz]
      cases signsF ⟨T.toArray⟩ fixL fixD most (8 * T.length + 1) [] 3 with
      | error e => rfl
      | ok z =>
        obtain ⟨o, q⟩ := z
        dsimp only
        rw [if_pos rfl]
    refine ⟨fun hm => ?_, fun hm => ?_⟩
    · rw [blk, d1 hm]
      conv => lhs; unfold signsF
      rw [a3 (by omega)]
      rfl
    · rw [blk, d2 hm]
  constructor
  · rw [allR_Q (by omega), (run _).1 (by omega)]
    dsimp only
    congr 2
    omega
  · intro h0
    rw [allR_Q (by omega), (run _).2 (by omega)]
end Inf
end Go.Proofs.YtjkoafjnmkchdaaGreatDoor

/- Deflate: a block that is written sign by sign is read back, whatever its two codes; the signs of lengths and distances. Plain laws; conditions: a code's lengths. -/
namespace Go.Proofs.YtjkoafjnmkchdaaGreatDoor
namespace Inf
open Sh Bit
set_option linter.unusedVariables false
set_option linter.unusedSimpArgs false
set_option maxRecDepth 4000
set_option maxHeartbeats 1000000
theorem symW {lens : List Int} (hc : chk lens = 0) {st : WS} {T : List UInt8} (hok : WOK 1 st) {g : Nat} (hg : g < lens.length) (h0 : 0 < lens.getD g 0) (ha : Agree 1 (pos (cw lens st g)) (cw lens st g).1 T) :
    ∃ n, 1 ≤ n ∧ pos (cw lens st g) = pos st + n ∧ Agree 1 (pos st) st.1 T ∧ (pos st + n ≤ 8 * T.length → sym lens ⟨T.toArray⟩ (pos st) = .ok (g, pos st + n)) := by
  obtain ⟨n, hn⟩ := Int.eq_ofNat_of_zero_le (show 0 ≤ lens.getD g 0 by omega)
  obtain ⟨a, b, c⟩ := cw_back hc hok hg hn (by omega) ha
  exact ⟨n, by omega, a, b, c⟩
/-- What has been written of a block: the head, signs that give these bytes. -/
structure Enc (H : List UInt8 → Prop) (near far : List Int) (p0 : Nat) (st : WS) (out : List UInt8) : Prop where
  ok : WOK 1 st
  dec : ∀ T : List UInt8, Agree 1 (pos st) st.1 T → pos st ≤ 8 * T.length → H T ∧ ∃ i, i ≤ pos st ∧
    ∀ most k, (out.length ≤ most → signsF ⟨T.toArray⟩ near far most (k + i) [] p0 = signsF ⟨T.toArray⟩ near far most k out (pos st)) ∧ (most < out.length → signsF ⟨T.toArray⟩ near far most (k + i) [] p0 = .error 5)
section
variable {H : List UInt8 → Prop} {near far : List Int} {p0 : Nat} {st : WS} {out : List UInt8}
theorem Enc.zero (ok : WOK 1 st) (h : ∀ T : List UInt8, Agree 1 (pos st) st.1 T → pos st ≤ 8 * T.length → H T) (hp : p0 = pos st) : Enc H near far p0 st [] :=
  ⟨ok, fun T ha hT => ⟨h T ha hT, 0, by omega, fun most k => ⟨fun _ => by rw [hp]; rfl, fun h => by cases h⟩⟩⟩
theorem Enc.lit (h : Enc H near far p0 st out) (hc : chk near = 0) {b : UInt8} (hg : b.toNat < near.length) (hb0 : 0 < near.getD b.toNat 0) : Enc H near far p0 (cw near st b.toNat) (out ++ [b]) := by
  have hb := b.toNat_lt
  refine ⟨cw_ok h.ok _, fun T ha hT => ?_⟩
  obtain ⟨n, n1, a1, a2, a3⟩ := symW hc h.ok hg hb0 ha
  rw [a1] at hT ⊢
  obtain ⟨c1, i, c3, c4⟩ := h.dec T a2 (by omega)
  refine ⟨c1, i + 1, by omega, fun most k => ?_⟩
  obtain ⟨d1, d2⟩ := c4 most (k + 1)
  have e1 : k + 1 + i = k + (i + 1) := by omega
  rw [e1] at d1 d2
  have step : signsF ⟨T.toArray⟩ near far most (k + 1) out (pos st) = if most ≤ out.length then .error 5 else signsF ⟨T.toArray⟩ near far most k (out ++ [b]) (pos st + n) := by
    conv => lhs; unfold signsF
    rw [a3 hT]
    dsimp only
    rw [if_neg (by omega), if_neg (by omega), UInt8.ofNat_toNat]
  have hl : (out ++ [b]).length = out.length + 1 := by simp
  rw [hl]
  refine ⟨fun hm => ?_, fun hm => ?_⟩
  · rw [d1 (by omega), step, if_neg (by omega)]
  · by_cases hm2 : most < out.length
    · exact d2 hm2
    · rw [d1 (by omega), step, if_pos (by omega)]
theorem Enc.cpy (h : Enc H near far p0 st out) (hc : chk near = 0) (hf : chk far = 0) {k x d y : Nat} (hk : k ≤ 28) (hx : x < 2 ^ moreL k) (hd : d ≤ 29) (hy : y < 2 ^ moreD d) (hlen : baseD d + y ≤ out.length)
    (hg : 257 + k < near.length) (hg0 : 0 < near.getD (257 + k) 0) (hdl : d < far.length) (hd0 : 0 < far.getD d 0) :
    Enc H near far p0 (lw (cw far (lw (cw near st (257 + k)) x (moreL k)) d) y (moreD d)) (copy out (baseD d + y) (firstL k + x)) := by
  have ok1 := cw_ok (lens := near) h.ok (257 + k)
  have ok2 := lw_ok ok1 x (moreL k)
  have ok3 := cw_ok (lens := far) ok2 d
  refine ⟨lw_ok ok3 _ _, fun T ha hT => ?_⟩
  obtain ⟨y1, y2⟩ := lw_back ok3 hy ha
  rw [lw_pos ok3] at hT ⊢
  obtain ⟨m, m1, f1, f2, f3⟩ := symW hf ok2 hdl hd0 y1
  rw [f1] at hT y2 ⊢
  obtain ⟨x1, x2⟩ := lw_back ok1 hx f2
  rw [lw_pos ok1] at hT y2 f3 ⊢
  obtain ⟨n, n1, a1, a2, a3⟩ := symW hc h.ok hg hg0 x1
  rw [a1] at hT y2 f3 x2 ⊢
  obtain ⟨c1, i, c3, c4⟩ := h.dec T a2 (by omega)
  refine ⟨c1, i + 1, by omega, fun most z => ?_⟩
  obtain ⟨d1, d2⟩ := c4 most (z + 1)
  have e1 : z + 1 + i = z + (i + 1) := by omega
  rw [e1] at d1 d2
  have step : signsF ⟨T.toArray⟩ near far most (z + 1) out (pos st) = if most < out.length + (firstL k + x) then .error 5 else signsF ⟨T.toArray⟩ near far most z (copy out (baseD d + y) (firstL k + x)) (pos st + n + moreL k + m + moreD d) := by
    conv => lhs; unfold signsF
    rw [a3 (by omega)]
    dsimp only
    rw [if_neg (by omega), if_pos (by omega)]
    unfold copied
    rw [if_neg (by omega), show 257 + k - 257 = k by omega, x2 (by omega)]
    dsimp only
    rw [f3 (by omega)]
    dsimp only
    rw [if_neg (by omega), y2 (by omega)]
    dsimp only
    rw [Int.toNat_natCast, Int.toNat_natCast, if_neg (by omega)]
    by_cases hc : most < out.length + (firstL k + x)
    · rw [if_pos hc, if_pos hc]
    · rw [if_neg hc, if_neg hc]
  rw [copy_len]
  have h3 : 3 ≤ firstL k := by
    unfold firstL
    split
    · omega
    · exact base3 k
  refine ⟨fun hm => ?_, fun hm => ?_⟩
  · rw [d1 (by omega), step, if_neg (by omega)]
  · by_cases hm2 : most < out.length
    · exact d2 hm2
    · rw [d1 (by omega), step, if_pos (by omega)]
/-- What a text must be that gives these bytes, and no more: read to its end, refused if the limit is less. -/
def Gives (T out : List UInt8) : Prop := ∀ most : Nat, (out.length ≤ most → ∃ q, allQ ⟨T.toArray⟩ most (8 * (⟨T.toArray⟩ : ByteArray).size + 1) [] 0 = .ok (out, q) ∧ (q + 7) / 8 = T.length) ∧
  (most < out.length → allQ ⟨T.toArray⟩ most (8 * (⟨T.toArray⟩ : ByteArray).size + 1) [] 0 = .error 5)
theorem pos_end {st : WS} (ok : WOK 1 st) (h : st.2 = 0 ∨ st.1 ≠ []) : pos st ≤ 8 * st.1.length ∧ 8 * st.1.length < pos st + 8 := by
  unfold pos
  split
  · omega
  · rename_i h2
    have h3 := ok.lt
    have h4 : st.1.length ≠ 0 := fun e => h.elim h2 fun hh => hh (List.eq_nil_of_length_eq_zero e)
    omega
/-- The end: what is read. -/
theorem Enc.fin {T : List UInt8} {kind : Int} (h : Enc H near far p0 st out) (hc : chk near = 0) (hg : 256 < near.length) (hg0 : 0 < near.getD 256 0) (hT : T = (cw near st 256).1)
    (hH : ∀ T : List UInt8, H T → num ⟨T.toArray⟩ 0 1 = .ok (1, 1) ∧ num ⟨T.toArray⟩ 1 2 = .ok (kind, 3) ∧ ∀ most, block ⟨T.toArray⟩ most kind [] 3 = signsF ⟨T.toArray⟩ near far most (8 * (⟨T.toArray⟩ : ByteArray).size + 1) [] p0) : Gives T out := by
  have ok1 := cw_ok (lens := near) h.ok 256
  have hsz : (⟨T.toArray⟩ : ByteArray).size = T.length := by show T.toArray.size = _; simp
  have hne : (cw near st 256).2 = 0 ∨ (cw near st 256).1 ≠ [] := by
    by_cases h2 : (cw near st 256).2 = 0
    · exact .inl h2
    · refine .inr fun e => (grow_ne ok1) ?_
      unfold grow
      rw [if_neg h2]
      exact e
  have hpos := pos_end ok1 hne
  rw [← hT] at hpos
  have ha : Agree 1 (pos (cw near st 256)) (cw near st 256).1 T := by rw [hT]; exact Agree.refl _ _ _
  obtain ⟨n, n1, a1, a2, a3⟩ := symW hc h.ok hg hg0 ha
  rw [a1] at hpos
  obtain ⟨hHT, i, c3, c4⟩ := h.dec T a2 (by omega)
  obtain ⟨c1, c2, hblk⟩ := hH T hHT
  intro most
  obtain ⟨d1, d2⟩ := c4 most (8 * T.length + 1 - i - 1 + 1)
  rw [show 8 * T.length + 1 - i - 1 + 1 + i = 8 * T.length + 1 by omega] at d1 d2
  have blk : allQ ⟨T.toArray⟩ most (8 * (⟨T.toArray⟩ : ByteArray).size + 1) [] 0 = match signsF ⟨T.toArray⟩ near far most (8 * T.length + 1) [] p0 with
      | .error e => .error e
      | .ok (o, q) => .ok (o, q) := by
    rw [hsz]
    unfold allQ
    rw [c1]
    dsimp only [bnd]
    rw [c2]
    dsimp only
    rw [hblk, hsz]
    cases signsF ⟨T.toArray⟩ near far most (8 * T.length + 1) [] p0 with
    | error e => rfl
    | ok z =>
      obtain ⟨o, q⟩ := z
      dsimp only
      rw [if_pos rfl]
  refine ⟨fun hm => ⟨pos st + n, ?_, by omega⟩, fun hm => ?_⟩
  · rw [blk, d1 hm]
    conv => lhs; unfold signsF
    rw [a3 (by omega)]
    rfl
  · rw [blk, d2 hm]
end
/-! ### The signs of lengths and distances -/
def kLt (v : Nat) : Nat → Nat
  | 0 => 0
  | m + 1 => if baseL (m + 1) ≤ v then m + 1 else kLt v m
/-- The sign of a length, less 257. -/
def kL (v : Nat) : Nat := if v = 258 then 28 else kLt v 27
def kDt (v : Nat) : Nat → Nat
  | 0 => 0
  | m + 1 => if baseD (m + 1) ≤ v then m + 1 else kDt v m
/-- The sign of a distance. -/
def kD (v : Nat) : Nat := kDt v 29
theorem kDt_spec (v : Nat) (hv : 1 ≤ v) : ∀ m, kDt v m ≤ m ∧ baseD (kDt v m) ≤ v ∧ (v < baseD (m + 1) → v < baseD (kDt v m + 1))
  | 0 => ⟨Nat.le_refl _, hv, fun h => h⟩
  | m + 1 => by
    obtain ⟨a, b, c⟩ := kDt_spec v hv m
    unfold kDt
    by_cases h : baseD (m + 1) ≤ v
    · rw [if_pos h]
      exact ⟨Nat.le_refl _, h, fun h => h⟩
    · rw [if_neg h]
      exact ⟨by omega, b, fun _ => c (by omega)⟩
theorem kLt_spec (v : Nat) (hv : 3 ≤ v) : ∀ m, kLt v m ≤ m ∧ baseL (kLt v m) ≤ v ∧ (v < baseL (m + 1) → v < baseL (kLt v m + 1))
  | 0 => ⟨Nat.le_refl _, hv, fun h => h⟩
  | m + 1 => by
    obtain ⟨a, b, c⟩ := kLt_spec v hv m
    unfold kLt
    by_cases h : baseL (m + 1) ≤ v
    · rw [if_pos h]
      exact ⟨Nat.le_refl _, h, fun h => h⟩
    · rw [if_neg h]
      exact ⟨by omega, b, fun _ => c (by omega)⟩
theorem baseD30 : baseD 30 = 32769 := by decide +kernel
theorem baseL28 : baseL 28 = 259 := by decide +kernel
theorem kD_spec {v : Nat} (h1 : 1 ≤ v) (h2 : v ≤ 32768) : kD v ≤ 29 ∧ baseD (kD v) ≤ v ∧ v < baseD (kD v) + 2 ^ moreD (kD v) := by
  obtain ⟨a, b, c⟩ := kDt_spec v h1 29
  exact ⟨a, b, c (by rw [baseD30]; omega)⟩
theorem kL_spec {v : Nat} (h1 : 3 ≤ v) (h2 : v ≤ 258) : kL v ≤ 28 ∧ firstL (kL v) ≤ v ∧ v < firstL (kL v) + 2 ^ moreL (kL v) ∧ (kL v = 28 ↔ v = 258) := by
  unfold kL
  by_cases h : v = 258
  · rw [if_pos h]
    subst h
    decide
  · rw [if_neg h]
    obtain ⟨a, b, c⟩ := kLt_spec v h1 27
    have e1 : firstL (kLt v 27) = baseL (kLt v 27) := by unfold firstL; rw [if_neg (by omega)]
    have e2 : moreL (kLt v 27) = kLt v 27 / 4 - 1 := by unfold moreL; rw [if_neg (by omega)]
    rw [e1, e2]
    exact ⟨by omega, b, c (by rw [baseL28]; omega), fun hh => by omega, fun hh => absurd hh h⟩
theorem baseD_mono : ∀ (k d : Nat), baseD k + d ≤ baseD (k + d)
  | k, 0 => Nat.le_refl _
  | k, d + 1 => by
    have := baseD_mono k d
    have h : 0 < 2 ^ ((k + d) / 2 - 1) := Nat.pow_pos (by decide)
    show baseD k + (d + 1) ≤ baseD (k + d) + 2 ^ ((k + d) / 2 - 1)
    omega
theorem baseL_mono : ∀ (k d : Nat), baseL k + d ≤ baseL (k + d)
  | k, 0 => Nat.le_refl _
  | k, d + 1 => by
    have := baseL_mono k d
    have h : 0 < 2 ^ ((k + d) / 4 - 1) := Nat.pow_pos (by decide)
    show baseL k + (d + 1) ≤ baseL (k + d) + 2 ^ ((k + d) / 4 - 1)
    omega
theorem kD_eq {v k : Nat} (h1 : 1 ≤ v) (h2 : v ≤ 32768) (hk : baseD k ≤ v) (hk2 : v < baseD (k + 1)) : k = kD v := by
  obtain ⟨a, b, c⟩ := kD_spec h1 h2
  have c : v < baseD (kD v + 1) := c
  rcases Nat.lt_trichotomy k (kD v) with h | h | h
  · have := baseD_mono (k + 1) (kD v - (k + 1))
    rw [show k + 1 + (kD v - (k + 1)) = kD v by omega] at this
    omega
  · exact h
  · have := baseD_mono (kD v + 1) (k - (kD v + 1))
    rw [show kD v + 1 + (k - (kD v + 1)) = k by omega] at this
    omega
theorem kL_eq {v k : Nat} (h1 : 3 ≤ v) (h2 : v < 258) (hk : baseL k ≤ v) (hk2 : v < baseL (k + 1)) : k = kL v := by
  obtain ⟨a, b, c⟩ := kLt_spec v h1 27
  have c := c (by rw [baseL28]; omega)
  unfold kL
  rw [if_neg (by omega)]
  rcases Nat.lt_trichotomy k (kLt v 27) with h | h | h
  · have := baseL_mono (k + 1) (kLt v 27 - (k + 1))
    rw [show k + 1 + (kLt v 27 - (k + 1)) = kLt v 27 by omega] at this
    omega
  · exact h
  · have := baseL_mono (kLt v 27 + 1) (k - (kLt v 27 + 1))
    rw [show kLt v 27 + 1 + (k - (kLt v 27 + 1)) = k by omega] at this
    omega
/-! ### Parts -/
/-- A part: a byte, or a size and how far back. -/
structure Prt where
  b : UInt8
  n : Nat
  f : Nat
def Prt.ok (p : Prt) : Prop := (p.n = 0 ∧ p.f = 0) ∨ (p.b = 0 ∧ 3 ≤ p.n ∧ p.n ≤ 258 ∧ 1 ≤ p.f ∧ p.f ≤ 32768)
def addP (out : List UInt8) (p : Prt) : List UInt8 := if p.n = 0 then out ++ [p.b] else copy out p.f p.n
/-- Each part is one, and does not reach back beyond what there is. -/
def Fit : List Prt → List UInt8 → Prop
  | [], _ => True
  | p :: r, out => p.ok ∧ p.f ≤ out.length ∧ Fit r (addP out p)
/-- What the writer writes of a part. -/
def wP (near far : List Int) (st : WS) (p : Prt) : WS := if p.n = 0 then cw near st p.b.toNat else
  lw (cw far (lw (cw near st (257 + kL p.n)) (p.n - firstL (kL p.n)) (moreL (kL p.n))) (kD p.f)) (p.f - baseD (kD p.f)) (moreD (kD p.f))
/-- The codes have the signs of a part. -/
def Has (near far : List Int) (p : Prt) : Prop := if p.n = 0 then p.b.toNat < near.length ∧ 0 < near.getD p.b.toNat 0 else
  (257 + kL p.n < near.length ∧ 0 < near.getD (257 + kL p.n) 0) ∧ kD p.f < far.length ∧ 0 < far.getD (kD p.f) 0
theorem Enc.part {H : List UInt8 → Prop} {near far : List Int} {p0 : Nat} {st : WS} {out : List UInt8} (h : Enc H near far p0 st out) (hc : chk near = 0) (hf : chk far = 0) {p : Prt} (hp : p.ok) (hl : p.f ≤ out.length) (hh : Has near far p) :
    Enc H near far p0 (wP near far st p) (addP out p) := by
  unfold wP addP Has at *
  by_cases hn : p.n = 0
  · rw [if_pos hn] at hh ⊢
    rw [if_pos hn]
    exact h.lit hc hh.1 hh.2
  · rw [if_neg hn] at hh ⊢
    rw [if_neg hn]
    rcases hp with hp | ⟨_, h3, h4, h5, h6⟩
    · exact absurd hp.1 hn
    obtain ⟨a1, a2, a3, _⟩ := kL_spec h3 h4
    obtain ⟨b1, b2, b3⟩ := kD_spec h5 h6
    have e1 : firstL (kL p.n) + (p.n - firstL (kL p.n)) = p.n := by omega
    have e2 : baseD (kD p.f) + (p.f - baseD (kD p.f)) = p.f := by omega
    have := h.cpy hc hf (k := kL p.n) (x := p.n - firstL (kL p.n)) (d := kD p.f) (y := p.f - baseD (kD p.f)) a1 (by omega) b1 (by omega) (by omega) hh.1.1 hh.1.2 hh.2.1 hh.2.2
    rw [e1, e2] at this
    exact this
end Inf
end Go.Proofs.YtjkoafjnmkchdaaGreatDoor

/- Deflate: the greedy parse, plain: the longest copy, the nearest of these; its parts give the string back. No condition. -/
namespace Go.Proofs.YtjkoafjnmkchdaaGreatDoor
namespace Inf
open Sh Bit
set_option linter.unusedVariables false
set_option linter.unusedSimpArgs false
set_option maxRecDepth 4000
set_option maxHeartbeats 1000000
/-- How far the bytes at two places are alike, from n on, k bytes at most. -/
def alikeK (s : List UInt8) (a b n : Nat) : Nat → Nat
  | 0 => n
  | k + 1 => if s.getD (a + n) 0 = s.getD (b + n) 0 then alikeK s a b (n + 1) k else n
theorem alikeK_spec (s : List UInt8) (a b : Nat) : ∀ (k n : Nat), n ≤ alikeK s a b n k ∧ alikeK s a b n k ≤ n + k ∧ (∀ j, n ≤ j → j < alikeK s a b n k → s.getD (a + j) 0 = s.getD (b + j) 0) ∧ (alikeK s a b n k = n + k ∨ s.getD (a + alikeK s a b n k) 0 ≠ s.getD (b + alikeK s a b n k) 0)
  | 0, n => ⟨Nat.le_refl _, Nat.le_refl _, fun j h1 h2 => by have : j < n := h2; omega, .inl rfl⟩
  | k + 1, n => by
    unfold alikeK
    by_cases h : s.getD (a + n) 0 = s.getD (b + n) 0
    · rw [if_pos h]
      obtain ⟨c1, c2, c3, c4⟩ := alikeK_spec s a b k (n + 1)
      refine ⟨by omega, by omega, fun j h1 h2 => ?_, c4.elim (fun c => .inl (by omega)) .inr⟩
      rcases Nat.lt_or_ge n j with h3 | h3
      · exact c3 j (by omega) h2
      · have : j = n := by omega
        subst this
        exact h
    · rw [if_neg h]
      exact ⟨Nat.le_refl _, by omega, fun j h1 h2 => by omega, .inr h⟩
/-- A step of the comparison. -/
theorem alikeK_step (s : List UInt8) (a b n k : Nat) : alikeK s a b n (k + 1) = if s.getD (a + n) 0 = s.getD (b + n) 0 then alikeK s a b (n + 1) k else n := rfl
/-- The most bytes of a copy at a place. -/
def mostK (s : List UInt8) (p : Nat) : Nat := min 258 (s.length - p)
/-- How long a copy from f bytes back may be. -/
def mlen (s : List UInt8) (p f : Nat) : Nat := alikeK s (p - f) p 0 (mostK s p)
/-- The longest copy from at most F bytes back, the nearest of these. -/
def bst (s : List UInt8) (p : Nat) : Nat → Nat × Nat
  | 0 => (0, 0)
  | F + 1 => if (bst s p F).1 < mlen s p (F + 1) then (mlen s p (F + 1), F + 1) else bst s p F
def farK (p : Nat) : Nat := min p 32768
theorem mlen_le (s : List UInt8) (p f : Nat) : mlen s p f ≤ mostK s p := by
  have := (alikeK_spec s (p - f) p (mostK s p) 0).2.1
  unfold mlen
  omega
theorem bst_le (s : List UInt8) (p : Nat) : ∀ F, (bst s p F).1 ≤ mostK s p
  | 0 => Nat.zero_le _
  | F + 1 => by
    unfold bst
    split
    · exact mlen_le s p _
    · exact bst_le s p F
theorem bst_max {s : List UInt8} {p F : Nat} (h : (bst s p F).1 = mostK s p) : ∀ d, bst s p (F + d) = bst s p F
  | 0 => rfl
  | d + 1 => by
    have := mlen_le s p (F + d + 1)
    show (if (bst s p (F + d)).1 < mlen s p (F + d + 1) then (mlen s p (F + d + 1), F + d + 1) else bst s p (F + d)) = _
    rw [bst_max h d, if_neg (by omega)]
theorem bst_at {s : List UInt8} {p : Nat} : ∀ F, (bst s p F).1 = 0 ∨ (1 ≤ (bst s p F).2 ∧ (bst s p F).2 ≤ F ∧ (bst s p F).1 = mlen s p (bst s p F).2)
  | 0 => .inl rfl
  | F + 1 => by
    unfold bst
    split
    · exact .inr ⟨by simp, by simp, rfl⟩
    · rcases bst_at F with h | ⟨h1, h2, h3⟩
      · exact .inl h
      · exact .inr ⟨h1, by omega, h3⟩
/-- Copies of less than three bytes count for none. -/
def thr (x : Nat × Nat) : Nat × Nat := if x.1 < 3 then (0, 0) else x
theorem thr_low {s : List UInt8} {p F : Nat} (h : mlen s p (F + 1) < 3) : thr (bst s p (F + 1)) = thr (bst s p F) := by
  conv => lhs; unfold bst
  split
  · rename_i hlt
    unfold thr
    rw [if_pos (by show mlen s p (F + 1) < 3; exact h), if_pos (by omega)]
  · rfl
theorem thr_high {s : List UInt8} {p F : Nat} (h : 3 ≤ mlen s p (F + 1)) : thr (bst s p (F + 1)) = if (thr (bst s p F)).1 < mlen s p (F + 1) then (mlen s p (F + 1), F + 1) else thr (bst s p F) := by
  conv => lhs; unfold bst
  by_cases hlt : (bst s p F).1 < mlen s p (F + 1)
  · rw [if_pos hlt]
    unfold thr
    rw [if_neg (by show ¬ mlen s p (F + 1) < 3; omega)]
    split
    · rw [if_pos (by show 0 < mlen s p (F + 1); omega)]
    · first | rw [if_pos hlt] | rfl
  · rw [if_neg hlt]
    unfold thr
    rw [if_neg (by omega), if_neg hlt]
/-- A copy of three bytes or more is where three bytes are alike. -/
theorem mlen3 {s : List UInt8} {p f : Nat} (h3 : p + 3 ≤ s.length) (hf : f ≤ p) : 3 ≤ mlen s p f ↔ ((s.drop (p - f)).take 3 = (s.drop p).take 3) := by
  have hm : 3 ≤ mostK s p := by unfold mostK; omega
  obtain ⟨_, c2, c3, c4⟩ := alikeK_spec s (p - f) p (mostK s p) 0
  have tk : ∀ q, q + 3 ≤ s.length → (s.drop q).take 3 = [s.getD q 0, s.getD (q + 1) 0, s.getD (q + 2) 0] := fun q hq => by
    have g : ∀ j, j < s.length → s.getD j 0 = s[j]! := fun j hj => by simp [List.getD_eq_getElem?_getD, hj]
    rw [List.drop_eq_getElem_cons (by omega), List.drop_eq_getElem_cons (by omega), List.drop_eq_getElem_cons (by omega)]
    simp only [List.getD_eq_getElem?_getD, List.getElem?_eq_getElem (show q < s.length by omega), List.getElem?_eq_getElem (show q + 1 < s.length by omega), List.getElem?_eq_getElem (show q + 2 < s.length by omega), Option.getD_some]
    rfl
  rw [tk p h3, tk (p - f) (by omega)]
  constructor
  · intro h
    have h : 3 ≤ alikeK s (p - f) p 0 (mostK s p) := h
    have e0 := c3 0 (by omega) (by omega)
    have e1 := c3 1 (by omega) (by omega)
    have e2 := c3 2 (by omega) (by omega)
    rw [Nat.add_zero, Nat.add_zero] at e0
    rw [e0, e1, e2]
  · intro h
    simp only [List.cons.injEq, and_true] at h
    obtain ⟨e0, e1, e2⟩ := h
    show 3 ≤ alikeK s (p - f) p 0 (mostK s p)
    rcases c4 with c4 | c4
    · omega
    · rcases Nat.lt_or_ge (alikeK s (p - f) p 0 (mostK s p)) 3 with h | h
      · have hh : alikeK s (p - f) p 0 (mostK s p) = 0 ∨ alikeK s (p - f) p 0 (mostK s p) = 1 ∨ alikeK s (p - f) p 0 (mostK s p) = 2 := by omega
        rcases hh with hh | hh | hh <;> rw [hh] at c4
        · exact absurd e0 c4
        · exact absurd e1 c4
        · exact absurd e2 c4
      · exact h
/-- The greedy parse, from a place on. -/
def partsF (s : List UInt8) : Nat → Nat → List Prt
  | 0, _ => []
  | k + 1, p => if s.length ≤ p then [] else if (bst s p (farK p)).1 < 3 then ⟨s.getD p 0, 0, 0⟩ :: partsF s k (p + 1)
    else ⟨0, (bst s p (farK p)).1, (bst s p (farK p)).2⟩ :: partsF s k (p + (bst s p (farK p)).1)
/-- What a copy within the string gives. -/
theorem copy_str {s : List UInt8} {p f : Nat} (hf1 : 1 ≤ f) (hf : f ≤ p) : ∀ n, n ≤ mlen s p f → p + n ≤ s.length → copy (s.take p) f n = s.take (p + n)
  | 0, _, _ => rfl
  | n + 1, h, hl => by
    show copy (s.take p) f n ++ [(copy (s.take p) f n).getD ((copy (s.take p) f n).length - f) 0] = _
    rw [copy_str hf1 hf n (by omega) (by omega)]
    have h1 : (s.take (p + n)).length = p + n := by rw [List.length_take]; omega
    rw [h1]
    have h2 : (s.take (p + n)).getD (p + n - f) 0 = s.getD (p + n - f) 0 := by
      rw [List.getD_eq_getElem?_getD, List.getElem?_take, if_pos (by omega), List.getD_eq_getElem?_getD]
    have h3 : s.getD (p + n - f) 0 = s.getD (p + n) 0 := by
      have := (alikeK_spec s (p - f) p (mostK s p) 0).2.2.1 n (by omega) (by unfold mlen at h; omega)
      rw [show p - f + n = p + n - f by omega] at this
      exact this
    rw [h2, h3, ← Nat.add_assoc, List.take_add_one, List.getElem?_eq_getElem (by omega), List.getD_eq_getElem?_getD, List.getElem?_eq_getElem (by omega)]
    rfl
/-- The parts fit, and give the string back. -/
theorem parts_fit (s : List UInt8) : ∀ (k p : Nat), s.length ≤ p + k → p ≤ s.length → Fit (partsF s k p) (s.take p) ∧ (partsF s k p).foldl addP (s.take p) = s
  | 0, p, h1, h2 => ⟨trivial, List.take_of_length_le (by omega)⟩
  | k + 1, p, h1, h2 => by
    unfold partsF
    by_cases c1 : s.length ≤ p
    · rw [if_pos c1]
      exact ⟨trivial, List.take_of_length_le c1⟩
    · rw [if_neg c1]
      by_cases c2 : (bst s p (farK p)).1 < 3
      · rw [if_pos c2]
        have e : addP (s.take p) ⟨s.getD p 0, 0, 0⟩ = s.take (p + 1) := by
          show s.take p ++ [s.getD p 0] = _
          rw [List.take_add_one, List.getElem?_eq_getElem (by omega), List.getD_eq_getElem?_getD, List.getElem?_eq_getElem (by omega)]
          rfl
        obtain ⟨a, b⟩ := parts_fit s k (p + 1) (by omega) (by omega)
        refine ⟨⟨.inl ⟨rfl, rfl⟩, Nat.zero_le _, by rw [e]; exact a⟩, ?_⟩
        rw [List.foldl_cons, e]
        exact b
      · rw [if_neg c2]
        obtain ⟨z1, z2, z3⟩ : 1 ≤ (bst s p (farK p)).2 ∧ (bst s p (farK p)).2 ≤ farK p ∧ (bst s p (farK p)).1 = mlen s p (bst s p (farK p)).2 := by
          rcases bst_at (s := s) (p := p) (farK p) with h | h
          · omega
          · exact h
        have z4 := bst_le s p (farK p)
        generalize bst s p (farK p) = x at c2 z1 z2 z3 z4
        unfold farK at z2
        unfold mostK at z4
        have e : addP (s.take p) ⟨0, x.1, x.2⟩ = s.take (p + x.1) := by
          unfold addP
          rw [if_neg (by show ¬ x.1 = 0; omega)]
          exact copy_str z1 (by omega) x.1 (by omega) (by omega)
        obtain ⟨a, b⟩ := parts_fit s k (p + x.1) (by omega) (by omega)
        refine ⟨⟨.inr ⟨rfl, by show 3 ≤ x.1; omega, by show x.1 ≤ 258; omega, z1, by show x.2 ≤ 32768; omega⟩, ?_, by rw [e]; exact a⟩, ?_⟩
        · show x.2 ≤ (s.take p).length
          rw [List.length_take]
          omega
        · rw [List.foldl_cons, e]
          exact b
/-- The greedy parse of a string. -/
def partsS (s : List UInt8) : List Prt := partsF s s.length 0
theorem partsS_fit (s : List UInt8) : Fit (partsS s) [] ∧ (partsS s).foldl addP [] = s := parts_fit s s.length 0 (by omega) (by omega)
/-- More rounds than bytes change nothing. -/
theorem partsF_more (s : List UInt8) : ∀ (k d p : Nat), s.length ≤ p + k → partsF s (k + d) p = partsF s k p
  | 0, 0, p, h => rfl
  | 0, d + 1, p, h => by
    show partsF s (0 + d + 1) p = []
    unfold partsF
    rw [if_pos (by omega)]
  | k + 1, d, p, h => by
    rw [show k + 1 + d = k + d + 1 by omega]
    unfold partsF
    split
    · rfl
    · rename_i c1
      split
      · rw [partsF_more s k d (p + 1) (by omega)]
      · rename_i c2
        rw [partsF_more s k d (p + (bst s p (farK p)).1) (by omega)]
theorem partsF_len (s : List UInt8) : ∀ (k p : Nat), (partsF s k p).length ≤ k
  | 0, p => Nat.le_refl _
  | k + 1, p => by
    unfold partsF
    split
    · simp
    · split
      · rw [List.length_cons]; exact Nat.succ_le_succ (partsF_len s k _)
      · rw [List.length_cons]; exact Nat.succ_le_succ (partsF_len s k _)
/-! ### Parts that may fit or not: what they give, or why not -/
theorem addP_len (out : List UInt8) (p : Prt) : (addP out p).length = out.length + max p.n 1 := by
  unfold addP
  split
  · rename_i h; rw [List.length_append]; simp; omega
  · rename_i h; rw [copy_len]; omega
end Inf
end Go.Proofs.YtjkoafjnmkchdaaGreatDoor

/- Deflate: run-length marks of code lengths, cut zeros, the head of a block with its own codes; what is written is read back. Plain laws; conditions: a code's lengths. -/
namespace Go.Proofs.YtjkoafjnmkchdaaGreatDoor
namespace Inf
open Sh Bit
set_option linter.unusedVariables false
set_option linter.unusedSimpArgs false
set_option maxRecDepth 4000
set_option maxHeartbeats 1000000
/-! ### Zeros at the end -/
def cutN (l : List Int) (keep : Nat) : Nat → Nat
  | 0 => 0
  | n + 1 => if keep < n + 1 ∧ l.getD n 0 = 0 then cutN l keep n else n + 1
theorem cutN_spec (l : List Int) (keep : Nat) : ∀ n, cutN l keep n ≤ n ∧ (keep ≤ n → keep ≤ cutN l keep n) ∧ ∀ j, cutN l keep n ≤ j → j < n → l.getD j 0 = 0
  | 0 => ⟨Nat.le_refl _, fun h => h, fun j h1 h2 => by omega⟩
  | n + 1 => by
    obtain ⟨a, b, c⟩ := cutN_spec l keep n
    unfold cutN
    by_cases h : keep < n + 1 ∧ l.getD n 0 = 0
    · rw [if_pos h]
      refine ⟨by omega, fun _ => b (by omega), fun j h1 h2 => ?_⟩
      by_cases hj : j = n
      · subst hj; exact h.2
      · exact c j h1 (by omega)
    · rw [if_neg h]
      exact ⟨Nat.le_refl _, fun h => h, fun j h1 h2 => by omega⟩
/-- From m on all is zero. -/
def Trail (l : List Int) (m : Nat) : Prop := ∀ j, m ≤ j → l.getD j 0 = 0
section
variable {l : List Int} {m : Nat}
theorem Trail.cut (l : List Int) (keep : Nat) : Trail l (cutN l keep l.length) := fun j hj => by
  by_cases h : j < l.length
  · exact (cutN_spec l keep l.length).2.2 j hj h
  · rw [List.getD_eq_getElem?_getD, List.getElem?_eq_none (by omega)]; rfl
theorem take_get {j : Nat} (h : j < m) : (l.take m).getD j 0 = l.getD j 0 := by
  rw [List.getD_eq_getElem?_getD, List.getElem?_take, if_pos h, List.getD_eq_getElem?_getD]
theorem Trail.take (h : Trail l m) (j : Nat) : (l.take m).getD j 0 = l.getD j 0 := by
  by_cases hj : j < m
  · exact take_get hj
  · rw [h j (by omega), List.getD_eq_getElem?_getD, List.getElem?_take, if_neg hj]
    rfl
theorem kr_take (h : Trail l m) : ∀ i, kr (l.take m) i = kr l i
  | 0 => rfl
  | i + 1 => by
    unfold kr
    rw [h.take, kr_take h i]
theorem longT_take (h : Trail l m) : ∀ i, longT (l.take m) i = longT l i
  | 0 => rfl
  | i + 1 => by
    unfold longT
    rw [h.take, longT_take h i]
theorem usedT_take (h : Trail l m) : ∀ i, usedT (l.take m) i = usedT l i
  | 0 => rfl
  | i + 1 => by
    unfold usedT
    rw [h.take, usedT_take h i]
theorem kr_more (h : Trail l m) : ∀ d, kr l (m + d) = kr l m
  | 0 => rfl
  | d + 1 => by
    show kr l (m + d + 1) = _
    unfold kr
    rw [h (m + d) (by omega), if_neg (by omega), kr_more h d]
    cases m <;> rfl
theorem longT_nn (l : List Int) : ∀ i, 0 ≤ longT l i
  | 0 => Int.le_refl _
  | i + 1 => by
    have := longT_nn l i
    unfold longT
    split
    · omega
    · exact this
theorem longT_more (h : Trail l m) : ∀ d, longT l (m + d) = longT l m
  | 0 => rfl
  | d + 1 => by
    have := longT_nn l (m + d)
    show longT l (m + d + 1) = _
    unfold longT
    rw [h (m + d) (by omega), if_neg (by omega), longT_more h d]
    cases m <;> rfl
theorem usedT_more (h : Trail l m) : ∀ d, usedT l (m + d) = usedT l m
  | 0 => rfl
  | d + 1 => by
    show usedT l (m + d + 1) = _
    unfold usedT
    rw [h (m + d) (by omega), if_neg (by omega), usedT_more h d]
    cases m <;> rfl
theorem idx_take (h : Trail l m) (n : Nat) : ∀ i, idxT (l.take m) n i = idxT l n i
  | 0 => rfl
  | i + 1 => by rw [idxT_succ, idxT_succ, h.take, idx_take h n i]
theorem idx_more (h : Trail l m) {n : Nat} (hn : 0 < n) : ∀ d, idxT l n (m + d) = idxT l n m
  | 0 => rfl
  | d + 1 => by rw [← Nat.add_assoc, idxT_succ, h (m + d) (by omega), if_neg (by omega), idx_more h hn d]
variable (h : Trail l m) (hm : m ≤ l.length)
include h hm
theorem idxs_take {n : Nat} (hn : 0 < n) : idxs (l.take m) n = idxs l n := by
  unfold idxs
  rw [idx_take h, List.length_take, Nat.min_eq_left hm, ← idx_more h hn (l.length - m), show m + (l.length - m) = l.length by omega]
theorem longest_take : longest (l.take m) = longest l := by
  unfold longest
  rw [longT_take h, List.length_take, Nat.min_eq_left hm, ← longT_more h (l.length - m), show m + (l.length - m) = l.length by omega]
theorem sgo_take (s : ByteArray) : ∀ (k n : Nat) (c f : Int) (p : Nat), 0 < n → sgo (l.take m) s k n c f p = sgo l s k n c f p
  | 0, n, c, f, p, _ => rfl
  | k + 1, n, c, f, p, hn => by
    have hc : cnt (l.take m) n = cnt l n := by
      show (idxs (l.take m) n).length = (idxs l n).length
      rw [idxs_take h hm hn]
    unfold sgo
    rw [hc, idxs_take h hm hn, sgo_take s k (n + 1) _ _ _ (by omega)]
theorem sym_take (s : ByteArray) (p : Nat) : sym (l.take m) s p = sym l s p := by
  unfold sym
  rw [longest_take h hm, sgo_take h hm s _ _ _ _ _ (by decide)]
theorem chk_take (hc : chk l = 0) : chk (l.take m) = 0 := by
  have hk := chk_lok hc
  have hr := chk_rest hk
  rw [hc] at hr
  have hk2 : Lok (l.take m) := ⟨by rw [List.length_take]; have := hk.len; omega, fun i => by rw [h.take]; exact hk.nn i⟩
  rw [chk_rest hk2, kr_take h, usedT_take h, longT_take h, List.length_take, Nat.min_eq_left hm]
  have e : m + (l.length - m) = l.length := by omega
  have e1 := kr_more h (l.length - m)
  have e2 := usedT_more h (l.length - m)
  have e3 := longT_more h (l.length - m)
  rw [e] at e1 e2 e3
  rw [← e1, ← e2, ← e3]
  split at hr
  · rename_i hh; rw [if_pos hh]
  · cases hr
end
theorem copied_congr {s : ByteArray} {far far' : List Int} (hf : ∀ p, sym far' s p = sym far s p) (most sg : Nat) (out : List UInt8) (p : Nat) : copied s far' most sg out p = copied s far most sg out p := by
  unfold copied
  split
  · rfl
  · cases num s p (moreL (sg - 257)) with
    | error e => rfl
    | ok z => dsimp only; rw [hf]
theorem signs_congr {s : ByteArray} {near near' far far' : List Int} (hn : ∀ p, sym near' s p = sym near s p) (hf : ∀ p, sym far' s p = sym far s p) (most : Nat) : ∀ (k : Nat) (out : List UInt8) (p : Nat), signsF s near' far' most k out p = signsF s near far most k out p
  | 0, _, _ => rfl
  | k + 1, out, p => by
    unfold signsF
    rw [hn]
    cases sym near s p with
    | error e => rfl
    | ok z =>
      obtain ⟨sg, p1⟩ := z
      dsimp only
      rw [copied_congr hf, signs_congr hn hf most k (out ++ [UInt8.ofNat sg]) p1]
      split
      · rfl
      · split
        · cases copied s far most sg out p1 with
          | error e => rfl
          | ok z => exact signs_congr hn hf most k _ _
        · rfl
/-! ### Marks: runs of lengths -/
/-- A mark: its sign, its extra bits, how many. -/
abbrev Mk : Type := Nat × Nat × Nat
/-- How many times the length at place i is repeated, itself included. -/
def runK (l : List Int) (i : Nat) (n : Nat) : Nat → Nat
  | 0 => n
  | k + 1 => if l.getD (i + n) 0 = l.getD i 0 then runK l i (n + 1) k else n
theorem runK_spec (l : List Int) (i : Nat) : ∀ (k n : Nat), n ≤ runK l i n k ∧ runK l i n k ≤ n + k ∧ ∀ j, n ≤ j → j < runK l i n k → l.getD (i + j) 0 = l.getD i 0
  | 0, n => ⟨Nat.le_refl _, Nat.le_refl _, fun j h1 h2 => by have : j < n := h2; omega⟩
  | k + 1, n => by
    unfold runK
    by_cases h : l.getD (i + n) 0 = l.getD i 0
    · rw [if_pos h]
      obtain ⟨a, b, c⟩ := runK_spec l i k (n + 1)
      refine ⟨by omega, by omega, fun j h1 h2 => ?_⟩
      by_cases hj : j = n
      · subst hj; exact h
      · exact c j (by omega) h2
    · rw [if_neg h]
      exact ⟨Nat.le_refl _, by omega, fun j h1 h2 => by omega⟩
/-- The marks at a place, and how many lengths they stand for. -/
def markAt (l : List Int) (i : Nat) : List Mk × Nat :=
  let n := runK l i 1 (l.length - (i + 1))
  if l.getD i 0 = 0 ∧ 11 ≤ n then ([(18, min n 138 - 11, 7)], min n 138)
  else if l.getD i 0 = 0 ∧ 3 ≤ n then ([(17, n - 3, 3)], n)
  else if 4 ≤ n then ([((l.getD i 0).toNat, 0, 0), (16, min n 7 - 4, 2)], min n 7)
  else ([((l.getD i 0).toNat, 0, 0)], 1)
def marksF (l : List Int) : Nat → Nat → List Mk
  | 0, _ => []
  | k + 1, i => if l.length ≤ i then [] else (markAt l i).1 ++ marksF l k (i + (markAt l i).2)
def addM (acc : List Int) (m : Mk) : List Int := if m.1 < 16 then acc ++ [(m.1 : Int)] else acc ++ List.replicate (repL m.1 + m.2.1) (if m.1 = 16 then acc.getD (acc.length - 1) 0 else 0)
def Mk.ok (m : Mk) : Prop := m.1 < 19 ∧ m.2.1 < 2 ^ m.2.2 ∧ m.2.2 = (if m.1 < 16 then 0 else repB m.1)
/-- Marks that do not go beyond, and do not repeat what is not there. -/
def FitM (many : Nat) : List Mk → List Int → Prop
  | [], acc => acc.length = many
  | m :: r, acc => m.ok ∧ (m.1 = 16 → acc ≠ []) ∧ (addM acc m).length ≤ many ∧ FitM many r (addM acc m)
theorem addM_len (acc : List Int) (m : Mk) : acc.length < (addM acc m).length := by
  unfold addM
  split
  · rw [List.length_append]; simp
  · rw [List.length_append, List.length_replicate]
    unfold repL
    split <;> omega
theorem take_rep {l : List Int} {i n : Nat} {x : Int} (hl : i + n ≤ l.length) (h : ∀ j, j < n → l.getD (i + j) 0 = x) : l.take i ++ List.replicate n x = l.take (i + n) := by
  apply List.ext_getElem?
  intro j
  by_cases h1 : j < i
  · rw [List.getElem?_append_left (by rw [List.length_take]; omega), List.getElem?_take, if_pos h1, List.getElem?_take, if_pos (by omega)]
  · rw [List.getElem?_append_right (by rw [List.length_take]; omega), List.length_take, Nat.min_eq_left (by omega), List.getElem?_replicate, List.getElem?_take]
    by_cases h2 : j < i + n
    · rw [if_pos (by omega), if_pos h2]
      have := h (j - i) (by omega)
      rw [show i + (j - i) = j by omega, List.getD_eq_getElem?_getD, List.getElem?_eq_getElem (by omega)] at this
      rw [List.getElem?_eq_getElem (by omega), ← this]
      rfl
    · rw [if_neg (by omega), if_neg h2]
theorem take_one {l : List Int} {i : Nat} (hl : i < l.length) : l.take i ++ [l.getD i 0] = l.take (i + 1) := by
  rw [List.take_add_one, List.getElem?_eq_getElem hl, List.getD_eq_getElem?_getD, List.getElem?_eq_getElem hl]
  rfl
theorem marks_fit {l : List Int} (hl : ∀ i, 0 ≤ l.getD i 0 ∧ l.getD i 0 ≤ 15) : ∀ (k i : Nat), l.length ≤ i + k → i ≤ l.length → FitM l.length (marksF l k i) (l.take i) ∧ (marksF l k i).foldl addM (l.take i) = l
  | 0, i, h1, h2 => ⟨by show (l.take i).length = _; rw [List.length_take]; omega, List.take_of_length_le (by omega)⟩
  | k + 1, i, h1, h2 => by
    unfold marksF
    by_cases c1 : l.length ≤ i
    · rw [if_pos c1]
      exact ⟨by show (l.take i).length = _; rw [List.length_take]; omega, List.take_of_length_le c1⟩
    rw [if_neg c1]
    obtain ⟨r1, r2, r3⟩ := runK_spec l i (l.length - (i + 1)) 1
    have hx := hl i
    have tl : ∀ n, i + n ≤ l.length → (l.take (i + n)).length = i + n := fun n hn => by rw [List.length_take]; omega
    unfold markAt
    generalize runK l i 1 (l.length - (i + 1)) = n at r1 r2 r3
    have all : ∀ j, j < n → l.getD (i + j) 0 = l.getD i 0 := fun j hj => by
      cases j with
      | zero => rfl
      | succ j => exact r3 (j + 1) (by omega) hj
    have step1 : addM (l.take i) ((l.getD i 0).toNat, 0, 0) = l.take (i + 1) := by
      unfold addM
      rw [if_pos (by show (l.getD i 0).toNat < 16; omega), Int.toNat_of_nonneg hx.1]
      exact take_one (by omega)
    dsimp only
    by_cases d1 : l.getD i 0 = 0 ∧ 11 ≤ n
    · rw [if_pos d1]
      have e : addM (l.take i) (18, min n 138 - 11, 7) = l.take (i + min n 138) := by
        unfold addM
        dsimp only
        rw [if_neg (by decide)]
        have : repL 18 + (min n 138 - 11) = min n 138 := by show 11 + _ = _; omega
        rw [this, if_neg (by decide)]
        exact take_rep (by omega) fun j hj => (all j (by omega)).trans d1.1
      obtain ⟨a, b⟩ := marks_fit hl k (i + min n 138) (by omega) (by omega)
      rw [List.cons_append, List.nil_append, List.foldl_cons, e]
      refine ⟨⟨⟨by show 18 < 19; decide, by show min n 138 - 11 < 128; omega, rfl⟩, fun h => absurd (show 18 = 16 from h) (by decide), by rw [e, tl _ (by omega)]; omega, by rw [e]; exact a⟩, b⟩
    rw [if_neg d1]
    by_cases d2 : l.getD i 0 = 0 ∧ 3 ≤ n
    · rw [if_pos d2]
      have e : addM (l.take i) (17, n - 3, 3) = l.take (i + n) := by
        unfold addM
        dsimp only
        rw [if_neg (by decide)]
        have : repL 17 + (n - 3) = n := by show 3 + _ = _; omega
        rw [this, if_neg (by decide)]
        exact take_rep (by omega) fun j hj => (all j hj).trans d2.1
      obtain ⟨a, b⟩ := marks_fit hl k (i + n) (by omega) (by omega)
      rw [List.cons_append, List.nil_append, List.foldl_cons, e]
      refine ⟨⟨⟨by show 17 < 19; decide, by show n - 3 < 8; omega, rfl⟩, fun h => absurd (show 17 = 16 from h) (by decide), by rw [e, tl _ (by omega)]; omega, by rw [e]; exact a⟩, b⟩
    rw [if_neg d2]
    have ok1 : Mk.ok ((l.getD i 0).toNat, 0, 0) := ⟨by show (l.getD i 0).toNat < 19; omega, by show 0 < 1; decide, by show 0 = if (l.getD i 0).toNat < 16 then 0 else _; rw [if_pos (by omega)]⟩
    have no16 : (l.getD i 0).toNat = 16 → (l.take i) ≠ [] := fun h => by omega
    by_cases d3 : 4 ≤ n
    · rw [if_pos d3]
      have e : addM (l.take (i + 1)) (16, min n 7 - 4, 2) = l.take (i + min n 7) := by
        unfold addM
        dsimp only
        rw [if_neg (by decide)]
        have h3 : repL 16 + (min n 7 - 4) = min n 7 - 1 := by show 3 + _ = _; omega
        have h4 : (l.take (i + 1)).getD ((l.take (i + 1)).length - 1) 0 = l.getD i 0 := by
          rw [tl 1 (by omega), Nat.add_sub_cancel]
          exact take_get (by omega)
        rw [h3, if_pos rfl, h4, take_rep (by omega) fun j hj => by rw [show i + 1 + j = i + (j + 1) by omega]; exact all (j + 1) (by omega)]
        congr 1
        omega
      obtain ⟨a, b⟩ := marks_fit hl k (i + min n 7) (by omega) (by omega)
      rw [List.cons_append, List.cons_append, List.nil_append]
      refine ⟨⟨ok1, no16, by rw [step1, tl 1 (by omega)]; omega, ?_⟩, ?_⟩
      · rw [step1]
        refine ⟨⟨by show 16 < 19; decide, by show min n 7 - 4 < 4; omega, rfl⟩, fun _ hh => ?_, by rw [e, tl _ (by omega)]; omega, by rw [e]; exact a⟩
        have := tl 1 (by omega)
        rw [hh] at this
        simp at this
      · rw [List.foldl_cons, List.foldl_cons, step1, e]
        exact b
    · rw [if_neg d3]
      obtain ⟨a, b⟩ := marks_fit hl k (i + 1) (by omega) (by omega)
      rw [List.cons_append, List.nil_append]
      refine ⟨⟨ok1, no16, by rw [step1, tl 1 (by omega)]; omega, by rw [step1]; exact a⟩, ?_⟩
      rw [List.foldl_cons, step1]
      exact b
def marksS (l : List Int) : List Mk := marksF l l.length 0
theorem marksS_fit {l : List Int} (hl : ∀ i, 0 ≤ l.getD i 0 ∧ l.getD i 0 ≤ 15) : FitM l.length (marksS l) [] ∧ (marksS l).foldl addM [] = l := marks_fit hl l.length 0 (by omega) (by omega)
/-- What is written of a mark. -/
def wM (lens : List Int) (st : WS) (m : Mk) : WS := lw (cw lens st m.1) m.2.1 m.2.2
/-- Marks written: what is read of them. -/
structure EncM (H : List UInt8 → Prop) (lens : List Int) (many p0 : Nat) (st : WS) (acc : List Int) : Prop where
  ok : WOK 1 st
  ge : p0 ≤ pos st
  dec : ∀ T : List UInt8, Agree 1 (pos st) st.1 T → pos st ≤ 8 * T.length → H T ∧ ∃ i, i ≤ pos st ∧ i ≤ acc.length ∧ ∀ k, lensF lens ⟨T.toArray⟩ many (k + i) [] p0 = lensF lens ⟨T.toArray⟩ many k acc (pos st)
theorem EncM.mark {H : List UInt8 → Prop} {lens : List Int} {many p0 : Nat} {st : WS} {acc : List Int} (h : EncM H lens many p0 st acc) (hc : chk lens = 0) {m : Mk} (hm : m.ok) (h16 : m.1 = 16 → acc ≠ []) (hl : (addM acc m).length ≤ many) (hg : m.1 < lens.length) (hg0 : 0 < lens.getD m.1 0) :
    EncM H lens many p0 (wM lens st m) (addM acc m) := by
  have hadd := addM_len acc m
  have ok1 := cw_ok (lens := lens) h.ok m.1
  obtain ⟨k1, k2, k3⟩ := hm
  have hpos : pos st ≤ pos (wM lens st m) := by
    unfold wM cw
    rw [lw_pos (hw_ok h.ok _ _ _), hw_pos h.ok]
    omega
  refine ⟨lw_ok ok1 _ _, Nat.le_trans h.ge hpos, fun T ha hT => ?_⟩
  unfold wM at ha hT ⊢
  obtain ⟨x1, x2⟩ := lw_back ok1 k2 ha
  rw [lw_pos ok1] at hT ⊢
  obtain ⟨n, n1, a1, a2, a3⟩ := symW hc h.ok hg hg0 x1
  rw [a1] at hT x2 ⊢
  obtain ⟨c1, i, c2, c3, c4⟩ := h.dec T a2 (by omega)
  refine ⟨c1, i + 1, by omega, by omega, fun k => ?_⟩
  have := c4 (k + 1)
  rw [show k + 1 + i = k + (i + 1) by omega] at this
  rw [this]
  conv => lhs; unfold lensF
  rw [if_neg (by omega), a3 (by omega)]
  dsimp only
  unfold addM at hl ⊢
  by_cases hs : m.1 < 16
  · rw [if_pos hs] at k3 hl ⊢
    rw [if_pos hs, k3, Nat.add_zero]
  · rw [if_neg hs] at k3 hl ⊢
    rw [if_neg hs, if_neg (fun hh => h16 hh.1 (List.eq_nil_of_length_eq_zero hh.2)), ← k3, x2 (by omega)]
    dsimp only
    rw [Int.toNat_natCast]
    rw [List.length_append, List.length_replicate] at hl
    rw [if_neg (by omega)]
theorem EncM.all {H : List UInt8 → Prop} {lens : List Int} {many p0 : Nat} (hc : chk lens = 0) : ∀ (M : List Mk) {st : WS} {acc : List Int}, EncM H lens many p0 st acc → FitM many M acc → (∀ m ∈ M, m.1 < lens.length ∧ 0 < lens.getD m.1 0) →
    EncM H lens many p0 (M.foldl (wM lens) st) (M.foldl addM acc) ∧ (M.foldl addM acc).length = many
  | [], st, acc, h, hf, _ => ⟨h, hf⟩
  | m :: M, st, acc, h, ⟨f1, f2, f3, f4⟩, hm => by
    have := hm m (List.mem_cons_self ..)
    exact EncM.all hc M (h.mark hc f1 f2 f3 this.1 this.2) f4 fun x hx => hm x (List.mem_cons_of_mem _ hx)
/-! ### The lengths of the code of lengths -/
theorem order_al : ∀ i, i < 19 → i ∈ order := by decide
theorem order_u : ∀ o ∈ order, o < 19 := by decide
def putO (lens : List Int) (l : List Int) (o : Nat) : List Int := l.set o (lens.getD o 0)
theorem putO_get (lens : List Int) : ∀ (os : List Nat) (l : List Int) (i : Nat), (∀ o ∈ os, o < l.length) → (os.foldl (putO lens) l).length = l.length ∧ (os.foldl (putO lens) l).getD i 0 = if i ∈ os then lens.getD i 0 else l.getD i 0
  | [], l, i, _ => ⟨rfl, rfl⟩
  | o :: os, l, i, h => by
    have hl : (putO lens l o).length = l.length := by unfold putO; rw [List.length_set]
    obtain ⟨a, b⟩ := putO_get lens os (putO lens l o) i (fun x hx => by rw [hl]; exact h x (List.mem_cons_of_mem _ hx))
    refine ⟨by rw [List.foldl_cons, a, hl], ?_⟩
    rw [List.foldl_cons, b]
    by_cases h1 : i ∈ os
    · rw [if_pos h1, if_pos (List.mem_cons_of_mem _ h1)]
    · rw [if_neg h1]
      have ho := h o (List.mem_cons_self ..)
      unfold putO
      by_cases h2 : i = o
      · subst h2
        rw [if_pos (List.mem_cons_self ..), List.getD_eq_getElem?_getD, List.getElem?_set_self ho]
        rfl
      · rw [if_neg (fun hh => (List.mem_cons.1 hh).elim h2 h1), List.getD_eq_getElem?_getD, List.getElem?_set_ne (fun e => h2 e.symm), List.getD_eq_getElem?_getD]
/-- The lengths in the order of writing. -/
def inOrd (lens : List Int) : List Int := order.map fun o => lens.getD o 0
theorem ord_back {lens : List Int} {n : Nat} (hl : lens.length = 19) (hn : Trail (inOrd lens) n) : (order.take n).foldl (putO lens) (List.replicate 19 0) = lens := by
  have hlt : ∀ o ∈ order.take n, o < (List.replicate 19 (0 : Int)).length := fun o ho => by rw [List.length_replicate]; exact order_u o (List.mem_of_mem_take ho)
  have hlen := (putO_get lens (order.take n) (List.replicate 19 0) 0 hlt).1
  rw [List.length_replicate] at hlen
  apply List.ext_getElem
  · rw [hlen, hl]
  · intro i h1 h2
    have hg := (putO_get lens (order.take n) (List.replicate 19 0) i hlt).2
    have e1 : ((order.take n).foldl (putO lens) (List.replicate 19 0)).getD i 0 = ((order.take n).foldl (putO lens) (List.replicate 19 0))[i] := by rw [List.getD_eq_getElem?_getD, List.getElem?_eq_getElem h1]; rfl
    have e2 : lens.getD i 0 = lens[i] := by rw [List.getD_eq_getElem?_getD, List.getElem?_eq_getElem h2]; rfl
    rw [← e1, ← e2, hg]
    split
    · rfl
    · rename_i hno
      obtain ⟨j, hj⟩ := List.getElem?_of_mem (order_al i (by omega))
      have hjn : n ≤ j := by
        rcases Nat.lt_or_ge j n with h | h
        · exact absurd (List.mem_of_getElem? (by rw [List.getElem?_take, if_pos h]; exact hj)) hno
        · exact h
      have hz := hn j hjn
      unfold inOrd at hz
      rw [List.getD_eq_getElem?_getD, List.getElem?_map, hj] at hz
      have hz : lens.getD i 0 = 0 := hz
      rw [hz, List.getD_eq_getElem?_getD, List.getElem?_replicate]
      split <;> rfl
/-- What is written of them. -/
def wO (lens : List Int) (st : WS) (o : Nat) : WS := lw st (lens.getD o 0).toNat 3
theorem wO_back {lens : List Int} (h7 : ∀ i, 0 ≤ lens.getD i 0 ∧ lens.getD i 0 ≤ 7) : ∀ (os : List Nat) {st : WS} {T : List UInt8} {l : List Int}, WOK 1 st → WOK 1 (os.foldl (wO lens) st) ∧ pos (os.foldl (wO lens) st) = pos st + 3 * os.length ∧
    (Agree 1 (pos (os.foldl (wO lens) st)) (os.foldl (wO lens) st).1 T → Agree 1 (pos st) st.1 T ∧ (pos st + 3 * os.length ≤ 8 * T.length → lens19 ⟨T.toArray⟩ os l (pos st) = .ok (os.foldl (putO lens) l, pos st + 3 * os.length)))
  | [], st, T, l, h => ⟨h, rfl, fun ha => ⟨ha, fun _ => rfl⟩⟩
  | o :: os, st, T, l, h => by
    have h1 : WOK 1 (wO lens st o) := lw_ok h _ _
    obtain ⟨a, b, c⟩ := wO_back h7 os (T := T) (l := putO lens l o) h1
    have hp : pos (wO lens st o) = pos st + 3 := lw_pos h _ _
    rw [List.foldl_cons, List.foldl_cons]
    refine ⟨a, by rw [b, hp, List.length_cons]; omega, fun ha => ?_⟩
    obtain ⟨d, e⟩ := c ha
    have hv : (lens.getD o 0).toNat < 2 ^ 3 := by have := h7 o; omega
    obtain ⟨f, g⟩ := lw_back h hv d
    refine ⟨f, fun hT => ?_⟩
    rw [List.length_cons] at hT ⊢
    unfold lens19
    rw [g (by omega)]
    dsimp only
    have hset : l.set o ((lens.getD o 0).toNat : Int) = putO lens l o := by unfold putO; rw [Int.toNat_of_nonneg (h7 o).1]
    rw [hset]
    have := e (by rw [hp]; omega)
    rw [hp] at this
    rw [this]
    congr 2
    omega
end Inf
end Go.Proofs.YtjkoafjnmkchdaaGreatDoor

/- Package-merge: rows of trees, what is taken of them is a code's lengths; plain laws, no program in sight. No condition. -/
namespace Go.Proofs.YtjkoafjnmkchdaaGreatDoor
namespace Pm
set_option linter.unusedVariables false
set_option linter.unusedSimpArgs false
/-- A coin, as a tree. -/
inductive Tr where
  | leaf (sign : Nat) (wt : Int)
  | node (a b : Tr)
instance : Inhabited Tr := ⟨.leaf 0 0⟩
def Tr.w : Tr → Int
  | .leaf _ w => w
  | .node a b => a.w + b.w
def Tr.cnt (i : Nat) : Tr → Nat
  | .leaf s _ => if s = i then 1 else 0
  | .node a b => a.cnt i + b.cnt i
def Tr.sgn : Tr → Nat
  | .leaf s _ => s
  | .node _ _ => 0
/-- Two by two. -/
def prs : List Tr → List Tr
  | a :: b :: r => .node a b :: prs r
  | _ => []
abbrev Up (l : List Tr) : Prop := l.Pairwise fun a b => a.w ≤ b.w
def le (a b : Tr) : Bool := decide (a.w ≤ b.w)
def mg (l m : List Tr) : List Tr := List.merge l m le
def cs (i : Nat) : List Tr → Nat
  | [] => 0
  | t :: r => t.cnt i + cs i r
def ws : List Tr → Int
  | [] => 0
  | t :: r => t.w + ws r
theorem cs_app (i : Nat) : ∀ l m, cs i (l ++ m) = cs i l + cs i m
  | [], m => by simp [cs]
  | t :: r, m => by
    have := cs_app i r m
    simp only [List.cons_append, cs]
    omega
theorem ws_app : ∀ l m, ws (l ++ m) = ws l + ws m
  | [], m => by simp [ws]
  | t :: r, m => by
    have := ws_app r m
    simp only [List.cons_append, ws]
    omega
theorem cs_perm {i : Nat} {l m : List Tr} (h : l.Perm m) : cs i l = cs i m := by
  induction h with
  | nil => rfl
  | cons x _ ih => simp only [cs]; omega
  | swap x y l => simp only [cs]; omega
  | trans _ _ h1 h2 => omega
theorem ws_perm {l m : List Tr} (h : l.Perm m) : ws l = ws m := by
  induction h with
  | nil => rfl
  | cons x _ ih => simp only [ws]; omega
  | swap x y l => simp only [ws]; omega
  | trans _ _ h1 h2 => omega
theorem mg_nil_left (l : List Tr) : mg [] l = l := by unfold mg; simp [List.merge]
theorem mg_nil_right (l : List Tr) : mg l [] = l := by unfold mg; cases l <;> simp [List.merge]
theorem mg_pos {a b : Tr} {l m : List Tr} (h : a.w ≤ b.w) : mg (a :: l) (b :: m) = a :: mg l (b :: m) := by
  unfold mg
  exact List.cons_merge_cons_pos _ _ _ (by simpa [le] using h)
theorem mg_neg {a b : Tr} {l m : List Tr} (h : ¬ a.w ≤ b.w) : mg (a :: l) (b :: m) = b :: mg (a :: l) m := by
  unfold mg
  exact List.cons_merge_cons_neg _ _ _ (by simpa [le] using h)
theorem mg_perm (l m : List Tr) : (mg l m).Perm (l ++ m) := List.merge_perm_append _
theorem mg_up {l m : List Tr} (h : Up l) (k : Up m) : Up (mg l m) := by
  have := List.pairwise_merge (le := le) (fun a b c h1 h2 => by simp only [le, decide_eq_true_eq] at *; omega) (fun a b => by simp only [le, Bool.or_eq_true, decide_eq_true_eq]; omega) l m
    (h.imp fun h => by simpa [le] using h) (k.imp fun h => by simpa [le] using h)
  exact this.imp fun h => by simpa [le] using h
theorem mg_len (l m : List Tr) : (mg l m).length = l.length + m.length := by rw [(mg_perm l m).length_eq, List.length_append]
/-- What is first of a merged row is first of both. -/
theorem mg_cut : ∀ (n : Nat) (l m : List Tr), n ≤ l.length + m.length → ∃ A K, A + K = n ∧ A ≤ l.length ∧ K ≤ m.length ∧ ((mg l m).take n).Perm (l.take A ++ m.take K) ∧ ((mg l m).drop n).Perm (l.drop A ++ m.drop K)
  | 0, l, m, _ => ⟨0, 0, rfl, Nat.zero_le _, Nat.zero_le _, by simp, by simpa using mg_perm l m⟩
  | n + 1, [], m, h => ⟨0, n + 1, by omega, Nat.le_refl _, by simpa using h, by rw [mg_nil_left]; simp, by rw [mg_nil_left]; simp⟩
  | n + 1, a :: l, [], h => ⟨n + 1, 0, by omega, by simpa using h, Nat.le_refl _, by rw [mg_nil_right]; simp, by rw [mg_nil_right]; simp⟩
  | n + 1, a :: l, b :: m, h => by
    simp only [List.length_cons] at h
    by_cases hab : a.w ≤ b.w
    · obtain ⟨A, K, h1, h2, h3, h4, h5⟩ := mg_cut n l (b :: m) (by simp only [List.length_cons]; omega)
      rw [mg_pos hab]
      exact ⟨A + 1, K, by omega, by simp only [List.length_cons]; omega, h3, by simpa using h4, by simpa using h5⟩
    · obtain ⟨A, K, h1, h2, h3, h4, h5⟩ := mg_cut n (a :: l) m (by simp only [List.length_cons]; omega)
      rw [mg_neg hab]
      refine ⟨A, K + 1, by omega, h2, by simp only [List.length_cons]; omega, ?_, by simpa using h5⟩
      simp only [List.take_succ_cons]
      exact (List.Perm.cons b h4).trans List.perm_middle.symm
theorem prs_len : ∀ l : List Tr, (prs l).length = l.length / 2
  | [] => rfl
  | [_] => by simp [prs]
  | a :: b :: r => by
    have := prs_len r
    simp only [prs, List.length_cons, this]
    omega
theorem prs_take : ∀ (K : Nat) (l : List Tr), prs (l.take (2 * K)) = (prs l).take K
  | 0, l => by simp [prs]
  | K + 1, [] => by simp [prs]
  | K + 1, [a] => by
    rw [show 2 * (K + 1) = 2 * K + 1 + 1 by omega]
    simp [prs]
  | K + 1, a :: b :: r => by
    rw [show 2 * (K + 1) = 2 * K + 1 + 1 by omega]
    simp only [List.take_succ_cons, prs]
    rw [prs_take K r]
theorem prs_get : ∀ (K : Nat) (l : List Tr) (p : Tr), (prs l)[K]? = some p → ∃ x y, l[2 * K]? = some x ∧ l[2 * K + 1]? = some y ∧ p = .node x y
  | K, [], p, h => by simp [prs] at h
  | K, [a], p, h => by simp [prs] at h
  | 0, a :: b :: r, p, h => ⟨a, b, rfl, rfl, by simpa [prs] using h.symm⟩
  | K + 1, a :: b :: r, p, h => by
    obtain ⟨x, y, h1, h2, h3⟩ := prs_get K r p (by simpa [prs] using h)
    refine ⟨x, y, ?_, ?_, h3⟩
    · rw [show 2 * (K + 1) = 2 * K + 1 + 1 by omega]
      simpa using h1
    · rw [show 2 * (K + 1) + 1 = 2 * K + 1 + 1 + 1 by omega]
      simpa using h2
theorem prs_cs (i : Nat) : ∀ l : List Tr, l.length % 2 = 0 → cs i (prs l) = cs i l
  | [], _ => rfl
  | [_], h => by simp at h
  | a :: b :: r, h => by
    have := prs_cs i r (by simp only [List.length_cons] at h; omega)
    simp only [prs, cs, Tr.cnt]
    omega
theorem prs_ws : ∀ l : List Tr, (∀ t ∈ l, 0 ≤ t.w) → ws (prs l) ≤ ws l
  | [], _ => Int.le_refl _
  | [a], h => by
    have := h a (by simp)
    simp only [prs, ws]
    omega
  | a :: b :: r, h => by
    have := prs_ws r fun t ht => h t (by simp [ht])
    simp only [prs, ws, Tr.w]
    omega
theorem prs_mem : ∀ (l : List Tr) (t : Tr), t ∈ prs l → ∃ a ∈ l, ∃ b ∈ l, t = .node a b
  | [], t, h => by simp [prs] at h
  | [_], t, h => by simp [prs] at h
  | a :: b :: r, t, h => by
    simp only [prs, List.mem_cons] at h
    rcases h with rfl | h
    · exact ⟨a, by simp, b, by simp, rfl⟩
    · obtain ⟨x, hx, y, hy, e⟩ := prs_mem r t h
      exact ⟨x, by simp [hx], y, by simp [hy], e⟩
theorem prs_up : ∀ l : List Tr, Up l → Up (prs l)
  | [], _ => List.Pairwise.nil
  | [_], _ => List.Pairwise.nil
  | a :: b :: r, h => by
    obtain ⟨h1, h2⟩ := List.pairwise_cons.1 h
    obtain ⟨h3, h4⟩ := List.pairwise_cons.1 h2
    refine List.pairwise_cons.2 ⟨fun t ht => ?_, prs_up r h4⟩
    obtain ⟨x, hx, y, hy, rfl⟩ := prs_mem r t ht
    have := h1 x (by simp [hx])
    have := h3 y hy
    simp only [Tr.w]
    omega
/-- The rows, from the bottom. -/
def rows (S : List Tr) : Nat → List Tr
  | 0 => S
  | k + 1 => mg S (prs (rows S k))
theorem rows_len (S : List Tr) (k : Nat) : (rows S (k + 1)).length = S.length + (rows S k).length / 2 := by
  show (mg S (prs (rows S k))).length = _
  rw [mg_len, prs_len]
theorem rows_up {S : List Tr} (h : Up S) : ∀ k, Up (rows S k)
  | 0 => h
  | k + 1 => mg_up h (prs_up _ (rows_up h k))
/-- A row is long enough. -/
theorem rows_long {S : List Tr} : ∀ (k m : Nat), S.length ≤ 2 ^ m → k ≤ m → 2 * S.length ≤ (rows S k).length + 2 ^ (m - k)
  | 0, m, h, _ => by show 2 * S.length ≤ S.length + 2 ^ (m - 0); rw [Nat.sub_zero]; omega
  | k + 1, m, h, hk => by
    have ih := rows_long k m h (by omega)
    have e : 2 ^ (m - k) = 2 * 2 ^ (m - (k + 1)) := by
      rw [show m - k = (m - (k + 1)) + 1 by omega, Nat.pow_succ]
      omega
    rw [rows_len]
    omega
/-- The leaves: sorted, each sign once, each weight positive. -/
structure Lv (S : List Tr) : Prop where
  leaf : ∀ t ∈ S, ∃ s w, t = .leaf s w ∧ 0 < w
  up : Up S
  one : (S.map Tr.sgn).Nodup
theorem rows_pos {S : List Tr} (h : Lv S) : ∀ k, ∀ t ∈ rows S k, 0 < t.w
  | 0, t, ht => by
    obtain ⟨s, w, rfl, h0⟩ := h.leaf t ht
    exact h0
  | k + 1, t, ht => by
    rcases List.mem_append.1 ((mg_perm _ _).mem_iff.1 ht) with h1 | h1
    · obtain ⟨s, w, rfl, h0⟩ := h.leaf t h1
      exact h0
    · obtain ⟨a, ha, b, hb, rfl⟩ := prs_mem _ _ h1
      have := rows_pos h k a ha
      have := rows_pos h k b hb
      simp only [Tr.w]
      omega
theorem rows_ws {S : List Tr} (h : Lv S) : ∀ k, ws (rows S k) ≤ (k + 1 : Nat) * ws S
  | 0 => by show ws S ≤ _; simp
  | k + 1 => by
    have ih := rows_ws h k
    show ws (mg S (prs (rows S k))) ≤ _
    rw [ws_perm (mg_perm _ _), ws_app]
    have := prs_ws (rows S k) fun t ht => Int.le_of_lt (rows_pos h k t ht)
    have e : ((k + 1 + 1 : Nat) : Int) * ws S = ((k + 1 : Nat) : Int) * ws S + ws S := by
      rw [Int.natCast_add (k + 1) 1, Int.add_mul]
      simp
    omega
theorem ws_mem : ∀ {l : List Tr}, (∀ t ∈ l, 0 ≤ t.w) → ∀ t ∈ l, t.w ≤ ws l
  | [], _, t, h => by cases h
  | a :: r, h, t, ht => by
    have h0 : 0 ≤ ws r := by
      clear ht
      have : ∀ r : List Tr, (∀ t ∈ r, 0 ≤ t.w) → 0 ≤ ws r := fun r => by
        induction r with
        | nil => intro _; exact Int.le_refl _
        | cons x r ih =>
          intro h
          have := ih fun t ht => h t (by simp [ht])
          have := h x (by simp)
          simp only [ws]
          omega
      exact this r fun t ht => h t (by simp [ht])
    have ha := h a (by simp)
    simp only [ws]
    rcases List.mem_cons.1 ht with rfl | ht
    · omega
    · have := ws_mem (fun t ht => h t (by simp [ht])) t ht
      omega
def sumR (f : Nat → Nat) : Nat → Nat
  | 0 => 0
  | n + 1 => sumR f n + f n
theorem sumR_base (m : Nat) : ∀ n, m ≤ n → sumR (fun r => 2 ^ (15 - if r < m then 1 else 0)) n + m * 16384 = n * 32768
  | 0, h => by
    have : m = 0 := by omega
    subst this
    rfl
  | n + 1, h => by
    simp only [sumR]
    by_cases hm : m = n + 1
    · have : ∀ k, k ≤ n + 1 → sumR (fun r => 2 ^ (15 - if r < m then 1 else 0)) k = k * 16384 := fun k => by
        induction k with
        | zero => intro _; simp [sumR]
        | succ k ih =>
          intro hk
          simp only [sumR]
          rw [ih (by omega), if_pos (by omega)]
          omega
      rw [this n (by omega), if_pos (by omega)]
      omega
    · have := sumR_base m n (by omega)
      rw [if_neg (by omega)]
      omega
theorem sumR_lin {f g : Nat → Nat} {A : Nat} : ∀ n, A ≤ n → (∀ r, r < n → 2 * f r = g r + if r < A then 0 else 32768) → 2 * sumR f n + A * 32768 = sumR g n + n * 32768
  | 0, h, _ => by
    have : A = 0 := by omega
    subst this
    rfl
  | n + 1, h, hf => by
    have hn := hf n (by omega)
    by_cases hA : A = n + 1
    · have : ∀ k, k ≤ n + 1 → 2 * sumR f k = sumR g k := fun k => by
        induction k with
        | zero => intro _; rfl
        | succ k ih =>
          intro hk
          have h1 := hf k (by omega)
          rw [if_pos (by omega)] at h1
          have := ih (by omega)
          simp only [sumR]
          omega
      have := this (n + 1) (by omega)
      omega
    · have ih := sumR_lin n (by omega) fun r hr => hf r (by omega)
      rw [if_neg (by omega)] at hn
      simp only [sumR]
      omega
theorem sumR_pos {f : Nat → Nat} : ∀ {n r : Nat}, (∀ r, r < n → 1 ≤ f r) → r < n → f r + (n - 1) ≤ sumR f n
  | 0, r, _, h => by omega
  | n + 1, r, hf, h => by
    have h2 : n ≤ sumR f n := by
      clear h
      induction n with
      | zero => exact Nat.zero_le _
      | succ n ih =>
        have := ih fun r hr => hf r (by omega)
        have := hf n (by omega)
        simp only [sumR]
        omega
    simp only [sumR]
    by_cases e : r = n
    · subst e; omega
    · have := sumR_pos (n := n) (r := r) (fun r hr => hf r (by omega)) (by omega)
      have := hf n (by omega)
      omega
/-- The sign at a rank. -/
def sg (S : List Tr) (r : Nat) : Nat := (S.getD r default).sgn
theorem Lv.at {S : List Tr} (h : Lv S) {r : Nat} (hr : r < S.length) : ∃ w, S[r] = .leaf (sg S r) w ∧ 0 < w := by
  obtain ⟨s, w, e, h0⟩ := h.leaf S[r] (List.getElem_mem hr)
  refine ⟨w, ?_, h0⟩
  unfold sg
  rw [List.getD_eq_getElem?_getD, List.getElem?_eq_getElem hr]
  simp only [Option.getD_some]
  rw [e]
  rfl
theorem Lv.inj {S : List Tr} (h : Lv S) {r q : Nat} (hr : r < S.length) (hq : q < S.length) (e : sg S r = sg S q) : r = q := by
  have h1 : (S.map Tr.sgn)[r]'(by simpa using hr) = sg S r := by
    unfold sg
    rw [List.getD_eq_getElem?_getD, List.getElem?_eq_getElem hr]
    simp
  have h2 : (S.map Tr.sgn)[q]'(by simpa using hq) = sg S q := by
    unfold sg
    rw [List.getD_eq_getElem?_getD, List.getElem?_eq_getElem hq]
    simp
  exact (List.getElem_inj h.one).1 (h1.trans (e.trans h2.symm))
theorem Lv.cs_take {S : List Tr} (h : Lv S) (i : Nat) : ∀ A, A ≤ S.length → (∀ r, r < S.length → sg S r = i → cs i (S.take A) = if r < A then 1 else 0) ∧ ((∀ r, r < S.length → sg S r ≠ i) → cs i (S.take A) = 0)
  | 0, _ => ⟨fun r _ _ => by simp [cs], fun _ => by simp [cs]⟩
  | A + 1, hA => by
    obtain ⟨h1, h2⟩ := h.cs_take i A (by omega)
    obtain ⟨w, e, _⟩ := h.at (r := A) (by omega)
    have ht : S.take (A + 1) = S.take A ++ [S[A]] := by rw [List.take_add_one, List.getElem?_eq_getElem (by omega)]; rfl
    have hc : cs i (S.take (A + 1)) = cs i (S.take A) + if sg S A = i then 1 else 0 := by
      rw [ht, cs_app, e]
      simp [cs, Tr.cnt]
    refine ⟨fun r hr hs => ?_, fun hn => ?_⟩
    · rw [hc, h1 r hr hs]
      by_cases e2 : r = A
      · subst e2
        rw [if_pos hs, if_neg (by omega), if_pos (by omega)]
      · rw [if_neg (c := sg S A = i) (fun hh => e2 (h.inj hr (by omega) (hs.trans hh.symm)))]
        split <;> split <;> omega
    · rw [hc, h2 hn, if_neg (hn A (by omega))]
theorem up_cut {l : List Tr} (h : Up l) {m : Nat} {x y : Tr} (hx : x ∈ l.take m) (hy : y ∈ l.drop m) : x.w ≤ y.w := by
  have := h
  rw [← List.take_append_drop m l] at this
  exact (List.pairwise_append.1 this).2.2 x hx y hy
/-- What is first of a row, as lengths. -/
theorem kraft {S : List Tr} (h : Lv S) : ∀ k, k ≤ 14 → ∀ m, m ≤ (rows S k).length → ∃ (A : Nat) (D : Nat → Nat), A ≤ S.length ∧ (m = 0 → A = 0) ∧ (∀ r, r < S.length → D r ≤ k + 1 ∧ (0 < D r ↔ r < A)) ∧
    (∀ t ∈ S.take A, t ∈ (rows S k).take m) ∧ (∀ r, r < S.length → cs (sg S r) ((rows S k).take m) = D r) ∧ (∀ i, (∀ r, r < S.length → sg S r ≠ i) → cs i ((rows S k).take m) = 0) ∧
    sumR (fun r => 2 ^ (15 - D r)) S.length + m * 16384 = S.length * 32768
  | 0, _, m, hm => by
    have hm : m ≤ S.length := hm
    refine ⟨m, fun r => if r < m then 1 else 0, hm, fun h => h, fun r _ => ?_, fun t h => h, fun r hr => (h.cs_take _ m hm).1 r hr rfl, fun i hi => (h.cs_take i m hm).2 hi, sumR_base m _ hm⟩
    dsimp only
    split <;> omega
  | k + 1, hk, m, hm => by
    have hup := rows_up h.up k
    have hlen : (prs (rows S k)).length = (rows S k).length / 2 := prs_len _
    obtain ⟨A, K, hAK, hA, hK, ht, hd⟩ := mg_cut m S (prs (rows S k)) (by rw [← mg_len]; exact hm)
    obtain ⟨A', D', b1, b2, b3, b4, b5, b6, b7⟩ := kraft h k (by omega) (2 * K) (by omega)
    have hle : A' ≤ A := by
      rcases Nat.lt_or_ge A A' with hlt | hge
      · exfalso
        have hK0 : K ≠ 0 := fun e => by have := b2 (by omega); omega
        obtain ⟨p, hp⟩ : ∃ p, (prs (rows S k))[K - 1]? = some p := ⟨_, List.getElem?_eq_getElem (by omega)⟩
        obtain ⟨x, y, hx, hy, rfl⟩ := prs_get _ _ _ hp
        have hAS : A < S.length := by omega
        have m1 : S[A] ∈ (rows S k).take (2 * K) := b4 _ (by
          rw [List.mem_take_iff_getElem]
          exact ⟨A, by omega, rfl⟩)
        have l1 : (S[A]).w ≤ y.w := by
          obtain ⟨i, hi⟩ := List.mem_iff_getElem?.1 m1
          rw [List.getElem?_take] at hi
          split at hi
          · rename_i hi2
            by_cases e : i = 2 * (K - 1) + 1
            · subst e
              rw [hy] at hi
              cases hi
              exact Int.le_refl _
            · obtain ⟨li, e1⟩ := List.getElem?_eq_some_iff.1 hi
              obtain ⟨ly, e2⟩ := List.getElem?_eq_some_iff.1 hy
              have := List.pairwise_iff_getElem.1 hup i (2 * (K - 1) + 1) li ly (by omega)
              rw [e1, e2] at this
              exact this
          · cases hi
        have l2 : (Tr.node x y).w ≤ (S[A]).w := by
          refine up_cut (mg_up h.up (prs_up _ hup)) (m := m) (ht.mem_iff.2 (List.mem_append_right _ ?_)) (hd.mem_iff.2 (List.mem_append_left _ ?_))
          · obtain ⟨lp, ep⟩ := List.getElem?_eq_some_iff.1 hp
            rw [List.mem_take_iff_getElem]
            exact ⟨K - 1, by omega, ep⟩
          · rw [List.mem_drop_iff_getElem]
            exact ⟨0, by omega, by simp⟩
        have l3 := rows_pos h k x (List.mem_of_getElem? hx)
        simp only [Tr.w] at l2
        omega
      · exact hge
    have hcs : ∀ i, cs i ((rows S (k + 1)).take m) = cs i (S.take A) + cs i ((rows S k).take (2 * K)) := fun i => by
      show cs i ((mg S (prs (rows S k))).take m) = _
      rw [cs_perm ht, cs_app, ← prs_take, prs_cs i _ (by rw [List.length_take]; omega)]
    refine ⟨A, fun r => (if r < A then 1 else 0) + D' r, hA, fun e => by omega, fun r hr => ?_, fun t htt => ht.mem_iff.2 (List.mem_append_left _ htt), fun r hr => ?_, fun i hi => ?_, ?_⟩
    · obtain ⟨c1, c2⟩ := b3 r hr
      dsimp only
      split <;> omega
    · rw [hcs, (h.cs_take _ A hA).1 r hr rfl, b5 r hr]
    · rw [hcs, (h.cs_take i A hA).2 hi, b6 i hi]
    · have := sumR_lin (f := fun r => 2 ^ (15 - ((if r < A then 1 else 0) + D' r))) (g := fun r => 2 ^ (15 - D' r)) (A := A) S.length hA fun r hr => by
        obtain ⟨c1, c2⟩ := b3 r hr
        split
        · rw [show 15 - D' r = (15 - (1 + D' r)) + 1 by omega, Nat.pow_succ]
          omega
        · have : D' r = 0 := by omega
          rw [this]
      show sumR (fun r => 2 ^ (15 - ((if r < A then 1 else 0) + D' r))) S.length + m * 16384 = _
      omega
/-- The lengths of a whole code. -/
theorem lengths {S : List Tr} (h : Lv S) {k : Nat} (hk : k ≤ 14) (h2 : 2 ≤ S.length) (hm : 2 * S.length - 2 ≤ (rows S k).length) : ∃ D : Nat → Nat, (∀ r, r < S.length → 1 ≤ D r ∧ D r ≤ k + 1) ∧ (∀ r, r < S.length → cs (sg S r) ((rows S k).take (2 * S.length - 2)) = D r) ∧
    (∀ i, (∀ r, r < S.length → sg S r ≠ i) → cs i ((rows S k).take (2 * S.length - 2)) = 0) ∧ sumR (fun r => 2 ^ (15 - D r)) S.length = 32768 := by
  obtain ⟨A, D, b1, b2, b3, b4, b5, b6, b7⟩ := kraft h k hk _ hm
  have e : sumR (fun r => 2 ^ (15 - D r)) S.length = 32768 := by omega
  refine ⟨D, fun r hr => ⟨?_, (b3 r hr).1⟩, b5, b6, e⟩
  rcases Nat.eq_zero_or_pos (D r) with h0 | h0
  · exfalso
    have := sumR_pos (f := fun r => 2 ^ (15 - D r)) (n := S.length) (r := r) (fun r _ => Nat.pow_pos (by decide)) hr
    rw [h0] at this
    omega
  · exact h0
end Pm
end Go.Proofs.YtjkoafjnmkchdaaGreatDoor

/- Package-merge: lengths, costs and the least cost, said plainly; no program in sight. No condition. -/
namespace Go.Proofs.YtjkoafjnmkchdaaGreatDoor
namespace Pm
open Inf
set_option linter.unusedVariables false
set_option linter.unusedSimpArgs false
/-- The leaves, in the order of their signs. -/
def lv (c : List Int) : Nat → List Tr
  | 0 => []
  | i + 1 => if 0 < c.getD i 0 then lv c i ++ [.leaf i (c.getD i 0)] else lv c i
theorem lv_mem {c : List Int} : ∀ {i : Nat} {t : Tr}, t ∈ lv c i ↔ ∃ s, s < i ∧ t = .leaf s (c.getD s 0) ∧ 0 < c.getD s 0
  | 0, t => ⟨fun h => by simp [lv] at h, fun ⟨s, h, _⟩ => by omega⟩
  | i + 1, t => by
    have ih := lv_mem (c := c) (i := i) (t := t)
    unfold lv
    split
    · rename_i hp
      rw [List.mem_append, ih, List.mem_singleton]
      constructor
      · rintro (⟨s, h1, h2⟩ | rfl)
        · exact ⟨s, by omega, h2⟩
        · exact ⟨i, by omega, rfl, hp⟩
      · rintro ⟨s, h1, h2, h3⟩
        by_cases e : s = i
        · subst e; exact .inr h2
        · exact .inl ⟨s, by omega, h2, h3⟩
    · rename_i hp
      rw [ih]
      constructor
      · rintro ⟨s, h1, h2⟩
        exact ⟨s, by omega, h2⟩
      · rintro ⟨s, h1, h2, h3⟩
        by_cases e : s = i
        · subst e; omega
        · exact ⟨s, by omega, h2, h3⟩
theorem lv_one (c : List Int) : ∀ i, ((lv c i).map Tr.sgn).Nodup
  | 0 => List.nodup_nil
  | i + 1 => by
    unfold lv
    split
    · rw [List.map_append]
      refine List.nodup_append.2 ⟨lv_one c i, by simp, fun a ha b hb e => ?_⟩
      obtain ⟨t, ht, rfl⟩ := List.mem_map.1 ha
      obtain ⟨s, hs, rfl, _⟩ := lv_mem.1 ht
      simp only [List.map_cons, List.map_nil, List.mem_singleton, Tr.sgn] at hb e
      omega
    · exact lv_one c i
theorem lv_len (c : List Int) : ∀ i, (lv c i).length ≤ i
  | 0 => Nat.le_refl _
  | i + 1 => by
    have := lv_len c i
    unfold lv
    split
    · rw [List.length_append]; simp; omega
    · omega
/-- Sorted leaves of a row of counts. -/
structure Sd (c : List Int) (S : List Tr) : Prop where
  perm : S.Perm (lv c c.length)
  up : Up S
theorem Sd.lv {c : List Int} {S : List Tr} (h : Sd c S) : Lv S :=
  ⟨fun t ht => by
    obtain ⟨s, _, e, h0⟩ := lv_mem.1 (h.perm.mem_iff.1 ht)
    exact ⟨s, _, e, h0⟩, h.up, (h.perm.map Tr.sgn).nodup_iff.2 (lv_one c _)⟩
theorem Sd.sign {c : List Int} {S : List Tr} (h : Sd c S) {r : Nat} (hr : r < S.length) : sg S r < c.length ∧ 0 < c.getD (sg S r) 0 ∧ S[r] = .leaf (sg S r) (c.getD (sg S r) 0) := by
  obtain ⟨s, h1, h2, h3⟩ := lv_mem.1 (h.perm.mem_iff.1 (List.getElem_mem hr))
  have e : sg S r = s := by
    unfold sg
    rw [List.getD_eq_getElem?_getD, List.getElem?_eq_getElem hr, Option.getD_some, h2]
    rfl
  rw [e]
  exact ⟨h1, h3, h2⟩
theorem Sd.rank {c : List Int} {S : List Tr} (h : Sd c S) {i : Nat} (hi : i < c.length) (h0 : 0 < c.getD i 0) : ∃ r, r < S.length ∧ sg S r = i := by
  have hm : Tr.leaf i (c.getD i 0) ∈ S := h.perm.mem_iff.2 (lv_mem.2 ⟨i, hi, rfl, h0⟩)
  obtain ⟨r, hr, e⟩ := List.mem_iff_getElem.1 hm
  refine ⟨r, hr, ?_⟩
  unfold sg
  rw [List.getD_eq_getElem?_getD, List.getElem?_eq_getElem hr, Option.getD_some, e]
  rfl
/-! ### Sums, in two orders -/
def gsum (g : Nat → Nat) : List Tr → Nat
  | [] => 0
  | t :: r => g t.sgn + gsum g r
theorem gsum_app (g : Nat → Nat) : ∀ l m, gsum g (l ++ m) = gsum g l + gsum g m
  | [], m => by simp [gsum]
  | t :: r, m => by
    have := gsum_app g r m
    simp only [List.cons_append, gsum]
    omega
theorem gsum_perm {g : Nat → Nat} {l m : List Tr} (h : l.Perm m) : gsum g l = gsum g m := by
  induction h with
  | nil => rfl
  | cons x _ ih => simp only [gsum]; omega
  | swap x y l => simp only [gsum]; omega
  | trans _ _ h1 h2 => omega
theorem gsum_sumR (g : Nat → Nat) (S : List Tr) : ∀ n, n ≤ S.length → gsum g (S.take n) = sumR (fun r => g (sg S r)) n
  | 0, _ => by simp [gsum, sumR]
  | n + 1, h => by
    have ih := gsum_sumR g S n (by omega)
    have ht : S.take (n + 1) = S.take n ++ [S[n]] := by rw [List.take_add_one, List.getElem?_eq_getElem (by omega)]; rfl
    have e : sg S n = (S[n]).sgn := by
      unfold sg
      rw [List.getD_eq_getElem?_getD, List.getElem?_eq_getElem (by omega), Option.getD_some]
    rw [ht, gsum_app, ih]
    simp only [sumR, gsum, e]
    omega
/-- The lengths that trees give. -/
def lensOf (T : List Tr) (n : Nat) : List Int := (List.range n).map fun i => (cs i T : Int)
theorem lensOf_len (T : List Tr) (n : Nat) : (lensOf T n).length = n := by unfold lensOf; simp
theorem lensOf_get {T : List Tr} {n i : Nat} (h : i < n) : (lensOf T n).getD i 0 = (cs i T : Int) := by
  unfold lensOf
  rw [List.getD_eq_getElem?_getD, List.getElem?_map, List.getElem?_range h]
  rfl
theorem kr_lens {c : List Int} {T : List Tr} {n : Nat} (hz : ∀ i, i < n → (0 < cs i T ↔ 0 < c.getD i 0)) : ∀ i, i ≤ n → kr (lensOf T n) i = (gsum (fun s => 2 ^ (15 - cs s T)) (lv c i) : Nat)
  | 0, _ => rfl
  | i + 1, h => by
    have ih := kr_lens hz i (by omega)
    have hi := hz i (by omega)
    show (if 0 < (lensOf T n).getD i 0 then kr (lensOf T n) i + 2 ^ (15 - ((lensOf T n).getD i 0).toNat) else kr (lensOf T n) i) = _
    rw [lensOf_get (by omega)]
    unfold lv
    by_cases h0 : 0 < c.getD i 0
    · have := hi.2 h0
      rw [if_pos (by omega), if_pos h0, gsum_app, ih]
      simp [gsum, Tr.sgn]
    · have : ¬ 0 < cs i T := fun hh => h0 (hi.1 hh)
      rw [if_neg (by omega), if_neg h0, ih]
theorem chk_of {l : List Int} (hl : l.length ≤ 288) (hb : ∀ i, i < l.length → 0 ≤ l.getD i 0 ∧ l.getD i 0 ≤ 15) (h : kr l l.length = 32768 ∨ kr l l.length = 0 ∨ (usedT l l.length = 1 ∧ longT l l.length = 1)) : chk l = 0 := by
  unfold chk
  rw [if_neg (by omega), if_neg, if_pos h]
  intro ha
  obtain ⟨x, hx, hh⟩ := List.any_eq_true.1 ha
  obtain ⟨i, hi, rfl⟩ := List.mem_iff_getElem.1 hx
  have := hb i hi
  rw [List.getD_eq_getElem?_getD, List.getElem?_eq_getElem hi, Option.getD_some] at this
  simp only [Bool.or_eq_true, decide_eq_true_eq] at hh
  omega
/-! ### Costs -/
def costF (l c : List Int) : Nat → Int
  | 0 => 0
  | i + 1 => if 0 ≤ l.getD i 0 ∧ l.getD i 0 ≤ 15 ∧ 0 ≤ c.getD i 0 ∧ c.getD i 0 ≤ 2147483647 then costF l c i + l.getD i 0 * c.getD i 0 else costF l c i
def sumI (f : Nat → Int) : Nat → Int
  | 0 => 0
  | n + 1 => sumI f n + f n
theorem sumI_add (f g : Nat → Int) : ∀ n, sumI (fun i => f i + g i) n = sumI f n + sumI g n
  | 0 => rfl
  | n + 1 => by
    have := sumI_add f g n
    simp only [sumI]
    omega
theorem sumI_congr {f g : Nat → Int} : ∀ n, (∀ i, i < n → f i = g i) → sumI f n = sumI g n
  | 0, _ => rfl
  | n + 1, h => by
    have := sumI_congr n fun i hi => h i (by omega)
    have := h n (by omega)
    simp only [sumI]
    omega
theorem sumI_one (s : Nat) (x : Nat → Int) : ∀ n, sumI (fun i => ((if s = i then 1 else 0 : Nat) : Int) * x i) n = if s < n then x s else 0
  | 0 => rfl
  | n + 1 => by
    have := sumI_one s x n
    simp only [sumI]
    rw [this]
    by_cases e : s = n
    · subst e
      rw [if_neg (by omega), if_pos rfl, if_pos (by omega)]
      simp
    · rw [if_neg e]
      split <;> split <;> first | omega | simp
def Tr.ok (c : List Int) : Tr → Prop
  | .leaf s w => s < c.length ∧ w = c.getD s 0
  | .node a b => a.ok c ∧ b.ok c
theorem Tr.cost {c : List Int} : ∀ {t : Tr}, t.ok c → t.w = sumI (fun i => (t.cnt i : Int) * c.getD i 0) c.length
  | .leaf s w, ⟨h1, h2⟩ => by
    simp only [Tr.w, Tr.cnt]
    rw [sumI_one s (fun i => c.getD i 0), if_pos h1, h2]
  | .node a b, ⟨h1, h2⟩ => by
    have e1 := Tr.cost h1
    have e2 := Tr.cost h2
    simp only [Tr.w, Tr.cnt]
    rw [e1, e2, ← sumI_add]
    refine sumI_congr _ fun i _ => ?_
    rw [Int.natCast_add, Int.add_mul]
theorem ws_cost {c : List Int} : ∀ {T : List Tr}, (∀ t ∈ T, t.ok c) → ws T = sumI (fun i => (cs i T : Int) * c.getD i 0) c.length
  | [], _ => by
    have : ∀ n, sumI (fun i => (cs i [] : Int) * c.getD i 0) n = 0 := fun n => by
      induction n with
      | zero => rfl
      | succ n ih =>
        show sumI (fun i => (cs i [] : Int) * c.getD i 0) n + _ = 0
        rw [ih]
        simp [cs]
    rw [this]
    rfl
  | t :: r, h => by
    simp only [ws, cs]
    rw [Tr.cost (h t (by simp)), ws_cost fun t ht => h t (by simp [ht]), ← sumI_add]
    refine sumI_congr _ fun i _ => ?_
    rw [Int.natCast_add, Int.add_mul]
theorem cost_lens {c : List Int} {T : List Tr} (hc : ∀ i, i < c.length → 0 ≤ c.getD i 0 ∧ c.getD i 0 ≤ 2147483647) (hT : ∀ i, i < c.length → cs i T ≤ 15) : ∀ i, i ≤ c.length → costF (lensOf T c.length) c i = sumI (fun i => (cs i T : Int) * c.getD i 0) i
  | 0, _ => rfl
  | i + 1, h => by
    have ih := cost_lens hc hT i (by omega)
    have h1 := hc i (by omega)
    have h2 := hT i (by omega)
    simp only [costF, sumI]
    rw [lensOf_get (by omega), if_pos (by omega), ih]
theorem rows_ok {c : List Int} {S : List Tr} (h : Sd c S) : ∀ k, ∀ t ∈ rows S k, t.ok c
  | 0, t, ht => by
    obtain ⟨s, h1, rfl, _⟩ := lv_mem.1 (h.perm.mem_iff.1 ht)
    exact ⟨h1, rfl⟩
  | k + 1, t, ht => by
    rcases List.mem_append.1 ((mg_perm _ _).mem_iff.1 ht) with h1 | h1
    · obtain ⟨s, h2, rfl, _⟩ := lv_mem.1 (h.perm.mem_iff.1 h1)
      exact ⟨h2, rfl⟩
    · obtain ⟨a, ha, b, hb, rfl⟩ := prs_mem _ _ h1
      exact ⟨rows_ok h k a ha, rows_ok h k b hb⟩
/-! ### Numbers alone -/
abbrev UpI (l : List Int) : Prop := l.Pairwise fun a b => a ≤ b
def leI (a b : Int) : Bool := decide (a ≤ b)
def prI : List Int → List Int
  | a :: b :: r => (a + b) :: prI r
  | _ => []
def rI (s : List Int) : Nat → List Int
  | 0 => s
  | k + 1 => List.merge s (prI (rI s k)) leI
def isum : List Int → Int
  | [] => 0
  | x :: r => x + isum r
theorem prI_map : ∀ l : List Tr, (prs l).map Tr.w = prI (l.map Tr.w)
  | [] => rfl
  | [_] => rfl
  | a :: b :: r => by
    have := prI_map r
    simp only [prs, List.map_cons, prI, this]
    rfl
theorem rI_map (S : List Tr) : ∀ k, (rows S k).map Tr.w = rI (S.map Tr.w) k
  | 0 => rfl
  | k + 1 => by
    show (mg S (prs (rows S k))).map Tr.w = List.merge (S.map Tr.w) (prI (rI (S.map Tr.w) k)) leI
    rw [← rI_map S k, ← prI_map]
    unfold mg
    exact List.map_merge fun a _ b _ => rfl
theorem ws_map : ∀ l : List Tr, ws l = isum (l.map Tr.w)
  | [] => rfl
  | t :: r => by
    have := ws_map r
    simp only [ws, List.map_cons, isum, this]
theorem upI_unique {l m : List Int} (h : UpI l) (k : UpI m) (p : l.Perm m) : l = m := by
  refine p.eq_of_pairwise (le := fun a b => a ≤ b) (fun a b _ _ h k => by omega) h k
/-- The counts that are, sorted. -/
def srt (c : List Int) : List Int := (c.filter fun x => decide (0 < x)).mergeSort leI
theorem srt_up (c : List Int) : UpI (srt c) := by
  have := List.pairwise_mergeSort (le := leI) (fun a b c h1 h2 => by simp only [leI, decide_eq_true_eq] at *; omega) (fun a b => by simp only [leI, Bool.or_eq_true, decide_eq_true_eq]; omega) (c.filter fun x => decide (0 < x))
  exact this.imp fun h => by simpa [leI] using h
theorem lv_map (c : List Int) : ∀ i, i ≤ c.length → (lv c i).map Tr.w = (c.take i).filter fun x => decide (0 < x)
  | 0, _ => rfl
  | i + 1, h => by
    have ih := lv_map c i (by omega)
    have ht : c.take (i + 1) = c.take i ++ [c[i]] := by rw [List.take_add_one, List.getElem?_eq_getElem (by omega)]; rfl
    have e : c.getD i 0 = c[i] := by rw [List.getD_eq_getElem?_getD, List.getElem?_eq_getElem (by omega)]; rfl
    rw [ht, List.filter_append, ← ih, lv, e]
    split
    · rename_i h0
      rw [List.map_append]
      simp [h0, Tr.w]
    · rename_i h0
      simp [h0]
theorem srt_eq {c s : List Int} (hs : UpI s) (hp : s.Perm (c.filter fun x => decide (0 < x))) : s = srt c :=
  upI_unique hs (srt_up c) (hp.trans (List.mergeSort_perm _ _).symm)
theorem Sd.map {c : List Int} {S : List Tr} (h : Sd c S) : S.map Tr.w = srt c := by
  refine srt_eq (List.pairwise_map.2 h.up) ?_
  have := h.perm.map Tr.w
  rw [lv_map c _ (Nat.le_refl _), List.take_length] at this
  exact this
theorem Sd.len {c : List Int} {S : List Tr} (h : Sd c S) : S.length = (srt c).length := by rw [← h.map, List.length_map]
/-- The least cost. -/
def least (c : List Int) (most : Nat) : Int := if (srt c).length < 2 then (srt c).getD 0 0 else isum ((rI (srt c) (most - 1)).take (2 * (srt c).length - 2))
/-- Why counts have no lengths. -/
def why (c : List Int) (most : Int) : Int := if 288 < c.length then 6 else if most < 1 ∨ 15 < most then 1 else if c.any (fun x => decide (x < 0) || decide (2147483647 < x)) = true then 1
  else if 2 ^ most.toNat < (srt c).length then 13 else 0
/-- What Lengths answers. -/
structure LR (c : List Int) (mo : Nat) (l : List Int) : Prop where
  len : l.length = c.length
  chk : chk l = 0
  most : ∀ i, i < c.length → 0 ≤ l.getD i 0 ∧ l.getD i 0 ≤ (mo : Int) ∧ (l.getD i 0 = 0 ↔ c.getD i 0 = 0)
  cost : costF l c c.length = least c mo
/-- Two leaves or more. -/
theorem LR.many {c : List Int} {S : List Tr} {most : Nat} (h : Sd c S) (h288 : c.length ≤ 288) (hc : ∀ i, i < c.length → 0 ≤ c.getD i 0 ∧ c.getD i 0 ≤ 2147483647) (h1 : 1 ≤ most) (h15 : most ≤ 15) (h2 : 2 ≤ S.length) (hm : S.length ≤ 2 ^ most) :
    2 * S.length - 2 ≤ (rows S (most - 1)).length ∧ LR c most (lensOf ((rows S (most - 1)).take (2 * S.length - 2)) c.length) := by
  have hlong := rows_long (S := S) (most - 1) most hm (by omega)
  rw [show most - (most - 1) = 1 by omega] at hlong
  have hl : 2 * S.length - 2 ≤ (rows S (most - 1)).length := by omega
  obtain ⟨D, d1, d2, d3, d4⟩ := lengths h.lv (k := most - 1) (by omega) h2 hl
  generalize hT : (rows S (most - 1)).take (2 * S.length - 2) = T at d2 d3 ⊢
  have key : ∀ i, i < c.length → cs i T ≤ most ∧ (0 < cs i T ↔ 0 < c.getD i 0) := fun i hi => by
    by_cases h0 : 0 < c.getD i 0
    · obtain ⟨r, hr, rfl⟩ := h.rank hi h0
      have := d1 r hr
      rw [d2 r hr]
      exact ⟨by omega, fun _ => h0, fun _ => this.1⟩
    · have : cs i T = 0 := d3 i fun r hr e => h0 (by rw [← e]; exact (h.sign hr).2.1)
      rw [this]
      exact ⟨Nat.zero_le _, fun hh => by omega, fun hh => absurd hh h0⟩
  refine ⟨hl, lensOf_len _ _, chk_of (by rw [lensOf_len]; exact h288) (fun i hi => ?_) (.inl ?_), fun i hi => ?_, ?_⟩
  · rw [lensOf_len] at hi
    rw [lensOf_get hi]
    have := (key i hi).1
    omega
  · rw [lensOf_len, kr_lens (c := c) (fun i hi => (key i hi).2) _ (Nat.le_refl _), ← gsum_perm h.perm]
    have e := gsum_sumR (fun s => 2 ^ (15 - cs s T)) S S.length (Nat.le_refl _)
    rw [List.take_length] at e
    rw [e]
    have e2 : ∀ n, n ≤ S.length → sumR (fun r => 2 ^ (15 - cs (sg S r) T)) n = sumR (fun r => 2 ^ (15 - D r)) n := fun n => by
      induction n with
      | zero => intro _; rfl
      | succ n ih =>
        intro hn
        simp only [sumR]
        rw [ih (by omega), d2 n (by omega)]
    rw [e2 _ (Nat.le_refl _), d4]
    rfl
  · rw [lensOf_get hi]
    have := key i hi
    have := hc i hi
    omega
  · rw [cost_lens hc (fun i hi => by have := (key i hi).1; omega) _ (Nat.le_refl _), ← ws_cost (T := T) (fun t ht => rows_ok h (most - 1) t (by rw [← hT] at ht; exact List.mem_of_mem_take ht)), ws_map, ← hT, List.map_take, rI_map, h.map]
    unfold least
    rw [if_neg (by rw [← h.len]; omega), h.len]
theorem cs_le {S : List Tr} (h : Lv S) {k m : Nat} (hk : k ≤ 14) (hm : m ≤ (rows S k).length) (i : Nat) : cs i ((rows S k).take m) ≤ 15 := by
  obtain ⟨A, D, b1, b2, b3, b4, b5, b6, b7⟩ := kraft h k hk m hm
  by_cases e : ∃ r, r < S.length ∧ sg S r = i
  · obtain ⟨r, hr, rfl⟩ := e
    rw [b5 r hr]
    have := (b3 r hr).1
    omega
  · rw [b6 i fun r hr hh => e ⟨r, hr, hh⟩]
    exact Nat.zero_le _
theorem rows_short (S : List Tr) : ∀ k, (rows S k).length ≤ 2 * S.length
  | 0 => by show S.length ≤ _; omega
  | k + 1 => by
    have := rows_short S k
    rw [rows_len]
    omega
theorem ws_le {B : Int} : ∀ {l : List Tr}, (∀ t ∈ l, t.w ≤ B) → ws l ≤ (l.length : Int) * B
  | [], _ => by simp [ws]
  | t :: r, h => by
    have h1 := h t (by simp)
    have h2 := ws_le fun t ht => h t (List.mem_cons_of_mem _ ht)
    simp only [ws, List.length_cons]
    rw [Int.natCast_add, Int.add_mul]
    omega
theorem ws_nn : ∀ {l : List Tr}, (∀ t ∈ l, 0 ≤ t.w) → 0 ≤ ws l
  | [], _ => Int.le_refl _
  | t :: r, h => by
    have h1 := h t (by simp)
    have h2 := ws_nn fun t ht => h t (List.mem_cons_of_mem _ ht)
    simp only [ws]
    omega
/-- No weight is great. -/
theorem rows_w {c : List Int} {S : List Tr} (h : Sd c S) (h288 : c.length ≤ 288) (hc : ∀ i, i < c.length → 0 ≤ c.getD i 0 ∧ c.getD i 0 ≤ 2147483647) {k : Nat} (hk : k ≤ 14) : ∀ t ∈ rows S k, 0 ≤ t.w ∧ t.w ≤ 1000000000000000 := fun t ht => by
  have h0 := rows_pos h.lv k
  have h1 := ws_mem (fun t ht => Int.le_of_lt (h0 t ht)) t ht
  have h2 := rows_ws h.lv k
  have h3 : ws S ≤ (S.length : Int) * 2147483647 := ws_le fun t ht => by
    obtain ⟨s, h1, rfl, h2⟩ := lv_mem.1 (h.perm.mem_iff.1 ht)
    exact (hc s h1).2
  have h4 : S.length ≤ 288 := by
    have := lv_len c c.length
    rw [h.perm.length_eq]
    omega
  have h5 : 0 ≤ ws S := ws_nn fun t ht => Int.le_of_lt (rows_pos h.lv 0 t ht)
  have h6 : ((k + 1 : Nat) : Int) * ws S ≤ 15 * ws S := Int.mul_le_mul_of_nonneg_right (by omega) h5
  exact ⟨Int.le_of_lt (h0 t ht), by omega⟩
theorem lv_srt (c : List Int) : (lv c c.length).length = (srt c).length := by
  have := congrArg List.length (lv_map c _ (Nat.le_refl _))
  rw [List.length_map, List.take_length] at this
  rw [this]
  unfold srt
  rw [List.length_mergeSort]
/-- None, or one. -/
theorem LR.none {c : List Int} {S : List Tr} {most : Nat} (h : Sd c S) (h288 : c.length ≤ 288) (hc : ∀ i, i < c.length → 0 ≤ c.getD i 0 ∧ c.getD i 0 ≤ 2147483647) (h1 : 1 ≤ most) (hS : S.length ≤ 1) : LR c most (lensOf S c.length) := by
  have hle : ∀ i, cs i S ≤ 1 := fun i => by
    match S, hS, h with
    | [], _, _ => simp [cs]
    | [t], _, h =>
      obtain ⟨s, w, rfl, _⟩ := h.lv.leaf t (by simp)
      simp only [cs, Tr.cnt]
      split <;> omega
  have key : ∀ i, i < c.length → (0 < cs i S ↔ 0 < c.getD i 0) := fun i hi => by
    have hh := h.lv.cs_take i S.length (Nat.le_refl _)
    rw [List.take_length] at hh
    by_cases h0 : 0 < c.getD i 0
    · obtain ⟨r, hr, rfl⟩ := h.rank hi h0
      rw [hh.1 r hr rfl, if_pos hr]
      exact ⟨fun _ => h0, fun _ => by decide⟩
    · rw [hh.2 fun r hr e => h0 (by rw [← e]; exact (h.sign hr).2.1)]
      exact ⟨fun hh => by omega, fun hh => absurd hh h0⟩
  refine ⟨lensOf_len _ _, chk_of (by rw [lensOf_len]; exact h288) (fun i hi => ?_) ?_, fun i hi => ?_, ?_⟩
  · rw [lensOf_len] at hi
    rw [lensOf_get hi]
    have := hle i
    omega
  · rw [lensOf_len]
    match S, hS, h with
    | [], _, _ =>
      refine .inr (.inl ?_)
      have : ∀ i, i ≤ c.length → kr (lensOf [] c.length) i = 0 := fun i => by
        induction i with
        | zero => intro _; rfl
        | succ i ih =>
          intro hi
          show (if 0 < (lensOf [] c.length).getD i 0 then _ else kr (lensOf [] c.length) i) = 0
          rw [lensOf_get (by omega), if_neg (by simp [cs]), ih (by omega)]
      exact this _ (Nat.le_refl _)
    | [t], _, h =>
      refine .inr (.inr ?_)
      obtain ⟨q1, q2, q3⟩ := h.sign (r := 0) (by simp)
      generalize hs : sg [t] 0 = s at q1 q2 q3
      have q3 : t = Tr.leaf s (c.getD s 0) := q3
      subst q3
      have hcs : ∀ i, cs i [Tr.leaf s (c.getD s 0)] = if s = i then 1 else 0 := fun i => by simp [cs, Tr.cnt]
      have : ∀ i, i ≤ c.length → usedT (lensOf [Tr.leaf s (c.getD s 0)] c.length) i = (if s < i then 1 else 0) ∧ longT (lensOf [Tr.leaf s (c.getD s 0)] c.length) i = (if s < i then 1 else 0) := fun i => by
        induction i with
        | zero => intro _; exact ⟨rfl, rfl⟩
        | succ i ih =>
          intro hi
          obtain ⟨i1, i2⟩ := ih (by omega)
          have e1 : usedT (lensOf [Tr.leaf s (c.getD s 0)] c.length) (i + 1) = if (lensOf [Tr.leaf s (c.getD s 0)] c.length).getD i 0 ≠ 0 then usedT (lensOf [Tr.leaf s (c.getD s 0)] c.length) i + 1 else usedT (lensOf [Tr.leaf s (c.getD s 0)] c.length) i := rfl
          have e2 : longT (lensOf [Tr.leaf s (c.getD s 0)] c.length) (i + 1) = if (lensOf [Tr.leaf s (c.getD s 0)] c.length).getD i 0 > longT (lensOf [Tr.leaf s (c.getD s 0)] c.length) i then (lensOf [Tr.leaf s (c.getD s 0)] c.length).getD i 0 else longT (lensOf [Tr.leaf s (c.getD s 0)] c.length) i := rfl
          rw [e1, e2, i1, i2, lensOf_get (by omega), hcs]
          rcases Nat.lt_trichotomy s i with e | e | e
          · have a1 : s ≠ i := by omega
            have a2 : s < i + 1 := by omega
            simp [a1, e, a2]
          · subst e
            simp
          · have a1 : s ≠ i := by omega
            have a2 : ¬ s < i + 1 := by omega
            have a3 : ¬ s < i := by omega
            simp [a1, a2, a3]
      have := this _ (Nat.le_refl _)
      rw [if_pos q1] at this
      exact this
  · rw [lensOf_get hi]
    have := key i hi
    have := hle i
    have := hc i hi
    omega
  · rw [cost_lens hc (fun i hi => by have := hle i; omega) _ (Nat.le_refl _), ← ws_cost (T := S) (fun t ht => rows_ok h 0 t ht), ws_map, h.map]
    have hl := h.len
    unfold least
    rw [if_pos (by omega)]
    match he : srt c, hl with
    | [], _ => rfl
    | [x], _ => simp [isum]
    | x :: y :: r, hl => simp only [List.length_cons] at hl; omega
end Pm
end Go.Proofs.YtjkoafjnmkchdaaGreatDoor
