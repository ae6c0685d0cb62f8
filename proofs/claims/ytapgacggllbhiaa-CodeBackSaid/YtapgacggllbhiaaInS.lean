/- Inflate: what it answers, said plainly; no program in sight. -/
import Derived.Test.YtapgacggllbhiaaBitM
namespace Go.Proofs.Ytapgacggllbhiaa
namespace Inf
open Sh Bit
set_option linter.unusedVariables false
set_option linter.unusedSimpArgs false
/-- n bits at p, least significant first. -/
def num (s : ByteArray) (p n : Nat) : Except Int (Int × Nat) := if p + n ≤ 8 * s.size then .ok (tk s 1 p n, p + n) else .error 4
/-- The signs of length n, among the first i. -/
def idxT (lens : List Int) (n i : Nat) : List Nat := (List.range i).filter fun j => lens.getD j 0 == (n : Int)
def idxs (lens : List Int) (n : Nat) : List Nat := idxT lens n lens.length
def cntT (lens : List Int) (n i : Nat) : Nat := (idxT lens n i).length
def cnt (lens : List Int) (n : Nat) : Nat := cntT lens n lens.length
def longT (lens : List Int) : Nat → Int
  | 0 => 0
  | i + 1 => if lens.getD i 0 > longT lens i then lens.getD i 0 else longT lens i
def longest (lens : List Int) : Nat := (longT lens lens.length).toNat
def kr (lens : List Int) : Nat → Int
  | 0 => 0
  | i + 1 => if 0 < lens.getD i 0 then kr lens i + 2 ^ (15 - (lens.getD i 0).toNat) else kr lens i
def usedT (lens : List Int) : Nat → Int
  | 0 => 0
  | i + 1 => if lens.getD i 0 ≠ 0 then usedT lens i + 1 else usedT lens i
/-- Why lengths are no code's. -/
def chk (lens : List Int) : Int := if 288 < lens.length then 6 else if lens.any (fun l => decide (l < 0) || decide (15 < l)) = true then 1
  else if kr lens lens.length = 32768 ∨ kr lens lens.length = 0 ∨ (usedT lens lens.length = 1 ∧ longT lens lens.length = 1) then 0 else 13
/-- One sign of a code, read bit by bit: k lengths are left, n is the next. -/
def sgo (lens : List Int) (s : ByteArray) : Nat → Nat → Int → Int → Nat → Except Int (Nat × Nat)
  | 0, _, _, _, _ => .error 13
  | k + 1, n, code, first, p => if 8 * s.size ≤ p then .error 4
    else if 2 * code + bt s 1 p - 2 * first < (cnt lens n : Int) then .ok ((idxs lens n).getD (2 * code + bt s 1 p - 2 * first).toNat 0, p + 1)
    else sgo lens s k (n + 1) (2 * code + bt s 1 p) (2 * first + (cnt lens n : Int)) (p + 1)
def sym (lens : List Int) (s : ByteArray) (p : Nat) : Except Int (Nat × Nat) := sgo lens s (longest lens) 1 0 0 p
/-- A stored block. -/
def stored (s : ByteArray) (p : Nat) (out : List UInt8) (most : Nat) : Except Int (List UInt8 × Nat) :=
  match num s ((p + 7) / 8 * 8) 16 with
  | .error e => .error e
  | .ok (n, p1) => match num s p1 16 with
    | .error e => .error e
    | .ok (m, p2) => if m ≠ 65535 - n then .error 3 else if ¬ out.length + n.toNat ≤ most then .error 5 else if ¬ p2 / 8 + n.toNat ≤ s.size then .error 4
      else .ok (out ++ (s.extract (p2 / 8) (p2 / 8 + n.toNat)).data.toList, p2 + 8 * n.toNat)
/-- How a repeat is read: the bits, the least number. -/
def repB (sg : Nat) : Nat := if sg = 18 then 7 else if sg = 17 then 3 else 2
def repL (sg : Nat) : Nat := if sg = 18 then 11 else 3
/-- Lengths, run by run. -/
def lensF (lens : List Int) (s : ByteArray) (many : Nat) : Nat → List Int → Nat → Except Int (List Int × Nat)
  | 0, _, _ => .error 0
  | k + 1, l, p => if many ≤ l.length then .ok (l, p) else match sym lens s p with
    | .error e => .error e
    | .ok (sg, p1) => if sg < 16 then lensF lens s many k (l ++ [(sg : Int)]) p1
      else if sg = 16 ∧ l.length = 0 then .error 3
      else match num s p1 (repB sg) with
        | .error e => .error e
        | .ok (v, p2) => if many < l.length + (repL sg + v.toNat) then .error 3
          else lensF lens s many k (l ++ List.replicate (repL sg + v.toNat) (if sg = 16 then l.getD (l.length - 1) 0 else 0)) p2
def order : List Nat := [16, 17, 18, 0, 8, 7, 9, 6, 10, 5, 11, 4, 12, 3, 13, 2, 14, 1, 15]
def lens19 (s : ByteArray) : List Nat → List Int → Nat → Except Int (List Int × Nat)
  | [], l, p => .ok (l, p)
  | o :: r, l, p => match num s p 3 with
    | .error e => .error e
    | .ok (v, q) => lens19 s r (l.set o v) q
/-- A dynamic block's two codes. -/
def dyn (s : ByteArray) (p : Nat) : Except Int (List Int × List Int × Nat) :=
  match num s p 5 with
  | .error e => .error e
  | .ok (hl, p1) => if 29 < hl then .error 3 else match num s p1 5 with
    | .error e => .error e
    | .ok (hd, p2) => if 29 < hd then .error 3 else match num s p2 4 with
      | .error e => .error e
      | .ok (hc, p3) => match lens19 s (order.take (hc.toNat + 4)) (List.replicate 19 0) p3 with
        | .error e => .error e
        | .ok (l19, p4) => if chk l19 ≠ 0 then .error (chk l19) else match lensF l19 s (hl.toNat + 257 + (hd.toNat + 1)) (hl.toNat + 257 + (hd.toNat + 1) + 1) [] p4 with
          | .error e => .error e
          | .ok (l, p5) => if l.getD 256 0 = 0 then .error 13 else if chk (l.take (hl.toNat + 257)) ≠ 0 then .error (chk (l.take (hl.toNat + 257)))
            else if chk (l.drop (hl.toNat + 257)) ≠ 0 then .error (chk (l.drop (hl.toNat + 257))) else .ok (l.take (hl.toNat + 257), l.drop (hl.toNat + 257), p5)
/-- The extra bits of a length's and of a distance's sign, and the first value. -/
def moreL (k : Nat) : Nat := if k = 28 then 0 else k / 4 - 1
def moreD (k : Nat) : Nat := k / 2 - 1
def baseL : Nat → Nat
  | 0 => 3
  | k + 1 => baseL k + 2 ^ (k / 4 - 1)
def baseD : Nat → Nat
  | 0 => 1
  | k + 1 => baseD k + 2 ^ (k / 2 - 1)
def firstL (k : Nat) : Nat := if k = 28 then 258 else baseL k
def sizeF (sign more : Int) : Int × Int := if sign < 257 ∨ 285 < sign then (0, 1) else if more < 0 ∨ 2 ^ moreL (sign - 257).toNat ≤ more then (0, 1) else (firstL (sign - 257).toNat + more, 0)
def farF (sign more : Int) : Int × Int := if sign < 0 ∨ 29 < sign then (0, 1) else if more < 0 ∨ 2 ^ moreD sign.toNat ≤ more then (0, 1) else (baseD sign.toNat + more, 0)
def copy (out : List UInt8) (d : Nat) : Nat → List UInt8
  | 0 => out
  | n + 1 => copy out d n ++ [(copy out d n).getD ((copy out d n).length - d) 0]
/-- The rest of a copy. -/
def copied (s : ByteArray) (far : List Int) (most : Nat) (sg : Nat) (out : List UInt8) (p : Nat) : Except Int (List UInt8 × Nat) :=
  if 285 < sg then .error 13 else match num s p (moreL (sg - 257)) with
  | .error e => .error e
  | .ok (v, p1) => match sym far s p1 with
    | .error e => .error e
    | .ok (d, p2) => if 29 < d then .error 13 else match num s p2 (moreD d) with
      | .error e => .error e
      | .ok (x, p3) => if out.length < baseD d + x.toNat then .error 14 else if most < out.length + (firstL (sg - 257) + v.toNat) then .error 5
        else .ok (copy out (baseD d + x.toNat) (firstL (sg - 257) + v.toNat), p3)
/-- Signs up to the end of a block. -/
def signsF (s : ByteArray) (near far : List Int) (most : Nat) : Nat → List UInt8 → Nat → Except Int (List UInt8 × Nat)
  | 0, _, _ => .error 0
  | k + 1, out, p => match sym near s p with
    | .error e => .error e
    | .ok (sg, p1) => if sg = 256 then .ok (out, p1) else if 256 < sg then match copied s far most sg out p1 with
        | .error e => .error e
        | .ok (o, q) => signsF s near far most k o q
      else if most ≤ out.length then .error 5 else signsF s near far most k (out ++ [UInt8.ofNat sg]) p1
def fixL : List Int := List.replicate 144 8 ++ List.replicate 112 9 ++ List.replicate 24 7 ++ List.replicate 8 8
def fixD : List Int := List.replicate 32 5
/-- A block of a kind. -/
def block (s : ByteArray) (most : Nat) (kind : Int) (out : List UInt8) (p : Nat) : Except Int (List UInt8 × Nat) :=
  if kind = 3 then .error 3 else if kind = 0 then stored s p out most else if kind = 2 then match dyn s p with
    | .error e => .error e
    | .ok (a, b, q) => signsF s a b most (8 * s.size + 1) out q
  else signsF s fixL fixD most (8 * s.size + 1) out p
/-- Block after block. -/
def allF (s : ByteArray) (most : Nat) : Nat → List UInt8 → Nat → Except Int (List UInt8 × Nat)
  | 0, _, _ => .error 0
  | k + 1, out, p => match num s p 1 with
    | .error e => .error e
    | .ok (last, p1) => match num s p1 2 with
      | .error e => .error e
      | .ok (kind, p2) => match block s most kind out p2 with
        | .error e => .error e
        | .ok (o, q) => if last = 1 then .ok (o, (q + 7) / 8) else allF s most k o q
/-- What All answers: the data, the bytes used, the error. -/
def allR (s : ByteArray) (most : Int) : ByteArray × Int × Int := if most < 0 then (⟨#[]⟩, 0, 1) else match allF s (min most 1048576).toNat (8 * s.size + 1) [] 0 with
  | .error e => (⟨#[]⟩, 0, e)
  | .ok (o, n) => (⟨o.toArray⟩, (n : Int), 0)
/-! ### Positions rise, and stay within the bytes -/
theorem num_ok {s : ByteArray} {p n : Nat} {v : Int} {q : Nat} (h : num s p n = .ok (v, q)) : v = tk s 1 p n ∧ q = p + n ∧ p + n ≤ 8 * s.size := by
  unfold num at h
  split at h
  · cases h; exact ⟨rfl, rfl, ‹_›⟩
  · cases h
theorem num_bd {s : ByteArray} {p n : Nat} {v : Int} {q : Nat} (h : num s p n = .ok (v, q)) : 0 ≤ v ∧ v < 2 ^ n ∧ q = p + n ∧ q ≤ 8 * s.size := by
  obtain ⟨rfl, rfl, h3⟩ := num_ok h
  have := tk_bd s 1 p n
  exact ⟨this.1, this.2, rfl, h3⟩
theorem idxs_get {lens : List Int} {n k : Nat} (h : k < cnt lens n) : (idxs lens n).getD k 0 < lens.length ∧ lens.getD ((idxs lens n).getD k 0) 0 = (n : Int) := by
  have hm : (idxs lens n).getD k 0 ∈ idxs lens n := by
    have h' : k < (idxs lens n).length := h
    rw [List.getD_eq_getElem?_getD, List.getElem?_eq_getElem h']
    exact List.getElem_mem h'
  generalize (idxs lens n).getD k 0 = x at hm
  unfold idxs idxT at hm
  obtain ⟨h1, h2⟩ := List.mem_filter.1 hm
  exact ⟨List.mem_range.1 h1, by simpa using h2⟩
theorem sgo_ok {lens : List Int} {s : ByteArray} {g q : Nat} : ∀ (k n : Nat) (c f : Int) (p : Nat), sgo lens s k n c f p = .ok (g, q) → p < q ∧ q ≤ 8 * s.size ∧ (f ≤ c → g < lens.length ∧ ∃ m, n ≤ m ∧ m < n + k ∧ lens.getD g 0 = (m : Int))
  | 0, n, c, f, p, h => by cases h
  | k + 1, n, c, f, p, h => by
    unfold sgo at h
    split at h
    · cases h
    · have hb := bt_bd s 1 p
      split at h
      · rename_i h1 h2
        cases h
        refine ⟨by omega, by omega, fun hcf => ?_⟩
        have := idxs_get (lens := lens) (n := n) (k := (2 * c + bt s 1 p - 2 * f).toNat) (by omega)
        exact ⟨this.1, n, Nat.le_refl _, by omega, this.2⟩
      · rename_i h1 h2
        obtain ⟨a1, a2, a3⟩ := sgo_ok k (n + 1) _ _ (p + 1) h
        refine ⟨by omega, a2, fun hcf => ?_⟩
        obtain ⟨b1, m, b2, b3, b4⟩ := a3 (by omega)
        exact ⟨b1, m, by omega, by omega, b4⟩
theorem sym_ok {lens : List Int} {s : ByteArray} {g p q : Nat} (h : sym lens s p = .ok (g, q)) : p < q ∧ q ≤ 8 * s.size ∧ g < lens.length := by
  obtain ⟨a1, a2, a3⟩ := sgo_ok _ _ _ _ _ h
  exact ⟨a1, a2, (a3 (Int.le_refl _)).1⟩
theorem copy_len (out : List UInt8) (d : Nat) : ∀ n, (copy out d n).length = out.length + n
  | 0 => rfl
  | n + 1 => by
    show (copy out d n ++ [_]).length = _
    rw [List.length_append, copy_len out d n]
    rfl
theorem stored_ok {s : ByteArray} {p : Nat} {out o : List UInt8} {most q : Nat} (h : stored s p out most = .ok (o, q)) : p ≤ q ∧ q ≤ 8 * s.size ∧ o.length ≤ most := by
  unfold stored at h
  split at h
  · cases h
  · rename_i n p1 h1
    split at h
    · cases h
    · rename_i m p2 h2
      obtain ⟨b1, b2, b3, b4⟩ := num_bd h1
      obtain ⟨c1, c2, c3, c4⟩ := num_bd h2
      split at h
      · cases h
      · split at h
        · cases h
        · rename_i h4
          split at h
          · cases h
          · rename_i h5
            cases h
            refine ⟨by omega, by omega, ?_⟩
            rw [List.length_append]
            have e1 : (s.extract (p2 / 8) (p2 / 8 + n.toNat)).data.toList.length = (s.extract (p2 / 8) (p2 / 8 + n.toNat)).size := Array.length_toList
            rw [e1, ByteArray.size_extract]
            omega
theorem copied_ok {s : ByteArray} {far : List Int} {most sg p q : Nat} {out o : List UInt8} (h : copied s far most sg out p = .ok (o, q)) : p ≤ q ∧ q ≤ 8 * s.size ∧ o.length ≤ most := by
  unfold copied at h
  split at h
  · cases h
  · split at h
    · cases h
    · rename_i v p1 h1
      obtain ⟨b1, b2, b3, b4⟩ := num_bd h1
      split at h
      · cases h
      · rename_i d p2 h2
        obtain ⟨c1, c2, c3⟩ := sym_ok h2
        split at h
        · cases h
        · split at h
          · cases h
          · rename_i x p3 h3
            obtain ⟨d1, d2, d3, d4⟩ := num_bd h3
            split at h
            · cases h
            · split at h
              · cases h
              · cases h
                exact ⟨by omega, by omega, by rw [copy_len]; omega⟩
theorem signsF_ok {s : ByteArray} {near far : List Int} {most q : Nat} {o : List UInt8} : ∀ (k : Nat) (out : List UInt8) (p : Nat), out.length ≤ most → signsF s near far most k out p = .ok (o, q) → p < q ∧ q ≤ 8 * s.size ∧ o.length ≤ most
  | 0, _, _, _, h => by cases h
  | k + 1, out, p, hm, h => by
    unfold signsF at h
    split at h
    · cases h
    · rename_i sg p1 h1
      obtain ⟨c1, c2, c3⟩ := sym_ok h1
      split at h
      · cases h; exact ⟨c1, c2, hm⟩
      · split at h
        · split at h
          · cases h
          · rename_i o2 q2 h2
            obtain ⟨d1, d2, d3⟩ := copied_ok h2
            obtain ⟨e1, e2, e3⟩ := signsF_ok k o2 q2 d3 h
            exact ⟨by omega, e2, e3⟩
        · split at h
          · cases h
          · obtain ⟨e1, e2, e3⟩ := signsF_ok k _ p1 (by rw [List.length_append]; simp; omega) h
            exact ⟨by omega, e2, e3⟩
theorem lens19_ok {s : ByteArray} : ∀ (r : List Nat) (l l2 : List Int) (p q : Nat), p ≤ 8 * s.size → lens19 s r l p = .ok (l2, q) → p ≤ q ∧ q ≤ 8 * s.size ∧ l2.length = l.length
  | [], l, l2, p, q, hp, h => by cases h; exact ⟨Nat.le_refl _, hp, rfl⟩
  | o :: r, l, l2, p, q, hp, h => by
    unfold lens19 at h
    split at h
    · cases h
    · rename_i v p1 h1
      obtain ⟨b1, b2, b3, b4⟩ := num_bd h1
      obtain ⟨c1, c2, c3⟩ := lens19_ok r _ l2 p1 q b4 h
      exact ⟨by omega, c2, by rw [c3, List.length_set]⟩
theorem lensF_ok {s : ByteArray} {lens l2 : List Int} {many q : Nat} : ∀ (k : Nat) (l : List Int) (p : Nat), p ≤ 8 * s.size → l.length ≤ many → lensF lens s many k l p = .ok (l2, q) → p ≤ q ∧ q ≤ 8 * s.size ∧ l2.length = many
  | 0, _, _, _, _, h => by cases h
  | k + 1, l, p, hp, hl, h => by
    unfold lensF at h
    split at h
    · cases h; exact ⟨Nat.le_refl _, hp, by omega⟩
    · split at h
      · cases h
      · rename_i sg p1 h1
        obtain ⟨c1, c2, c3⟩ := sym_ok h1
        split at h
        · obtain ⟨d1, d2, d3⟩ := lensF_ok k _ p1 c2 (by rw [List.length_append]; simp; omega) h
          exact ⟨by omega, d2, d3⟩
        · split at h
          · cases h
          · split at h
            · cases h
            · rename_i v p2 h2
              obtain ⟨b1, b2, b3, b4⟩ := num_bd h2
              split at h
              · cases h
              · obtain ⟨d1, d2, d3⟩ := lensF_ok k _ p2 b4 (by rw [List.length_append, List.length_replicate]; omega) h
                exact ⟨by omega, d2, d3⟩
theorem dyn_ok {s : ByteArray} {a b : List Int} {p q : Nat} (hp : p ≤ 8 * s.size) (h : dyn s p = .ok (a, b, q)) : p ≤ q ∧ q ≤ 8 * s.size := by
  unfold dyn at h
  split at h
  · cases h
  · rename_i hl p1 h1
    obtain ⟨a1, a2, a3, a4⟩ := num_bd h1
    split at h
    · cases h
    · split at h
      · cases h
      · rename_i hd p2 h2
        obtain ⟨b1, b2, b3, b4⟩ := num_bd h2
        split at h
        · cases h
        · split at h
          · cases h
          · rename_i hc p3 h3
            obtain ⟨c1, c2, c3, c4⟩ := num_bd h3
            split at h
            · cases h
            · rename_i l19 p4 h4
              obtain ⟨d1, d2, d3⟩ := lens19_ok _ _ _ _ _ c4 h4
              split at h
              · cases h
              · split at h
                · cases h
                · rename_i l p5 h5
                  obtain ⟨e1, e2, e3⟩ := lensF_ok _ _ _ d2 (by simp) h5
                  split at h
                  · cases h
                  · split at h
                    · cases h
                    · split at h
                      · cases h
                      · cases h
                        exact ⟨by omega, e2⟩
theorem block_ok {s : ByteArray} {most q p : Nat} {kind : Int} {out o : List UInt8} (hp : p ≤ 8 * s.size) (hm : out.length ≤ most) (h : block s most kind out p = .ok (o, q)) : p ≤ q ∧ q ≤ 8 * s.size ∧ o.length ≤ most := by
  unfold block at h
  split at h
  · cases h
  · split at h
    · exact stored_ok h
    · split at h
      · split at h
        · cases h
        · rename_i a b q2 h2
          obtain ⟨a1, a2⟩ := dyn_ok hp h2
          obtain ⟨b1, b2, b3⟩ := signsF_ok _ _ _ hm h
          exact ⟨by omega, b2, b3⟩
      · obtain ⟨b1, b2, b3⟩ := signsF_ok _ _ _ hm h
        exact ⟨by omega, b2, b3⟩
/-! ### Counting -/
theorem idxT_succ (lens : List Int) (n i : Nat) : idxT lens n (i + 1) = if lens.getD i 0 = (n : Int) then idxT lens n i ++ [i] else idxT lens n i := by
  unfold idxT
  rw [List.range_succ, List.filter_append]
  by_cases h : lens.getD i 0 = (n : Int)
  · rw [if_pos h]
    have : (lens.getD i 0 == (n : Int)) = true := beq_iff_eq.2 h
    simp only [List.filter, this]
  · rw [if_neg h]
    have : (lens.getD i 0 == (n : Int)) = false := by simpa using h
    simp only [List.filter, this, List.append_nil]
theorem cntT_succ (lens : List Int) (n i : Nat) : cntT lens n (i + 1) = if lens.getD i 0 = (n : Int) then cntT lens n i + 1 else cntT lens n i := by
  unfold cntT
  rw [idxT_succ]
  split
  · rw [List.length_append]; rfl
  · rfl
theorem cntT_le (lens : List Int) (n : Nat) : ∀ i, cntT lens n i ≤ i
  | 0 => Nat.le_refl _
  | i + 1 => by
    have := cntT_le lens n i
    rw [cntT_succ]
    split <;> omega
/-- Lengths within their range, not too many. -/
structure Lok (lens : List Int) : Prop where
  len : lens.length ≤ 288
  nn : ∀ i, 0 ≤ lens.getD i 0 ∧ lens.getD i 0 ≤ 15
theorem any_bad {lens : List Int} : (lens.any (fun l => decide (l < 0) || decide (15 < l)) = true) ↔ ¬ ∀ i, 0 ≤ lens.getD i 0 ∧ lens.getD i 0 ≤ 15 := by
  constructor
  · intro h hall
    obtain ⟨x, hx, hb⟩ := List.any_eq_true.1 h
    obtain ⟨i, hi, rfl⟩ := List.mem_iff_getElem.1 hx
    have := hall i
    rw [List.getD_eq_getElem?_getD, List.getElem?_eq_getElem hi] at this
    simp only [Option.getD_some] at this
    simp at hb
    omega
  · intro h
    cases hh : lens.any (fun l => decide (l < 0) || decide (15 < l)) with
    | true => rfl
    | false =>
      refine absurd (fun i => ?_) h
      by_cases hi : i < lens.length
      · have := List.any_eq_false.1 hh lens[i] (List.getElem_mem hi)
        rw [List.getD_eq_getElem?_getD, List.getElem?_eq_getElem hi]
        simp at this ⊢
        omega
      · rw [List.getD_eq_getElem?_getD, List.getElem?_eq_none (by omega)]
        simp
theorem chk_lok {lens : List Int} (h : chk lens = 0) : Lok lens := by
  unfold chk at h
  split at h
  · cases h
  · split at h
    · cases h
    · rename_i h1 h2
      rw [any_bad] at h2
      exact ⟨by omega, Classical.not_not.1 h2⟩
theorem chk_many {lens : List Int} (h : 288 < lens.length) : chk lens = 6 := by unfold chk; rw [if_pos h]
theorem chk_arg {lens : List Int} (h : ¬ 288 < lens.length) {i : Nat} (hi : ¬ (0 ≤ lens.getD i 0 ∧ lens.getD i 0 ≤ 15)) : chk lens = 1 := by
  unfold chk
  rw [if_neg h, if_pos (any_bad.2 fun hh => hi (hh i))]
theorem chk_rest {lens : List Int} (h : Lok lens) : chk lens = if kr lens lens.length = 32768 ∨ kr lens lens.length = 0 ∨ (usedT lens lens.length = 1 ∧ longT lens lens.length = 1) then 0 else 13 := by
  unfold chk
  rw [if_neg (by have := h.len; omega), if_neg (fun hh => any_bad.1 hh h.nn)]
/-- The sum over the lengths that the program adds up. -/
def kS (lens : List Int) (i : Nat) : Nat → Int
  | 0 => 0
  | l + 1 => kS lens i l + (cntT lens (l + 1) i : Int) * 2 ^ (15 - (l + 1))
def uS (lens : List Int) (i : Nat) : Nat → Int
  | 0 => 0
  | l + 1 => uS lens i l + (cntT lens (l + 1) i : Int)
theorem kS_step (lens : List Int) (i : Nat) : ∀ l, (0 ≤ lens.getD i 0) → kS lens (i + 1) l = kS lens i l + (if 0 < lens.getD i 0 ∧ lens.getD i 0 ≤ (l : Int) then 2 ^ (15 - (lens.getD i 0).toNat) else 0)
  | 0, h => by
    rw [if_neg (by omega)]
    rfl
  | l + 1, h => by
    have ih := kS_step lens i l h
    show kS lens (i + 1) l + (cntT lens (l + 1) (i + 1) : Int) * 2 ^ (15 - (l + 1)) = kS lens i l + (cntT lens (l + 1) i : Int) * 2 ^ (15 - (l + 1)) + _
    rw [ih, cntT_succ]
    by_cases he : lens.getD i 0 = ((l + 1 : Nat) : Int)
    · rw [if_pos he, if_neg (by omega), if_pos (by omega), show (lens.getD i 0).toNat = l + 1 by omega]
      rw [Int.natCast_add, Int.add_mul]
      omega
    · rw [if_neg he]
      by_cases h2 : 0 < lens.getD i 0 ∧ lens.getD i 0 ≤ (l : Int)
      · rw [if_pos h2, if_pos (by omega)]; omega
      · rw [if_neg h2, if_neg (by omega)]; omega
theorem uS_step (lens : List Int) (i : Nat) : ∀ l, (0 ≤ lens.getD i 0) → uS lens (i + 1) l = uS lens i l + (if 0 < lens.getD i 0 ∧ lens.getD i 0 ≤ (l : Int) then 1 else 0)
  | 0, h => by
    rw [if_neg (by omega)]
    rfl
  | l + 1, h => by
    have ih := uS_step lens i l h
    show uS lens (i + 1) l + (cntT lens (l + 1) (i + 1) : Int) = uS lens i l + (cntT lens (l + 1) i : Int) + _
    rw [ih, cntT_succ]
    by_cases he : lens.getD i 0 = ((l + 1 : Nat) : Int)
    · rw [if_pos he, if_neg (by omega), if_pos (by omega)]; omega
    · rw [if_neg he]
      by_cases h2 : 0 < lens.getD i 0 ∧ lens.getD i 0 ≤ (l : Int)
      · rw [if_pos h2, if_pos (by omega)]; omega
      · rw [if_neg h2, if_neg (by omega)]; omega
theorem kS_zero (lens : List Int) : ∀ l, kS lens 0 l = 0 ∧ uS lens 0 l = 0
  | 0 => ⟨rfl, rfl⟩
  | l + 1 => by
    obtain ⟨a, b⟩ := kS_zero lens l
    refine ⟨?_, ?_⟩
    · show kS lens 0 l + ((0 : Nat) : Int) * _ = 0
      rw [a]; simp
    · show uS lens 0 l + ((0 : Nat) : Int) = 0
      rw [b]; rfl
theorem kS_kr {lens : List Int} (h : Lok lens) : ∀ i, kS lens i 15 = kr lens i
  | 0 => (kS_zero lens 15).1
  | i + 1 => by
    have hn := h.nn i
    rw [kS_step lens i 15 hn.1, kS_kr h i]
    show _ = if 0 < lens.getD i 0 then _ else _
    by_cases h0 : 0 < lens.getD i 0
    · rw [if_pos ⟨h0, hn.2⟩, if_pos h0]
    · rw [if_neg (fun hh => h0 hh.1), if_neg h0]; omega
theorem uS_used {lens : List Int} (h : Lok lens) : ∀ i, uS lens i 15 = usedT lens i
  | 0 => (kS_zero lens 15).2
  | i + 1 => by
    have hn := h.nn i
    rw [uS_step lens i 15 hn.1, uS_used h i]
    show _ = if lens.getD i 0 ≠ 0 then _ else _
    by_cases h0 : 0 < lens.getD i 0
    · rw [if_pos ⟨h0, hn.2⟩, if_pos (by omega)]
    · rw [if_neg (fun hh => h0 hh.1), if_neg (by omega)]; omega
theorem used_kr {lens : List Int} (h : Lok lens) : ∀ i, 0 ≤ usedT lens i ∧ usedT lens i ≤ kr lens i ∧ (usedT lens i = 0 → kr lens i = 0 ∧ longT lens i = 0 ∧ cntT lens 1 i = 0) ∧ (usedT lens i = 1 → (longT lens i = 1 ↔ cntT lens 1 i = 1)) ∧ 0 ≤ longT lens i ∧ longT lens i ≤ 15
  | 0 => ⟨Int.le_refl _, Int.le_refl _, fun _ => ⟨rfl, rfl, rfl⟩, fun h => by have h : (0 : Int) = 1 := h; omega, Int.le_refl _, by show (0 : Int) ≤ 15; omega⟩
  | i + 1 => by
    obtain ⟨a1, a2, a3, a4, a5, a6⟩ := used_kr h i
    have hn := h.nn i
    have u : usedT lens (i + 1) = if lens.getD i 0 ≠ 0 then usedT lens i + 1 else usedT lens i := rfl
    have k : kr lens (i + 1) = if 0 < lens.getD i 0 then kr lens i + 2 ^ (15 - (lens.getD i 0).toNat) else kr lens i := rfl
    have l : longT lens (i + 1) = if lens.getD i 0 > longT lens i then lens.getD i 0 else longT lens i := rfl
    have c := cntT_succ lens 1 i
    have hp := two_pow_pos (15 - (lens.getD i 0).toNat)
    by_cases h0 : lens.getD i 0 = 0
    · rw [if_neg (fun hh => hh h0)] at u
      rw [if_neg (by omega)] at k l
      rw [if_neg (by omega)] at c
      rw [u, k, l, c]
      exact ⟨a1, a2, a3, a4, a5, a6⟩
    · rw [if_pos h0] at u
      rw [if_pos (by omega)] at k
      rw [u, k]
      refine ⟨by omega, by omega, fun hh => by omega, fun hh => ?_, ?_, ?_⟩
      · obtain ⟨b1, b2, b3⟩ := a3 (by omega)
        rw [b2, if_pos (by omega)] at l
        rw [l, c, b3]
        split <;> omega
      · rw [l]; split <;> omega
      · rw [l]; split <;> omega
theorem lens_long {lens : List Int} : ∀ i j, j < i → lens.getD j 0 ≤ longT lens i
  | 0, j, h => by omega
  | i + 1, j, h => by
    have l : longT lens (i + 1) = if lens.getD i 0 > longT lens i then lens.getD i 0 else longT lens i := rfl
    rw [l]
    by_cases hj : j = i
    · subst hj; split <;> omega
    · have := lens_long (lens := lens) i j (by omega)
      split <;> omega
/-- A length longer than the longest has no sign. -/
theorem cnt_long {lens : List Int} (h : Lok lens) {n : Nat} (hn : longest lens < n) : cnt lens n = 0 := by
  have : ∀ i, i ≤ lens.length → cntT lens n i = 0 := fun i => by
    induction i with
    | zero => intro _; rfl
    | succ i ih =>
      intro hi
      rw [cntT_succ, if_neg, ih (by omega)]
      have h1 := lens_long (lens := lens) lens.length i (by omega)
      have h2 := (used_kr h lens.length).2.2.2.2
      unfold longest at hn
      omega
  exact this _ (Nat.le_refl _)
/-- The longest length has one. -/
theorem long_mem {lens : List Int} : ∀ i, longT lens i = 0 ∨ ∃ j, j < i ∧ lens.getD j 0 = longT lens i
  | 0 => .inl rfl
  | i + 1 => by
    have l : longT lens (i + 1) = if lens.getD i 0 > longT lens i then lens.getD i 0 else longT lens i := rfl
    rw [l]
    split
    · exact .inr ⟨i, by omega, rfl⟩
    · rcases long_mem (lens := lens) i with h | ⟨j, h1, h2⟩
      · exact .inl h
      · exact .inr ⟨j, by omega, h2⟩
/-- The first code of each length. -/
def fs (f : Nat → Int) : Nat → Int
  | 0 => 0
  | 1 => 0
  | n + 2 => 2 * (fs f (n + 1) + f (n + 1))
def cn (lens : List Int) (n : Nat) : Int := if n = 0 then 0 else (cnt lens n : Int)
theorem fs_bd {f : Nat → Int} (hf : ∀ n, 0 ≤ f n ∧ f n ≤ 288) : ∀ n, 0 ≤ fs f n ∧ fs f n + 576 ≤ 576 * 2 ^ n
  | 0 => by simp [fs]
  | 1 => by simp [fs]
  | n + 2 => by
    have ih := fs_bd hf (n + 1)
    have := hf (n + 1)
    rw [two_pow_succ]
    show 0 ≤ 2 * (fs f (n + 1) + f (n + 1)) ∧ 2 * (fs f (n + 1) + f (n + 1)) + 576 ≤ _
    have hp := two_pow_pos (n + 1)
    omega
theorem cn_bd {lens : List Int} (h : lens.length ≤ 288) (n : Nat) : 0 ≤ cn lens n ∧ cn lens n ≤ 288 := by
  unfold cn
  split
  · omega
  · have := cntT_le lens n lens.length
    unfold cnt
    omega
/-- The signs in the order of their codes, of lengths up to n. -/
def ordT (lens : List Int) : Nat → List Nat
  | 0 => []
  | n + 1 => ordT lens n ++ idxs lens (n + 1)
end Inf
end Go.Proofs.Ytapgacggllbhiaa
