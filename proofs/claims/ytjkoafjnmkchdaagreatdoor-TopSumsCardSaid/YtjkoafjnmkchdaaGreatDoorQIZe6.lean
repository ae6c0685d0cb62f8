/- Inflate: stored blocks; InflateStored. Condition: the laid variables. -/
import Derived.Test.YtjkoafjnmkchdaaGreatDoorQIZe5
import Derived.Test.YtjkoafjnmkchdaaGreatDoorQIZe3
import Derived.Test.YtjkoafjnmkchdaaGreatDoorQIZe4
import Derived.Test.YtjkoafjnmkchdaaGreatDoorQIZe2
namespace Go.Proofs.YtjkoafjnmkchdaaGreatDoor
namespace Inf
open Sh Bit
set_option linter.unusedVariables false
set_option linter.unusedSimpArgs false
set_option maxRecDepth 4000
set_option maxHeartbeats 1000000
/-! ### Numbers of whole bytes -/
theorem bt_low8 (s : ByteArray) (i k : Nat) (hk : k < 8) : bt s 1 (8 * i + k) = byt s i / 2 ^ k % 2 := by
  unfold bt
  rw [if_pos rfl, show (8 * i + k) / 8 = i by omega, show (8 * i + k) % 8 = k by omega]
theorem tk_step (s : ByteArray) (p n : Nat) : tk s 1 p (n + 1) = tk s 1 p n + bt s 1 (p + n) * 2 ^ n := by
  show (if (1 : Int) = 1 then _ else _) = _
  rw [if_pos rfl]
theorem tk_low8 (s : ByteArray) (i : Nat) : tk s 1 (8 * i) 8 = byt s i := by
  have hb := byt_bd s i
  rw [tk_step, tk_step, tk_step, tk_step, tk_step, tk_step, tk_step, tk_step, show tk s 1 (8 * i) 0 = 0 by rfl]
  rw [bt_low8 s i 0 (by omega), bt_low8 s i 1 (by omega), bt_low8 s i 2 (by omega), bt_low8 s i 3 (by omega), bt_low8 s i 4 (by omega), bt_low8 s i 5 (by omega), bt_low8 s i 6 (by omega), bt_low8 s i 7 (by omega)]
  simp only [show (2 : Int) ^ 7 = 128 by decide, show (2 : Int) ^ 6 = 64 by decide, show (2 : Int) ^ 5 = 32 by decide, show (2 : Int) ^ 4 = 16 by decide, show (2 : Int) ^ 3 = 8 by decide, show (2 : Int) ^ 2 = 4 by decide, show (2 : Int) ^ 1 = 2 by decide, show (2 : Int) ^ 0 = 1 by decide]
  omega
theorem tk_low16 (s : ByteArray) (i : Nat) : tk s 1 (8 * i) 16 = byt s i + 256 * byt s (i + 1) := by
  rw [show (16 : Nat) = 8 + 8 by rfl, tk_low, tk_low8, show 8 * i + 8 = 8 * (i + 1) by omega, tk_low8, show (2 : Int) ^ 8 = 256 by decide]
  omega
/-- A stored block: the flag, the length, its complement, the data. -/
def hd5 (f : UInt8) (n : Nat) : List UInt8 := [f, UInt8.ofNat (n % 256), UInt8.ofNat (n / 256), UInt8.ofNat (255 - n % 256), UInt8.ofNat (255 - n / 256)]
def blkS (f : UInt8) (p : List UInt8) : List UInt8 := hd5 f p.length ++ p
theorem blkS_len (f : UInt8) (p : List UInt8) : (blkS f p).length = 5 + p.length := by unfold blkS hd5; simp; omega
theorem of_toNat {n : Nat} (h : n < 256) : (UInt8.ofNat n).toNat = n := by rw [UInt8.toNat_ofNat', Nat.mod_eq_of_lt (by omega)]
theorem byt_mid {t : ByteArray} {pre rest : List UInt8} {f : UInt8} {p : List UInt8} (ht : t.data.toList = pre ++ (blkS f p ++ rest)) {k : Nat} (hk : k < 5) : byt t (pre.length + k) = (((hd5 f p.length).getD k 0).toNat : Int) := by
  rw [byt_l, ht, List.getD_eq_getElem?_getD, List.getElem?_append_right (by omega), Nat.add_sub_cancel_left]
  unfold blkS
  rw [List.append_assoc, List.getElem?_append_left (by show k < 5; exact hk), List.getD_eq_getElem?_getD]
theorem block_at {t : ByteArray} {pre rest p : List UInt8} {f : UInt8} {most : Nat} {out : List UInt8} (ht : t.data.toList = pre ++ (blkS f p ++ rest)) (hf : f.toNat ≤ 1) (hp : p.length ≤ 65535) (hm : out.length + p.length ≤ most) :
    num t (8 * pre.length) 1 = .ok ((f.toNat : Int), 8 * pre.length + 1) ∧ num t (8 * pre.length + 1) 2 = .ok (0, 8 * pre.length + 1 + 2) ∧ block t most 0 out (8 * pre.length + 1 + 2) = .ok (out ++ p, 8 * (pre ++ blkS f p).length) := by
  have hsz : t.size = pre.length + (5 + p.length + rest.length) := by
    rw [size_list, ht, List.length_append, List.length_append, blkS_len]
  have b0 := byt_mid ht (k := 0) (by omega)
  have b1 := byt_mid ht (k := 1) (by omega)
  have b2 := byt_mid ht (k := 2) (by omega)
  have b3 := byt_mid ht (k := 3) (by omega)
  have b4 := byt_mid ht (k := 4) (by omega)
  rw [Nat.add_zero] at b0
  have b0 : byt t pre.length = (f.toNat : Int) := b0
  have b1 : byt t (pre.length + 1) = ((UInt8.ofNat (p.length % 256)).toNat : Int) := b1
  have b2 : byt t (pre.length + 2) = ((UInt8.ofNat (p.length / 256)).toNat : Int) := b2
  have b3 : byt t (pre.length + 3) = ((UInt8.ofNat (255 - p.length % 256)).toNat : Int) := b3
  have b4 : byt t (pre.length + 4) = ((UInt8.ofNat (255 - p.length / 256)).toNat : Int) := b4
  rw [of_toNat (by omega)] at b1 b2 b3 b4
  refine ⟨?_, ?_, ?_⟩
  · unfold num
    rw [if_pos (by omega), tk_step, show tk t 1 (8 * pre.length) 0 = 0 by rfl, bt_low8 t _ 0 (by omega), b0]
    congr 2
    simp only [show (2 : Int) ^ 0 = 1 by decide]
    omega
  · unfold num
    rw [if_pos (by omega), tk_step, tk_step, show tk t 1 (8 * pre.length + 1) 0 = 0 by rfl, Nat.add_zero, bt_low8 t _ 1 (by omega), show 8 * pre.length + 1 + 1 = 8 * pre.length + 2 by omega, bt_low8 t _ 2 (by omega), b0]
    congr 2
    simp only [show (2 : Int) ^ 0 = 1 by decide, show (2 : Int) ^ 1 = 2 by decide, show (2 : Int) ^ 2 = 4 by decide]
    omega
  · unfold block
    rw [if_neg (by decide), if_pos rfl]
    unfold stored
    have e1 : (8 * pre.length + 1 + 2 + 7) / 8 * 8 = 8 * (pre.length + 1) := by omega
    have n1 : num t (8 * (pre.length + 1)) 16 = .ok ((p.length : Int), 8 * (pre.length + 1) + 16) := by
      unfold num
      rw [if_pos (by omega), tk_low16, show pre.length + 1 + 1 = pre.length + 2 by omega, b1, b2]
      congr 2
      omega
    have n2 : num t (8 * (pre.length + 1) + 16) 16 = .ok (65535 - (p.length : Int), 8 * (pre.length + 1) + 16 + 16) := by
      unfold num
      rw [if_pos (by omega), show 8 * (pre.length + 1) + 16 = 8 * (pre.length + 3) by omega, tk_low16, show pre.length + 3 + 1 = pre.length + 4 by omega, b3, b4]
      congr 2
      omega
    rw [e1, n1]
    dsimp only
    rw [n2]
    dsimp only
    rw [if_neg (fun hh => hh rfl), Int.toNat_natCast, if_neg (by omega), if_neg (by omega)]
    have hx : (t.extract ((8 * (pre.length + 1) + 16 + 16) / 8) ((8 * (pre.length + 1) + 16 + 16) / 8 + p.length)).data.toList = p := by
      rw [extract_list, ht, show (8 * (pre.length + 1) + 16 + 16) / 8 = pre.length + 5 by omega, Nat.add_sub_cancel_left]
      unfold blkS
      rw [List.append_assoc, ← List.append_assoc, List.drop_left' (by rw [List.length_append]; rfl), List.take_left' rfl]
    rw [hx]
    congr 2
    rw [List.length_append, blkS_len]
    omega
section
variable (L : List ByteArray)
end
def strs (L : List ByteArray) : List Value := L.map .string
def SV (w : World) (s : Slc) (L : List ByteArray) : Prop := s.len = L.length ∧ VRow w s 1 (strs L)
theorem SV.keep {w w' : World} {s : Slc} {L : List ByteArray} (h : SV w s L) (he : Ext (fun _ => False) w w') : SV w' s L := ⟨h.1, h.2.keep he⟩
theorem SV.get {w : World} {s : Slc} {L : List ByteArray} (h : SV w s L) {i : Nat} (hi : i < L.length) : ∃ a, s.p = some a ∧ w.cell? (a.add (i * 1)) = some (.string (L.getD i ⟨#[]⟩)) := by
  obtain ⟨a, ha, hc⟩ := h.2.2 i (.string (L.getD i ⟨#[]⟩)) (by
    unfold strs
    rw [List.getElem?_map, List.getElem?_eq_getElem hi, List.getD_eq_getElem?_getD, List.getElem?_eq_getElem hi]
    rfl)
  exact ⟨a, ha, by rw [Nat.mul_one]; exact hc⟩
theorem w8 {n : Nat} (h : n < 256) : IntKind.u8.wrap (n : Int) = ((UInt8.ofNat n).toNat : Int) := by rw [of_toNat h, u8_id (by omega)]
attribute [local irreducible] Ld St Nw Nn Lt LdS
end Inf
end Go.Proofs.YtjkoafjnmkchdaaGreatDoor

/- Deflate: stored, fixed and own blocks give their data back. Plain laws; conditions: a code's lengths, sizes. -/
namespace Go.Proofs.YtjkoafjnmkchdaaGreatDoor
namespace Inf
open Sh Bit Pm
set_option linter.unusedVariables false
set_option linter.unusedSimpArgs false
set_option maxRecDepth 4000
set_option maxHeartbeats 1000000
theorem Enc.all {H : List UInt8 → Prop} {near far : List Int} {p0 : Nat} (hc : chk near = 0) (hf : chk far = 0) : ∀ (l : List Prt) {st : WS} {out : List UInt8}, Enc H near far p0 st out → Fit l out → (∀ p ∈ l, Has near far p) → Enc H near far p0 (l.foldl (wP near far) st) (l.foldl addP out)
  | [], st, out, h, _, _ => h
  | p :: l, st, out, h, ⟨f1, f2, f3⟩, hh => Enc.all hc hf l (h.part hc hf f1 f2 (hh p (List.mem_cons_self ..))) f3 fun x hx => hh x (List.mem_cons_of_mem _ hx)
/-! ### A stored block -/
theorem stored_few {s : ByteArray} {p : Nat} {out o : List UInt8} {m m' q : Nat} (h : stored s p out m' = .ok (o, q)) (hm : m < o.length) : stored s p out m = .error 5 := by
  unfold stored at h ⊢
  cases h1 : num s ((p + 7) / 8 * 8) 16 with
  | error e => rw [h1] at h; cases h
  | ok z =>
    obtain ⟨n, p1⟩ := z
    rw [h1] at h
    dsimp only at h ⊢
    cases h2 : num s p1 16 with
    | error e => rw [h2] at h; cases h
    | ok z =>
      obtain ⟨mm, p2⟩ := z
      rw [h2] at h
      dsimp only at h ⊢
      by_cases c1 : mm ≠ 65535 - n
      · rw [if_pos c1] at h; cases h
      rw [if_neg c1] at h ⊢
      by_cases c2 : ¬ out.length + n.toNat ≤ m'
      · rw [if_pos c2] at h; cases h
      rw [if_neg c2] at h
      by_cases c3 : ¬ p2 / 8 + n.toNat ≤ s.size
      · rw [if_pos c3] at h; cases h
      rw [if_neg c3] at h
      cases h
      rw [List.length_append] at hm
      have e1 : (s.extract (p2 / 8) (p2 / 8 + n.toNat)).data.toList.length = (s.extract (p2 / 8) (p2 / 8 + n.toNat)).size := Array.length_toList
      rw [e1, ByteArray.size_extract] at hm
      rw [if_pos (by omega)]
theorem stored_gives (p : List UInt8) (hp : p.length ≤ 65535) : Gives (blkS 1 p) p := by
  have ht : (⟨(blkS 1 p).toArray⟩ : ByteArray).data.toList = [] ++ (blkS 1 p ++ []) := by simp
  have hlen := blkS_len 1 p
  have blk : ∀ most r, block ⟨(blkS 1 p).toArray⟩ most 0 [] 3 = r → allQ ⟨(blkS 1 p).toArray⟩ most (8 * (⟨(blkS 1 p).toArray⟩ : ByteArray).size + 1) [] 0 = match r with
      | .error e => .error e
      | .ok (o, q) => .ok (o, q) := fun most r hr => by
    obtain ⟨b1, b2, _⟩ := block_at (most := p.length) (out := []) ht (f := 1) (by decide) hp (by simp)
    unfold allQ
    rw [show num ⟨(blkS 1 p).toArray⟩ 0 1 = .ok (1, 1) from b1]
    dsimp only [bnd]
    rw [show num ⟨(blkS 1 p).toArray⟩ 1 2 = .ok (0, 3) from b2]
    dsimp only
    rw [hr]
    cases r with
    | error e => rfl
    | ok z =>
      obtain ⟨o, q⟩ := z
      dsimp only
      rw [if_pos rfl]
  intro most
  refine ⟨fun hm => ?_, fun hm => ?_⟩
  · obtain ⟨_, _, b3⟩ := block_at (most := most) (out := []) ht (f := 1) (by decide) hp (by simpa using hm)
    refine ⟨_, blk most _ b3, ?_⟩
    simp only [List.nil_append]
    omega
  · obtain ⟨_, _, b3⟩ := block_at (most := p.length) (out := []) ht (f := 1) (by decide) hp (by simp)
    have : block ⟨(blkS 1 p).toArray⟩ most 0 [] 3 = .error 5 := by
      have b3 : block ⟨(blkS 1 p).toArray⟩ p.length 0 [] 3 = _ := b3
      unfold block at b3 ⊢
      rw [if_neg (by decide), if_pos rfl] at b3 ⊢
      exact stored_few b3 (by simpa using hm)
    exact blk most _ this
/-! ### A block with the fixed codes -/
def stF : WS := lw (lw ([], 0) 1 1) 1 2
theorem fix_head : WOK 1 stF ∧ pos stF = 3 ∧ ∀ T : List UInt8, Agree 1 (pos stF) stF.1 T → pos stF ≤ 8 * T.length → num ⟨T.toArray⟩ 0 1 = .ok (1, 1) ∧ num ⟨T.toArray⟩ 1 2 = .ok (1, 3) := by
  have h0 : WOK 1 ([], 0) := WOK.zero 1 []
  have h1 := lw_ok h0 1 1
  have p0 : pos (([], 0) : WS) = 0 := rfl
  have p1 : pos (lw ([], 0) 1 1) = 1 := by rw [lw_pos h0, p0]
  refine ⟨lw_ok h1 1 2, by unfold stF; rw [lw_pos h1, p1], fun T ha hT => ?_⟩
  unfold stF at ha hT
  obtain ⟨a1, a2⟩ := lw_back h1 (v := 1) (n := 2) (by decide) ha
  obtain ⟨b1, b2⟩ := lw_back h0 (v := 1) (n := 1) (by decide) a1
  rw [lw_pos h1, p1] at hT
  rw [p1] at a2
  rw [p0] at b2
  exact ⟨b2 (by omega), a2 (by omega)⟩
theorem fix_has {p : Prt} (h : p.ok) : Has fixL fixD p := by
  unfold Has
  rw [fixL_len, fixD_len]
  by_cases hn : p.n = 0
  · rw [if_pos hn]
    have := p.b.toNat_lt
    have := fixL_get p.b.toNat (by omega)
    omega
  · rw [if_neg hn]
    rcases h with h | ⟨_, h3, h4, h5, h6⟩
    · exact absurd h.1 hn
    have a := (kL_spec h3 h4).1
    have b := (kD_spec h5 h6).1
    have := fixL_get (257 + kL p.n) (by omega)
    have := fixD_get (kD p.f) (by omega)
    omega
theorem Fit.ok {l : List Prt} : ∀ {out : List UInt8}, Fit l out → ∀ p ∈ l, p.ok := by
  induction l with
  | nil => intro out _ p hp; cases hp
  | cons q l ih =>
    intro out h p hp
    obtain ⟨h1, _, h3⟩ := h
    rcases List.mem_cons.1 hp with rfl | hp
    · exact h1
    · exact ih h3 p hp
/-- What is written with the fixed codes. -/
def fixO (l : List Prt) : List UInt8 := (cw fixL (l.foldl (wP fixL fixD) stF) 256).1
theorem fixed_gives {l : List Prt} (hf : Fit l []) : Gives (fixO l) (l.foldl addP []) := by
  obtain ⟨h1, h2, h3⟩ := fix_head
  have e := Enc.all chk_fixL chk_fixD l (Enc.zero (near := fixL) (far := fixD) h1 h3 h2.symm) hf fun p hp => fix_has (hf.ok p hp)
  refine e.fin (kind := 1) chk_fixL (by rw [fixL_len]; decide) (by have := fixL_get 256 (by decide); omega) rfl fun T hT => ⟨hT.1, hT.2, fun most => ?_⟩
  unfold block
  rw [if_neg (by decide), if_neg (by decide), if_neg (by decide)]
/-! ### A block with its own codes -/
/-- The lengths that are written, and the codes of which. -/
structure Own where
  a : List Int
  b : List Int
  c : List Int
def Own.na (o : Own) : Nat := cutN o.a 257 o.a.length
def Own.nb (o : Own) : Nat := cutN o.b 1 o.b.length
def Own.ni (o : Own) : Nat := cutN (inOrd o.c) 4 (inOrd o.c).length
def Own.all (o : Own) : List Int := o.a.take o.na ++ o.b.take o.nb
def Own.st1 (o : Own) : WS := lw (lw (lw (lw (lw ([], 0) 1 1) 2 2) (o.na - 257) 5) (o.nb - 1) 5) (o.ni - 4) 4
def Own.st2 (o : Own) : WS := (order.take o.ni).foldl (wO o.c) o.st1
def Own.st3 (o : Own) : WS := (marksS o.all).foldl (wM o.c) o.st2
def Own.T (o : Own) (l : List Prt) : List UInt8 := (cw o.a (l.foldl (wP o.a o.b) o.st3) 256).1
structure Own.ok (o : Own) : Prop where
  la : o.a.length = 286
  lb : o.b.length = 30
  lc : o.c.length = 19
  ca : chk o.a = 0
  cb : chk o.b = 0
  cc : chk o.c = 0
  a256 : 0 < o.a.getD 256 0
  c7 : ∀ i, 0 ≤ o.c.getD i 0 ∧ o.c.getD i 0 ≤ 7
  has : ∀ m ∈ marksS o.all, m.1 < 19 ∧ 0 < o.c.getD m.1 0
theorem Own.ta (o : Own) : Trail o.a o.na := Trail.cut o.a 257
theorem Own.tb (o : Own) : Trail o.b o.nb := Trail.cut o.b 1
theorem Own.tc (o : Own) : Trail (inOrd o.c) o.ni := Trail.cut (inOrd o.c) 4
section
variable {o : Own}
theorem Own.sizes (h : o.ok) : 257 ≤ o.na ∧ o.na ≤ 286 ∧ 1 ≤ o.nb ∧ o.nb ≤ 30 ∧ 4 ≤ o.ni ∧ o.ni ≤ 19 ∧ o.all.length = o.na + o.nb := by
  have hi : (inOrd o.c).length = 19 := by unfold inOrd; rw [List.length_map]; decide
  have a := cutN_spec o.a 257 o.a.length
  have b := cutN_spec o.b 1 o.b.length
  have c := cutN_spec (inOrd o.c) 4 (inOrd o.c).length
  have := h.la
  have := h.lb
  have a2 := a.2.1 (by omega)
  have b2 := b.2.1 (by omega)
  have c2 := c.2.1 (by omega)
  unfold Own.na Own.nb Own.ni
  refine ⟨a2, by omega, b2, by omega, c2, by omega, ?_⟩
  unfold Own.all Own.na Own.nb
  rw [List.length_append, List.length_take, List.length_take]
  omega
theorem Own.head (h : o.ok) : WOK 1 o.st1 ∧ pos o.st1 = 17 ∧ ∀ T : List UInt8, Agree 1 (pos o.st1) o.st1.1 T → 17 ≤ 8 * T.length → num ⟨T.toArray⟩ 0 1 = .ok (1, 1) ∧ num ⟨T.toArray⟩ 1 2 = .ok (2, 3) ∧ num ⟨T.toArray⟩ 3 5 = .ok (((o.na - 257 : Nat) : Int), 8) ∧
    num ⟨T.toArray⟩ 8 5 = .ok (((o.nb - 1 : Nat) : Int), 13) ∧ num ⟨T.toArray⟩ 13 4 = .ok (((o.ni - 4 : Nat) : Int), 17) := by
  obtain ⟨s1, s2, s3, s4, s5, s6, _⟩ := Own.sizes h
  have h0 : WOK 1 ([], 0) := WOK.zero 1 []
  have h1 := lw_ok h0 1 1
  have h2 := lw_ok h1 2 2
  have h3 := lw_ok h2 (o.na - 257) 5
  have h4 := lw_ok h3 (o.nb - 1) 5
  have p0 : pos (([], 0) : WS) = 0 := rfl
  have p1 : pos (lw ([], 0) 1 1) = 1 := by rw [lw_pos h0, p0]
  have p2 : pos (lw (lw ([], 0) 1 1) 2 2) = 3 := by rw [lw_pos h1, p1]
  have p3 : pos (lw (lw (lw ([], 0) 1 1) 2 2) (o.na - 257) 5) = 8 := by rw [lw_pos h2, p2]
  have p4 : pos (lw (lw (lw (lw ([], 0) 1 1) 2 2) (o.na - 257) 5) (o.nb - 1) 5) = 13 := by rw [lw_pos h3, p3]
  have p5 : pos o.st1 = 17 := by unfold Own.st1; rw [lw_pos h4, p4]
  refine ⟨lw_ok h4 _ _, p5, fun T ha hT => ?_⟩
  unfold Own.st1 at ha
  obtain ⟨e1, e2⟩ := lw_back h4 (v := o.ni - 4) (n := 4) (by show _ < 16; omega) ha
  obtain ⟨d1, d2⟩ := lw_back h3 (v := o.nb - 1) (n := 5) (by show _ < 32; omega) e1
  obtain ⟨c1, c2⟩ := lw_back h2 (v := o.na - 257) (n := 5) (by show _ < 32; omega) d1
  obtain ⟨b1, b2⟩ := lw_back h1 (v := 2) (n := 2) (by decide) c1
  obtain ⟨a1, a2⟩ := lw_back h0 (v := 1) (n := 1) (by decide) b1
  rw [p0] at a2
  rw [p1] at b2
  rw [p2] at c2
  rw [p3] at d2
  rw [p4] at e2
  exact ⟨a2 (by omega), b2 (by omega), c2 (by omega), d2 (by omega), e2 (by omega)⟩
/-- What the head of such a block tells. -/
def Own.H (o : Own) (T : List UInt8) : Prop := num ⟨T.toArray⟩ 0 1 = .ok (1, 1) ∧ num ⟨T.toArray⟩ 1 2 = .ok (2, 3) ∧ dyn ⟨T.toArray⟩ 3 = .ok (o.a.take o.na, o.b.take o.nb, pos o.st3)
theorem Own.read (h : o.ok) : WOK 1 o.st3 ∧ ∀ T : List UInt8, Agree 1 (pos o.st3) o.st3.1 T → pos o.st3 ≤ 8 * T.length → o.H T := by
  obtain ⟨s1, s2, s3, s4, s5, s6, s7⟩ := Own.sizes h
  obtain ⟨k1, k2, k3⟩ := Own.head h
  have hol : (order.take o.ni).length = o.ni := by rw [List.length_take]; show min o.ni 19 = _; omega
  have hall : ∀ i, 0 ≤ o.all.getD i 0 ∧ o.all.getD i 0 ≤ 15 := fun i => by
    unfold Own.all
    rw [List.getD_eq_getElem?_getD]
    by_cases hi : i < (o.a.take o.na).length
    · rw [List.getElem?_append_left hi, ← List.getD_eq_getElem?_getD, o.ta.take]
      exact (chk_lok h.ca).nn i
    · rw [List.getElem?_append_right (by omega), ← List.getD_eq_getElem?_getD, o.tb.take]
      exact (chk_lok h.cb).nn _
  obtain ⟨f1, f2⟩ := marksS_fit hall
  let H0 : List UInt8 → Prop := fun T => num ⟨T.toArray⟩ 0 1 = .ok (1, 1) ∧ num ⟨T.toArray⟩ 1 2 = .ok (2, 3) ∧ num ⟨T.toArray⟩ 3 5 = .ok (((o.na - 257 : Nat) : Int), 8) ∧
    num ⟨T.toArray⟩ 8 5 = .ok (((o.nb - 1 : Nat) : Int), 13) ∧ num ⟨T.toArray⟩ 13 4 = .ok (((o.ni - 4 : Nat) : Int), 17) ∧ lens19 ⟨T.toArray⟩ (order.take o.ni) (List.replicate 19 0) 17 = .ok (o.c, pos o.st2)
  have w2 := fun T l => wO_back h.c7 (order.take o.ni) (T := T) (l := l) k1
  have p2 : pos o.st2 = 17 + 3 * o.ni := by
    have := (w2 [] []).2.1
    rw [k2, hol] at this
    exact this
  have z : EncM H0 o.c o.all.length (pos o.st2) o.st2 [] := ⟨(w2 [] []).1, Nat.le_refl _, fun T ha hT => by
    obtain ⟨_, _, b⟩ := w2 T (List.replicate 19 0)
    obtain ⟨b1, b2⟩ := b ha
    obtain ⟨c1, c2, c3, c4, c5⟩ := k3 T b1 (by omega)
    rw [k2, hol] at b2
    have b3 := b2 (by omega)
    rw [ord_back h.lc o.tc, ← p2] at b3
    exact ⟨⟨c1, c2, c3, c4, c5, b3⟩, 0, by omega, Nat.le_refl _, fun k => rfl⟩⟩
  obtain ⟨e, el⟩ := EncM.all h.cc (marksS o.all) z f1 fun m hm => by rw [h.lc]; exact h.has m hm
  rw [f2] at e
  refine ⟨e.ok, fun T ha hT => ?_⟩
  obtain ⟨⟨c1, c2, c3, c4, c5, c6⟩, i, i1, i2, i3⟩ := e.dec T ha hT
  refine ⟨c1, c2, ?_⟩
  have hfuel := i3 (o.all.length + 1 - i)
  rw [show o.all.length + 1 - i + i = o.all.length + 1 by omega] at hfuel
  have hend : lensF o.c ⟨T.toArray⟩ o.all.length (o.all.length + 1 - i) o.all (pos o.st3) = .ok (o.all, pos o.st3) := by
    rw [show o.all.length + 1 - i = (o.all.length - i) + 1 by omega]
    unfold lensF
    rw [if_pos (Nat.le_refl _)]
  have e3 : (marksS o.all).foldl (wM o.c) o.st2 = o.st3 := rfl
  rw [e3, hend, s7] at hfuel
  unfold dyn
  rw [c3]
  dsimp only
  rw [if_neg (by omega), c4]
  dsimp only
  rw [if_neg (by omega), c5]
  dsimp only
  rw [Int.toNat_natCast, Int.toNat_natCast, Int.toNat_natCast, show o.ni - 4 + 4 = o.ni by omega, c6]
  dsimp only
  rw [if_neg (by rw [h.cc]; simp), show o.na - 257 + 257 = o.na by omega, show o.nb - 1 + 1 = o.nb by omega, hfuel]
  dsimp only
  have ta : (o.a.take o.na).length = o.na := by rw [List.length_take, h.la]; omega
  have tk : o.all.take o.na = o.a.take o.na := by unfold Own.all; exact List.take_left' ta
  have dr : o.all.drop o.na = o.b.take o.nb := by unfold Own.all; exact List.drop_left' ta
  have g256 : o.all.getD 256 0 = o.a.getD 256 0 := by
    unfold Own.all
    rw [List.getD_eq_getElem?_getD, List.getElem?_append_left (by omega), ← List.getD_eq_getElem?_getD, o.ta.take]
  have := h.a256
  have ha0 : chk (o.a.take o.na) = 0 := chk_take o.ta (by rw [h.la]; omega) h.ca
  have hb0 : chk (o.b.take o.nb) = 0 := chk_take o.tb (by rw [h.lb]; omega) h.cb
  rw [if_neg (by rw [g256]; omega), tk, dr, if_neg (by rw [ha0]; simp), if_neg (by rw [hb0]; simp)]
theorem own_gives (h : o.ok) {l : List Prt} (hf : Fit l []) (hh : ∀ p ∈ l, Has o.a o.b p) : Gives (o.T l) (l.foldl addP []) := by
  obtain ⟨r1, r2⟩ := Own.read h
  obtain ⟨s1, s2, s3, s4, s5, s6, s7⟩ := Own.sizes h
  have e := Enc.all h.ca h.cb l (Enc.zero (near := o.a) (far := o.b) r1 r2 rfl) hf hh
  refine e.fin (kind := 2) h.ca (by rw [h.la]; decide) h.a256 rfl fun T hT => ⟨hT.1, hT.2.1, fun most => ?_⟩
  unfold block
  rw [if_neg (by decide), if_neg (by decide), if_pos rfl, hT.2.2]
  dsimp only
  exact signs_congr (fun p => sym_take o.ta (by rw [h.la]; omega) _ p) (fun p => sym_take o.tb (by rw [h.lb]; omega) _ p) most _ _ _
end
/-! ### What is read of a text that gives its data -/
theorem Gives.allR {T out : List UInt8} (h : Gives T out) (hb : out.length ≤ 1048576) {most : Int} (hm : (out.length : Int) ≤ most) : allR ⟨T.toArray⟩ most = (⟨out.toArray⟩, (T.length : Int), 0) := by
  rw [allR_Q (by omega)]
  obtain ⟨q, h1, h2⟩ := (h (min most 1048576).toNat).1 (by omega)
  rw [h1]
  dsimp only
  rw [h2]
theorem Gives.few {T out : List UInt8} (h : Gives T out) (hb : out.length ≤ 1048576) {most : Int} (h0 : 0 ≤ most) (hm : most < (out.length : Int)) : Inf.allR ⟨T.toArray⟩ most = (⟨#[]⟩, 0, 5) := by
  rw [allR_Q h0, (h (min most 1048576).toNat).2 (by omega)]
end Inf
end Go.Proofs.YtjkoafjnmkchdaaGreatDoor

/- The formulas of 1 functions of the program, written by program (gen.py); the kernel checks each. No condition. -/
namespace Go.Proofs.YtjkoafjnmkchdaaGreatDoor
open Sh
set_option linter.unusedVariables false
set_option maxRecDepth 100000

def C67 (t1 : Option Addr) (vw2 : Option Addr) (sign3 : Int) (w : World) (R : Int → World → Prop) : Prop :=
  Calls Tryz.prog 67 #[.pointer t1, .pointer vw2, .int .i64 sign3] w fun e w' => ∃ r0 : Int, e = .returned (.int .i64 r0) ∧ R r0 w'
theorem C67.mono {t1 : Option Addr} {vw2 : Option Addr} {sign3 : Int} {w : World} {R R' : Int → World → Prop} (h : C67 t1 vw2 sign3 w R) (hr : ∀ r0 w', R r0 w' → R' r0 w') : C67 t1 vw2 sign3 w R' :=
  Calls.mono h fun _ _ ⟨r0, he, hR⟩ => ⟨r0, he, hr _ _ hR⟩

def S67L1 (t1 : Option Addr) (vw2 : Option Addr) (sign3 : Int) (R : Int → World → Prop) (I14 : Int → World → Prop) (s12 : Int) (vw13 : World) : Prop :=
  Br (decide (s12 ≥ 0)) (Nn t1 fun a15 =>
    Ld vw13 (a15.add 1) Slc.v fun (x16 : Slc) =>
    0 ≤ sign3 ∧ sign3 < (x16.len : Nat) ∧ Nn x16.p fun a17 =>
    Ld vw13 (a17.add ((sign3).toNat * 1)) (Value.int .i64) fun (x18 : Int) =>
    0 ≤ s12 ∧ C53 vw2 (iand .i64 (Int.fdiv x18 (2 ^ (min (s12).toNat 64))) 1) 1 vw13 fun r19 vw20 =>
      Br (r19 != 0) (R r19 vw20) (I14 (IntKind.i64.wrap (s12 - 1)) vw20)) (R 0 vw13)
/-- (*foliant/code.Table).Write -/
def S67 (t1 : Option Addr) (vw2 : Option Addr) (sign3 : Int) (w : World) (R : Int → World → Prop) : Prop :=
  Br t1.isNone (R 1 w) (Br vw2.isNone (R 1 w) (Br (decide (sign3 < 0)) (R 1 w) (Nn t1 fun a6 =>
        Ld w a6 Slc.v fun (x7 : Slc) =>
        Br (decide (sign3 ≥ ((x7.len : Nat) : Int))) (R 1 w) (Nn t1 fun a8 =>
          Ld w a8 Slc.v fun (x9 : Slc) =>
          0 ≤ sign3 ∧ sign3 < (x9.len : Nat) ∧ Nn x9.p fun a10 =>
          Ld w (a10.add ((sign3).toNat * 1)) (Value.int .i64) fun (x11 : Int) =>
          Br (x11 == 0) (R 13 w) (Lp (σ := Int) (S67L1 t1 vw2 sign3 R) (IntKind.i64.wrap (x11 - 1)) w)))))
def pl67 : Plan := (.seq (.reg .seq) (.seq (.seq (.reg .seq) (.cond (.seq (.reg .seq) .leaf) .leaf)) (.seq (.reg .seq) (.seq (.seq (.reg .seq) (.cond (.seq (.reg .seq) .leaf) .leaf)) (.seq (.seq (.reg .seq) (.block (.loop [(8, (.one (.int .i64)))] [0, 1, 2] (.seq (.seq (.reg .seq) (.cond .leaf .leaf)) (.seq (.block (.seq (.reg .seq) (.seq (.reg .seq) (.cond (.seq (.reg .seq) .leaf) .leaf)))) (.reg .seq)))))) (.seq (.reg .seq) .leaf))))))
set_option maxRecDepth 100000 in
theorem T67 (t1 : Option Addr) (vw2 : Option Addr) (sign3 : Int) (w : World) (R : Int → World → Prop) (h : S67 t1 vw2 sign3 w R) : C67 t1 vw2 sign3 w R := by
  have e : fnT Tryz.prog ⟨FF, MAY, (fun _ _ => False)⟩ pl67 Tryz.f67 [.pointer t1, .pointer vw2, .int .i64 sign3] w [(.one (.int .i64))] (fun s w => R s w) = S67 t1 vw2 sign3 w R := by kernel_rfl
  exact (fn_calls okF okM Tryz.func67 (by kernel_rfl) (by kernel_rfl) (e.mpr h)).mono fun _ _ ⟨s, he, hR⟩ => ⟨s, he, hR⟩

end Go.Proofs.YtjkoafjnmkchdaaGreatDoor

/- The formulas of 3 functions of the program, written by program (gen.py); the kernel checks each. No condition. -/
namespace Go.Proofs.YtjkoafjnmkchdaaGreatDoor
open Sh
set_option linter.unusedVariables false
set_option maxRecDepth 100000

def C114 (c1 : Option Addr) (w : World) (R : Int → World → Prop) : Prop :=
  Calls Tryz.prog 114 #[.pointer c1] w fun e w' => ∃ r0 : Int, e = .returned (.int .i64 r0) ∧ R r0 w'
theorem C114.mono {c1 : Option Addr} {w : World} {R R' : Int → World → Prop} (h : C114 c1 w R) (hr : ∀ r0 w', R r0 w' → R' r0 w') : C114 c1 w R' :=
  Calls.mono h fun _ _ ⟨r0, he, hR⟩ => ⟨r0, he, hr _ _ hR⟩
def C132 (x1 : Int) (w : World) (R : Bool → World → Prop) : Prop :=
  Calls Tryz.prog 132 #[.int .i64 x1] w fun e w' => ∃ r0 : Bool, e = .returned (.bool r0) ∧ R r0 w'
theorem C132.mono {x1 : Int} {w : World} {R R' : Bool → World → Prop} (h : C132 x1 w R) (hr : ∀ r0 w', R r0 w' → R' r0 w') : C132 x1 w R' :=
  Calls.mono h fun _ _ ⟨r0, he, hR⟩ => ⟨r0, he, hr _ _ hR⟩
def C127 (x1 : Int) (y2 : Int) (w : World) (R : Int → World → Prop) : Prop :=
  Calls Tryz.prog 127 #[.int .i64 x1, .int .i64 y2] w fun e w' => ∃ r0 : Int, e = .returned (.int .i64 r0) ∧ R r0 w'
theorem C127.mono {x1 : Int} {y2 : Int} {w : World} {R R' : Int → World → Prop} (h : C127 x1 y2 w R) (hr : ∀ r0 w', R r0 w' → R' r0 w') : C127 x1 y2 w R' :=
  Calls.mono h fun _ _ ⟨r0, he, hR⟩ => ⟨r0, he, hr _ _ hR⟩

/-- foliant/code.merged$1 -/
def S114 (c1 : Option Addr) (w : World) (R : Int → World → Prop) : Prop :=
  Nn c1 fun a2 =>
  Ld w a2 (Value.int .i64) fun (x3 : Int) =>
  R x3 w
def pl114 : Plan := (.seq (.reg .seq) (.seq (.reg .seq) .leaf))
set_option maxRecDepth 100000 in
theorem T114 (c1 : Option Addr) (w : World) (R : Int → World → Prop) (h : S114 c1 w R) : C114 c1 w R := by
  have e : fnT Tryz.prog ⟨FF, MAY, (fun _ _ => False)⟩ pl114 Tryz.f114 [.pointer c1] w [(.one (.int .i64))] (fun s w => R s w) = S114 c1 w R := by kernel_rfl
  exact (fn_calls okF okM Tryz.func114 (by kernel_rfl) (by kernel_rfl) (e.mpr h)).mono fun _ _ ⟨s, he, hR⟩ => ⟨s, he, hR⟩

/-- cmp.isNaN[int] -/
def S132 (x1 : Int) (w : World) (R : Bool → World → Prop) : Prop :=
  R (x1 != x1) w
def pl132 : Plan := (.seq (.reg .seq) (.seq (.reg .seq) .leaf))
set_option maxRecDepth 100000 in
theorem T132 (x1 : Int) (w : World) (R : Bool → World → Prop) (h : S132 x1 w R) : C132 x1 w R := by
  have e : fnT Tryz.prog ⟨FF, MAY, (fun _ _ => False)⟩ pl132 Tryz.f132 [.int .i64 x1] w [(.one .bool)] (fun s w => R s w) = S132 x1 w R := by kernel_rfl
  exact (fn_calls okF okM Tryz.func132 (by kernel_rfl) (by kernel_rfl) (e.mpr h)).mono fun _ _ ⟨s, he, hR⟩ => ⟨s, he, hR⟩

/-- cmp.Compare[int] -/
def S127 (x1 : Int) (y2 : Int) (w : World) (R : Int → World → Prop) : Prop :=
  C132 x1 w fun r3 vw4 =>
    C132 y2 vw4 fun r5 vw6 =>
      Br r3 (Br r5 (R 0 vw6) (R (-1) vw6)) (Br r5 (R 1 vw6) (Br (decide (x1 < y2)) (R (-1) vw6) (Br (decide (x1 > y2)) (R 1 vw6) (R 0 vw6))))
def pl127 : Plan := (.seq (.reg .seq) (.seq (.reg .seq) (.seq (.reg .seq) (.seq (.seq (.reg .seq) (.cond (.seq (.seq (.reg .seq) (.cond (.seq (.reg .seq) .leaf) .leaf)) (.seq (.reg .seq) .leaf)) .leaf)) (.seq (.seq (.reg .seq) (.cond (.seq (.reg .seq) .leaf) .leaf)) (.seq (.seq (.reg .seq) (.cond (.seq (.reg .seq) .leaf) .leaf)) (.seq (.seq (.reg .seq) (.cond (.seq (.reg .seq) .leaf) .leaf)) (.seq (.reg .seq) .leaf))))))))
set_option maxRecDepth 100000 in
theorem T127 (x1 : Int) (y2 : Int) (w : World) (R : Int → World → Prop) (h : S127 x1 y2 w R) : C127 x1 y2 w R := by
  have e : fnT Tryz.prog ⟨FF, MAY, (fun _ _ => False)⟩ pl127 Tryz.f127 [.int .i64 x1, .int .i64 y2] w [(.one (.int .i64))] (fun s w => R s w) = S127 x1 y2 w R := by kernel_rfl
  exact (fn_calls okF okM Tryz.func127 (by kernel_rfl) (by kernel_rfl) (e.mpr h)).mono fun _ _ ⟨s, he, hR⟩ => ⟨s, he, hR⟩

end Go.Proofs.YtjkoafjnmkchdaaGreatDoor

/- The closure that compares two coins by their weights (it calls a function that it loads). Condition: the loaded function is the one known. -/
namespace Go.Proofs.YtjkoafjnmkchdaaGreatDoor
open Sh
set_option linter.unusedVariables false
set_option maxRecDepth 100000
def wfn : Value := .func (.func 114) #[] #[]
def C126 (x : Option Addr) (y : Option Addr) (c : Addr) (w : World) (R : Int → World → Prop) : Prop :=
  Calls Tryz.prog 126 #[.pointer x, .pointer y, .pointer (some c)] w fun e w' => ∃ r0 : Int, e = .returned (.int .i64 r0) ∧ R r0 w'
theorem C126.mono {x : Option Addr} {y : Option Addr} {c : Addr} {w : World} {R R' : Int → World → Prop} (h : C126 x y c w R) (hr : ∀ r0 w', R r0 w' → R' r0 w') : C126 x y c w R' :=
  Calls.mono h fun _ _ ⟨r0, he, hR⟩ => ⟨r0, he, hr _ _ hR⟩
/-- A load whose value is known. -/
theorem take_load {P : Program} {F : Fx} {ops : Array Oper} {i : Nat} {r : Od} {J : List Nat} {S : World → Prop} {listed : Array Bool} {E : Env} {w : World} {K : Env → World → Prop} {o : Oper} {t : TypeId} {x : Operand} {a : Addr} {v : Value} {d : TypeDesc} {n : Nat}
    (ho : ops[i]? = some o) (hop : o.op = .load t x) (hg : o.guard = none) (hc : ((Region.free .any ops listed i && (Region.ready .any ops listed).contains i) && (!isLoad o.op || J.all fun j => anc ops j i)) = true) (hh : (hasAll E o.op && stillOp P o.op) = true)
    (hx : E.rho x = .pointer (some a)) (hd : P.underlying t = some d) (hn : szOf P t = some n) (ha : isAggD (some d) = false) (hraw : tyD d = .raw) (hS : ∀ w, S w → w.cell? a = some v)
    (k : heldT P F ops r [] J S (listed.setIfInBounds i true) (E.put o.dst v) w K) : heldT P F ops (.take i r) [] J S listed E w K := by
  unfold heldT
  rw [ho]
  have hc' : (([] : List Nat).isEmpty && (Region.free .any ops listed i && (Region.ready .any ops listed).contains i) && (!isLoad o.op || J.all fun j => anc ops j i)) = true := by
    rw [List.isEmpty_nil, Bool.true_and]; exact hc
  dsimp only
  rw [hc']
  dsimp only
  unfold gdT
  rw [hg]
  dsimp only
  rw [hh]
  dsimp only
  unfold opQ
  rw [hop]
  dsimp only
  unfold ldQ
  rw [hx]
  dsimp only
  rw [hd, hn]
  dsimp only
  rw [ha]
  dsimp only
  rw [hraw]
  exact ⟨v, hS, k⟩
def opsB : Option Code → Array Oper
  | some (.seq _ (.seq (.region _ ops _) _)) => ops
  | _ => #[]
def odCmp : Od := .take 0 (.take 3 (.take 1 (.take 4 (.eff 2 none (.eff 5 none (.eff 6 (some []) (.take 7 .done)))))))
def plCmp : Plan := .seq (.reg .seq) (.seq (.reg (.held [6] odCmp)) .leaf)
theorem phT_of {S : World → Prop} {w : World} {k : (World → Prop) → Prop} (h : S w) (hk : k S) : phT true w k := ⟨S, h, hk⟩
theorem T126 (x y : Option Addr) (c : Addr) (w : World) (R : Int → World → Prop) (hc : w.cell? c = some wfn)
    (h : C114 x w.drew fun r8 w1 => w1.cell? c = some wfn ∧ C114 y w1 fun r11 w2 => w2.cell? c = some wfn ∧ C127 r8 r11 w2 fun r w3 => R r w3) : C126 x y c w R := by
  have e : fnT Tryz.prog ⟨FF, MAY, (fun _ _ => False)⟩ plCmp Tryz.f126 [.pointer x, .pointer y, .pointer (some c)] w [(.one (.int .i64))] (fun s w => R s w) = phT true w.drew fun S => heldT Tryz.prog ⟨FF, MAY, (fun _ _ => False)⟩ (opsB Tryz.f126.body) odCmp [] [6] S (Array.replicate 8 false) [(5, .int .i64 0), (0, .pointer x), (1, .pointer y), (2, .pointer (some c))] w.drew fun E w => codeT Tryz.prog ⟨FF, MAY, (fun _ _ => False)⟩ .leaf .ret E w fun e E w => match e with
      | .ret => resT Tryz.prog Tryz.f126.results.toList E w fun vs => match Sg.get? [(.one (.int .i64))] vs with
        | some s => R s w
        | none => False
      | .normal => resT Tryz.prog Tryz.f126.results.toList E w fun vs => match Sg.get? [(.one (.int .i64))] vs with
        | some s => R s w
        | none => False
      | _ => False := by kernel_rfl
  refine (fn_calls okF okM Tryz.func126 (by kernel_rfl) (by kernel_rfl) (e.mpr (phT_of (S := fun w' => w'.cell? c = some wfn) hc ?_))).mono fun _ _ ⟨s, he, hR⟩ => ⟨s, he, hR⟩
  refine take_load (i := 0) (d := (Tryz.prog.underlying 168).get!) (n := 1) (t := 168) (x := .tmp 2) (o := (opsB Tryz.f126.body)[0]!) (by kernel_rfl) (by kernel_rfl) (by kernel_rfl) (by kernel_rfl) (by kernel_rfl) (a := c) (by kernel_rfl) (by kernel_rfl) (by kernel_rfl) (by kernel_rfl) (by kernel_rfl) (fun _ h => h) ?_
  refine take_load (i := 3) (d := (Tryz.prog.underlying 168).get!) (n := 1) (t := 168) (x := .tmp 2) (o := (opsB Tryz.f126.body)[3]!) (by kernel_rfl) (by kernel_rfl) (by kernel_rfl) (by kernel_rfl) (by kernel_rfl) (a := c) (by kernel_rfl) (by kernel_rfl) (by kernel_rfl) (by kernel_rfl) (by kernel_rfl) (fun _ h => h) ?_
  refine Eq.mpr ?_ h
  kernel_rfl
end Go.Proofs.YtjkoafjnmkchdaaGreatDoor

/- The formulas of 14 functions of the program, written by program (gen.py); the kernel checks each. No condition. -/
namespace Go.Proofs.YtjkoafjnmkchdaaGreatDoor
open Sh
set_option linter.unusedVariables false
set_option maxRecDepth 100000

def C130 (s1 : Slc) (n2 : Int) (w : World) (R : Slc → World → Prop) (PR : Value → World → Prop) : Prop :=
  Calls Tryz.prog 130 #[Slc.v s1, .int .i64 n2] w fun e w' => (∃ r0 : Slc, e = .returned (Slc.v r0) ∧ R r0 w') ∨ ∃ v, e = .panicked (onePanic v) ∧ PR v w'
theorem C130.mono {s1 : Slc} {n2 : Int} {w : World} {R R' : Slc → World → Prop} {PR PR' : Value → World → Prop} (h : C130 s1 n2 w R PR) (hr : ∀ r0 w', R r0 w' → R' r0 w') (hp : ∀ v w', PR v w' → PR' v w') : C130 s1 n2 w R' PR' :=
  Calls.mono h fun _ _ he => he.elim (fun ⟨r0, he, hR⟩ => .inl ⟨r0, he, hr _ _ hR⟩) fun ⟨v, he, hP⟩ => .inr ⟨v, he, hp _ _ hP⟩
def C124 (slices1 : Slc) (w : World) (R : Slc → World → Prop) (PR : Value → World → Prop) : Prop :=
  Calls Tryz.prog 124 #[Slc.v slices1] w fun e w' => (∃ r0 : Slc, e = .returned (Slc.v r0) ∧ R r0 w') ∨ ∃ v, e = .panicked (onePanic v) ∧ PR v w'
theorem C124.mono {slices1 : Slc} {w : World} {R R' : Slc → World → Prop} {PR PR' : Value → World → Prop} (h : C124 slices1 w R PR) (hr : ∀ r0 w', R r0 w' → R' r0 w') (hp : ∀ v w', PR v w' → PR' v w') : C124 slices1 w R' PR' :=
  Calls.mono h fun _ _ he => he.elim (fun ⟨r0, he, hR⟩ => .inl ⟨r0, he, hr _ _ hR⟩) fun ⟨v, he, hP⟩ => .inr ⟨v, he, hp _ _ hP⟩
def C133 (data1 : Slc) (a2 : Int) (b3 : Int) (cmp4 : Value) (w : World) (R : World → Prop) : Prop :=
  Calls Tryz.prog 133 #[Slc.v data1, .int .i64 a2, .int .i64 b3, cmp4] w fun e w' => e = .returned (.tuple #[]) ∧ R w'
theorem C133.mono {data1 : Slc} {a2 : Int} {b3 : Int} {cmp4 : Value} {w : World} {R R' : World → Prop} (h : C133 data1 a2 b3 cmp4 w R) (hr : ∀ w', R w' → R' w') : C133 data1 a2 b3 cmp4 w R' :=
  Calls.mono h fun _ _ ⟨he, hR⟩ => ⟨he, hr _ hR⟩
def C136 (data1 : Slc) (a2 : Int) (b3 : Int) (n4 : Int) (cmp5 : Value) (w : World) (R : World → Prop) : Prop :=
  Calls Tryz.prog 136 #[Slc.v data1, .int .i64 a2, .int .i64 b3, .int .i64 n4, cmp5] w fun e w' => e = .returned (.tuple #[]) ∧ R w'
theorem C136.mono {data1 : Slc} {a2 : Int} {b3 : Int} {n4 : Int} {cmp5 : Value} {w : World} {R R' : World → Prop} (h : C136 data1 a2 b3 n4 cmp5 w R) (hr : ∀ w', R w' → R' w') : C136 data1 a2 b3 n4 cmp5 w R' :=
  Calls.mono h fun _ _ ⟨he, hR⟩ => ⟨he, hr _ hR⟩
def C135 (data1 : Slc) (a2 : Int) (m3 : Int) (b4 : Int) (cmp5 : Value) (w : World) (R : World → Prop) : Prop :=
  Calls Tryz.prog 135 #[Slc.v data1, .int .i64 a2, .int .i64 m3, .int .i64 b4, cmp5] w fun e w' => e = .returned (.tuple #[]) ∧ R w'
theorem C135.mono {data1 : Slc} {a2 : Int} {m3 : Int} {b4 : Int} {cmp5 : Value} {w : World} {R R' : World → Prop} (h : C135 data1 a2 m3 b4 cmp5 w R) (hr : ∀ w', R w' → R' w') : C135 data1 a2 m3 b4 cmp5 w R' :=
  Calls.mono h fun _ _ ⟨he, hR⟩ => ⟨he, hr _ hR⟩
def C134 (data1 : Slc) (a2 : Int) (m3 : Int) (b4 : Int) (cmp5 : Value) (w : World) (R : World → Prop) : Prop :=
  Calls Tryz.prog 134 #[Slc.v data1, .int .i64 a2, .int .i64 m3, .int .i64 b4, cmp5] w fun e w' => e = .returned (.tuple #[]) ∧ R w'
theorem C134.mono {data1 : Slc} {a2 : Int} {m3 : Int} {b4 : Int} {cmp5 : Value} {w : World} {R R' : World → Prop} (h : C134 data1 a2 m3 b4 cmp5 w R) (hr : ∀ w', R w' → R' w') : C134 data1 a2 m3 b4 cmp5 w R' :=
  Calls.mono h fun _ _ ⟨he, hR⟩ => ⟨he, hr _ hR⟩
def C131 (data1 : Slc) (n2 : Int) (cmp3 : Value) (w : World) (R : World → Prop) : Prop :=
  Calls Tryz.prog 131 #[Slc.v data1, .int .i64 n2, cmp3] w fun e w' => e = .returned (.tuple #[]) ∧ R w'
theorem C131.mono {data1 : Slc} {n2 : Int} {cmp3 : Value} {w : World} {R R' : World → Prop} (h : C131 data1 n2 cmp3 w R) (hr : ∀ w', R w' → R' w') : C131 data1 n2 cmp3 w R' :=
  Calls.mono h fun _ _ ⟨he, hR⟩ => ⟨he, hr _ hR⟩
def C125 (x1 : Slc) (cmp2 : Value) (w : World) (R : World → Prop) : Prop :=
  Calls Tryz.prog 125 #[Slc.v x1, cmp2] w fun e w' => e = .returned (.tuple #[]) ∧ R w'
theorem C125.mono {x1 : Slc} {cmp2 : Value} {w : World} {R R' : World → Prop} (h : C125 x1 cmp2 w R) (hr : ∀ w', R w' → R' w') : C125 x1 cmp2 w R' :=
  Calls.mono h fun _ _ ⟨he, hR⟩ => ⟨he, hr _ hR⟩
def C113 (a1 : Slc) (b2 : Slc) (weight3 : Value) (w : World) (R : Slc → World → Prop) (PR : Value → World → Prop) : Prop :=
  Calls Tryz.prog 113 #[Slc.v a1, Slc.v b2, weight3] w fun e w' => (∃ r0 : Slc, e = .returned (Slc.v r0) ∧ R r0 w') ∨ ∃ v, e = .panicked (onePanic v) ∧ PR v w'
theorem C113.mono {a1 : Slc} {b2 : Slc} {weight3 : Value} {w : World} {R R' : Slc → World → Prop} {PR PR' : Value → World → Prop} (h : C113 a1 b2 weight3 w R PR) (hr : ∀ r0 w', R r0 w' → R' r0 w') (hp : ∀ v w', PR v w' → PR' v w') : C113 a1 b2 weight3 w R' PR' :=
  Calls.mono h fun _ _ he => he.elim (fun ⟨r0, he, hR⟩ => .inl ⟨r0, he, hr _ _ hR⟩) fun ⟨v, he, hP⟩ => .inr ⟨v, he, hp _ _ hP⟩
def C95 (a1 : Slc) (b2 : Slc) (w : World) (R : Slc → World → Prop) (PR : Value → World → Prop) : Prop :=
  Calls Tryz.prog 95 #[Slc.v a1, Slc.v b2] w fun e w' => (∃ r0 : Slc, e = .returned (Slc.v r0) ∧ R r0 w') ∨ ∃ v, e = .panicked (onePanic v) ∧ PR v w'
theorem C95.mono {a1 : Slc} {b2 : Slc} {w : World} {R R' : Slc → World → Prop} {PR PR' : Value → World → Prop} (h : C95 a1 b2 w R PR) (hr : ∀ r0 w', R r0 w' → R' r0 w') (hp : ∀ v w', PR v w' → PR' v w') : C95 a1 b2 w R' PR' :=
  Calls.mono h fun _ _ he => he.elim (fun ⟨r0, he, hR⟩ => .inl ⟨r0, he, hr _ _ hR⟩) fun ⟨v, he, hP⟩ => .inr ⟨v, he, hp _ _ hP⟩
def C96 (l1 : Slc) (w : World) (R : Slc → World → Prop) : Prop :=
  Calls Tryz.prog 96 #[Slc.v l1] w fun e w' => ∃ r0 : Slc, e = .returned (Slc.v r0) ∧ R r0 w'
theorem C96.mono {l1 : Slc} {w : World} {R R' : Slc → World → Prop} (h : C96 l1 w R) (hr : ∀ r0 w', R r0 w' → R' r0 w') : C96 l1 w R' :=
  Calls.mono h fun _ _ ⟨r0, he, hR⟩ => ⟨r0, he, hr _ _ hR⟩
def C98 (sign1 : Int) (c2 : Addr) (w : World) (R : World → Prop) : Prop :=
  Calls Tryz.prog 98 #[.int .i64 sign1, .pointer (some c2)] w fun e w' => e = .returned (.tuple #[]) ∧ R w'
theorem C98.mono {sign1 : Int} {c2 : Addr} {w : World} {R R' : World → Prop} (h : C98 sign1 c2 w R) (hr : ∀ w', R w' → R' w') : C98 sign1 c2 w R' :=
  Calls.mono h fun _ _ ⟨he, hR⟩ => ⟨he, hr _ hR⟩
def C97 (c1 : Option Addr) (tell2 : Value) (w : World) (R : World → Prop) : Prop :=
  Calls Tryz.prog 97 #[.pointer c1, tell2] w fun e w' => e = .returned (.tuple #[]) ∧ R w'
theorem C97.mono {c1 : Option Addr} {tell2 : Value} {w : World} {R R' : World → Prop} (h : C97 c1 tell2 w R) (hr : ∀ w', R w' → R' w') : C97 c1 tell2 w R' :=
  Calls.mono h fun _ _ ⟨he, hR⟩ => ⟨he, hr _ hR⟩
def C63 (counts1 : Slc) (most2 : Int) (w : World) (R : Slc → Int → World → Prop) (PR : Value → World → Prop) : Prop :=
  Calls Tryz.prog 63 #[Slc.v counts1, .int .i64 most2] w fun e w' => (∃ r0 : Slc, ∃ r1 : Int, e = .returned (.tuple #[Slc.v r0, .int .i64 r1]) ∧ R r0 r1 w') ∨ ∃ v, e = .panicked (onePanic v) ∧ PR v w'
theorem C63.mono {counts1 : Slc} {most2 : Int} {w : World} {R R' : Slc → Int → World → Prop} {PR PR' : Value → World → Prop} (h : C63 counts1 most2 w R PR) (hr : ∀ r0 r1 w', R r0 r1 w' → R' r0 r1 w') (hp : ∀ v w', PR v w' → PR' v w') : C63 counts1 most2 w R' PR' :=
  Calls.mono h fun _ _ he => he.elim (fun ⟨r0, r1, he, hR⟩ => .inl ⟨r0, r1, he, hr _ _ _ hR⟩) fun ⟨v, he, hP⟩ => .inr ⟨v, he, hp _ _ hP⟩

/-- slices.Grow[[]*foliant/code.coin,*foliant/code.coin] -/
def S130 (s1 : Slc) (n2 : Int) (w : World) (R : Slc → World → Prop) (PR : Value → World → Prop) : Prop :=
  Br (decide (n2 < 0)) (PR (.iface 9 (.string ((⟨#[99, 97, 110, 110, 111, 116, 32, 98, 101, 32, 110, 101, 103, 97, 116, 105, 118, 101]⟩ : ByteArray)))) w) (Lt (IntKind.i64.wrap (n2 - (IntKind.i64.wrap (((s1.cap : Nat) : Int) - ((s1.len : Nat) : Int))))) fun (x3 : Int) =>
    Br (decide (x3 > 0)) (0 ≤ ((s1.cap : Nat) : Int) ∧ ((s1.cap : Nat) : Int) ≤ ((s1.cap : Nat) : Int) ∧ Rn Tryz.prog (Builtin.append_ #[143, 3] 143 #[Slc.v (s1.cut 1 0 ((((s1.cap : Nat) : Int)).toNat) s1.cap), .int .i64 x3]) w Slc.v fun (x4 : Slc) vw5 =>
      0 ≤ ((s1.len : Nat) : Int) ∧ ((s1.len : Nat) : Int) ≤ ((x4.cap : Nat) : Int) ∧ R (x4.cut 1 0 ((((s1.len : Nat) : Int)).toNat) x4.cap) vw5) (R s1 w))
def pl130 : Plan := (.seq (.reg .seq) (.seq (.seq (.reg .seq) (.cond (.reg .seq) .leaf)) (.seq (.seq (.reg .seq) (.seq (.reg .seq) (.cond (.reg .seq) .leaf))) (.seq (.reg .seq) .leaf))))
set_option maxRecDepth 100000 in
theorem T130 (s1 : Slc) (n2 : Int) (w : World) (R : Slc → World → Prop) (PR : Value → World → Prop) (h : S130 s1 n2 w R PR) : C130 s1 n2 w R PR := by
  have e : fnT Tryz.prog ⟨FF, MAY, PR⟩ pl130 Tryz.f130 [Slc.v s1, .int .i64 n2] w [(.one .slc)] (fun s w => R s w) = S130 s1 n2 w R PR := by kernel_rfl
  exact (fn_callsP okF okM Tryz.func130 (by kernel_rfl) (by kernel_rfl) (e.mpr h)).mono fun _ _ he => he.elim (fun ⟨s, he, hR⟩ => .inl ⟨s, he, hR⟩) .inr

def S124L1 (slices1 : Slc) (R : Slc → World → Prop) (I16 : (Slc × Int) → World → Prop) (s14 : Slc × Int) (vw15 : World) : Prop :=
  Br (decide (s14.2 < ((slices1.len : Nat) : Int))) (0 ≤ s14.2 ∧ s14.2 < (slices1.len : Nat) ∧ Nn slices1.p fun a17 =>
    Ld vw15 (a17.add ((s14.2).toNat * 1)) Slc.v fun (x18 : Slc) =>
    Rn Tryz.prog (Builtin.append_ #[143, 143] 143 #[Slc.v s14.1, Slc.v x18]) vw15 Slc.v fun (x19 : Slc) vw20 =>
    I16 (x19, IntKind.i64.wrap (s14.2 + 1)) vw20) (R s14.1 vw15)
def S124L2 (slices1 : Slc) (R : Slc → World → Prop) (PR : Value → World → Prop) (I9 : (Int × Int) → World → Prop) (s7 : Int × Int) (vw8 : World) : Prop :=
  Br (decide (s7.2 < ((slices1.len : Nat) : Int))) (0 ≤ s7.2 ∧ s7.2 < (slices1.len : Nat) ∧ Nn slices1.p fun a10 =>
    Ld vw8 (a10.add ((s7.2).toNat * 1)) Slc.v fun (x11 : Slc) =>
    Br (decide ((IntKind.i64.wrap (s7.1 + ((x11.len : Nat) : Int))) < 0)) (PR (.iface 9 (.string ((⟨#[108, 101, 110, 32, 111, 117, 116, 32, 111, 102, 32, 114, 97, 110, 103, 101]⟩ : ByteArray)))) vw8) (I9 (IntKind.i64.wrap (s7.1 + ((x11.len : Nat) : Int)), IntKind.i64.wrap (s7.2 + 1)) vw8)) (C130 (⟨none, 0, 0⟩ : Slc) s7.1 vw8 (fun r12 vw13 =>
      Lp (σ := Slc × Int) (S124L1 slices1 R) (r12, 0) vw13) PR)
/-- slices.Concat[[]*foliant/code.coin,*foliant/code.coin] -/
def S124 (slices1 : Slc) (w : World) (R : Slc → World → Prop) (PR : Value → World → Prop) : Prop :=
  Lp (σ := Int × Int) (S124L2 slices1 R PR) (0, 0) w
def pl124 : Plan := (.seq (.reg .seq) (.seq (.reg .seq) (.seq (.seq (.reg .seq) (.block (.loop [(3, (.one (.int .i64))), (11, (.one (.int .i64)))] [0, 9, 10] (.seq (.reg .seq) (.seq (.cond .leaf .leaf) (.seq (.block (.seq (.reg .seq) (.seq (.reg .seq) (.seq (.reg .seq) (.cond (.reg .seq) .leaf))))) (.reg .seq))))))) (.seq (.reg .seq) (.seq (.seq (.reg .seq) (.block (.loop [(6, (.one .slc)), (27, (.one (.int .i64)))] [25, 26] (.seq (.reg .seq) (.seq (.cond .leaf .leaf) (.seq (.block (.seq (.reg .seq) (.reg .seq))) (.reg .seq))))))) (.seq (.reg .seq) .leaf))))))
set_option maxRecDepth 100000 in
theorem T124 (slices1 : Slc) (w : World) (R : Slc → World → Prop) (PR : Value → World → Prop) (h : S124 slices1 w R PR) : C124 slices1 w R PR := by
  have e : fnT Tryz.prog ⟨FF, MAY, PR⟩ pl124 Tryz.f124 [Slc.v slices1] w [(.one .slc)] (fun s w => R s w) = S124 slices1 w R PR := by kernel_rfl
  exact (fn_callsP okF okM Tryz.func124 (by kernel_rfl) (by kernel_rfl) (e.mpr h)).mono fun _ _ he => he.elim (fun ⟨s, he, hR⟩ => .inl ⟨s, he, hR⟩) .inr

def S133_F126L1 (data1 : Slc) (a2 : Int) (c5 : Addr) (s6 : Int) (I8 : Int → World → Prop) (I11 : Int → World → Prop) (s9 : Int) (vw10 : World) : Prop :=
  Br (decide (s9 > a2)) (0 ≤ s9 ∧ s9 < (data1.len : Nat) ∧ Nn data1.p fun a18 =>
    Ld vw10.drew (a18.add ((s9).toNat * 1)) Value.pointer fun (x19 : Option Addr) =>
    0 ≤ (IntKind.i64.wrap (s9 - 1)) ∧ (IntKind.i64.wrap (s9 - 1)) < (data1.len : Nat) ∧ Nn data1.p fun a20 =>
    Ld vw10.drew (a20.add ((IntKind.i64.wrap (s9 - 1)).toNat * 1)) Value.pointer fun (x21 : Option Addr) =>
    C126 x19 x21 c5 vw10.drew fun r22 vw23 =>
      Br (decide (r22 < 0)) (∃ vS24 : World → Prop, vS24 vw23.drew ∧ 0 ≤ (IntKind.i64.wrap (s9 - 1)) ∧ (IntKind.i64.wrap (s9 - 1)) < (data1.len : Nat) ∧ Nn data1.p fun a25 =>
        LdS vS24 (a25.add ((IntKind.i64.wrap (s9 - 1)).toNat * 1)) Value.pointer fun (x26 : Option Addr) =>
        0 ≤ s9 ∧ s9 < (data1.len : Nat) ∧ Nn data1.p fun a27 =>
        LdS vS24 (a27.add ((s9).toNat * 1)) Value.pointer fun (x28 : Option Addr) =>
        0 ≤ s9 ∧ s9 < (data1.len : Nat) ∧ Nn data1.p fun a29 =>
        St vw23.drew (a29.add ((s9).toNat * 1)) (.pointer x26) fun vw30 =>
        0 ≤ (IntKind.i64.wrap (s9 - 1)) ∧ (IntKind.i64.wrap (s9 - 1)) < (data1.len : Nat) ∧ Nn data1.p fun a31 =>
        St vw30 (a31.add ((IntKind.i64.wrap (s9 - 1)).toNat * 1)) (.pointer x28) fun vw32 =>
        I11 (IntKind.i64.wrap (s9 - 1)) vw32) (I8 (IntKind.i64.wrap (s6 + 1)) vw23)) (I8 (IntKind.i64.wrap (s6 + 1)) vw10.drew)
def S133_F126L2 (data1 : Slc) (a2 : Int) (b3 : Int) (c5 : Addr) (R : World → Prop) (I8 : Int → World → Prop) (s6 : Int) (vw7 : World) : Prop :=
  Br (decide (s6 < b3)) (Lp (σ := Int) (S133_F126L1 data1 a2 c5 s6 I8) s6 vw7) (R vw7)
/-- slices.insertionSortCmpFunc[*foliant/code.coin] -/
def S133_F126 (data1 : Slc) (a2 : Int) (b3 : Int) (c5 : Addr) (w : World) (R : World → Prop) : Prop :=
  Lp (σ := Int) (S133_F126L2 data1 a2 b3 c5 R) (IntKind.i64.wrap (a2 + 1)) w
def pl133_F126 : Plan := (.seq (.reg .seq) (.block (.loop [(8, (.one (.int .i64)))] [0, 1, 2, 3] (.seq (.seq (.reg .seq) (.cond .leaf .leaf)) (.seq (.block (.seq (.reg .seq) (.block (.loop [(9, (.one (.int .i64)))] [0, 1, 2, 3, 8] (.seq (.seq (.reg (.tail 14)) (.cond .leaf .leaf)) (.seq (.block (.reg (.held [15] (.take 0 (.take 1 (.take 2 (.take 3 (.take 4 (.take 5 (.take 6 (.take 7 (.take 8 (.take 9 (.take 10 (.take 11 (.take 12 (.take 13 (.take 14 (.eff 15 (some [17]) (.take 16 (.eff 17 (some []) .done))))))))))))))))))))) (.reg .seq))))))) (.reg .seq))))))
set_option maxRecDepth 100000 in
theorem T133_F126 (data1 : Slc) (a2 : Int) (b3 : Int) (c5 : Addr) (w : World) (R : World → Prop) (h : S133_F126 data1 a2 b3 c5 w R) : C133 data1 a2 b3 (.func (.func 126) #[] #[.pointer (some c5)]) w R := by
  have e : fnT Tryz.prog ⟨FF, MAY, (fun _ _ => False)⟩ pl133_F126 Tryz.f133 [Slc.v data1, .int .i64 a2, .int .i64 b3, .func (.func 126) #[] #[.pointer (some c5)]] w [] (fun _ w => R w) = S133_F126 data1 a2 b3 c5 w R := by kernel_rfl
  exact (fn_calls okF okM Tryz.func133 (by kernel_rfl) (by kernel_rfl) (e.mpr h)).mono fun _ _ ⟨_, he, hR⟩ => ⟨he, hR⟩

def S136L1 (data1 : Slc) (a2 : Int) (b3 : Int) (n4 : Int) (R : World → Prop) (I8 : Int → World → Prop) (s6 : Int) (vw7 : World) : Prop :=
  Br (decide (s6 < n4)) (∃ vS9 : World → Prop, vS9 vw7.drew ∧ 0 ≤ (IntKind.i64.wrap (b3 + s6)) ∧ (IntKind.i64.wrap (b3 + s6)) < (data1.len : Nat) ∧ Nn data1.p fun a10 =>
    LdS vS9 (a10.add ((IntKind.i64.wrap (b3 + s6)).toNat * 1)) Value.pointer fun (x11 : Option Addr) =>
    0 ≤ (IntKind.i64.wrap (a2 + s6)) ∧ (IntKind.i64.wrap (a2 + s6)) < (data1.len : Nat) ∧ Nn data1.p fun a12 =>
    LdS vS9 (a12.add ((IntKind.i64.wrap (a2 + s6)).toNat * 1)) Value.pointer fun (x13 : Option Addr) =>
    0 ≤ (IntKind.i64.wrap (a2 + s6)) ∧ (IntKind.i64.wrap (a2 + s6)) < (data1.len : Nat) ∧ Nn data1.p fun a14 =>
    St vw7.drew (a14.add ((IntKind.i64.wrap (a2 + s6)).toNat * 1)) (.pointer x11) fun vw15 =>
    0 ≤ (IntKind.i64.wrap (b3 + s6)) ∧ (IntKind.i64.wrap (b3 + s6)) < (data1.len : Nat) ∧ Nn data1.p fun a16 =>
    St vw15 (a16.add ((IntKind.i64.wrap (b3 + s6)).toNat * 1)) (.pointer x13) fun vw17 =>
    I8 (IntKind.i64.wrap (s6 + 1)) vw17) (R vw7)
/-- slices.swapRangeCmpFunc[*foliant/code.coin] -/
def S136 (data1 : Slc) (a2 : Int) (b3 : Int) (n4 : Int) (cmp5 : Value) (w : World) (R : World → Prop) : Prop :=
  Lp (σ := Int) (S136L1 data1 a2 b3 n4 R) 0 w
def pl136 : Plan := (.seq (.reg .seq) (.block (.loop [(10, (.one (.int .i64)))] [0, 1, 2, 3] (.seq (.seq (.reg .seq) (.cond .leaf .leaf)) (.seq (.block (.reg (.held [21] (.take 0 (.take 1 (.take 2 (.take 3 (.take 4 (.take 5 (.take 6 (.take 7 (.take 8 (.take 9 (.take 10 (.take 11 (.take 12 (.take 13 (.take 14 (.take 15 (.take 16 (.take 17 (.take 18 (.take 19 (.take 20 (.eff 21 (some [23]) (.take 22 (.eff 23 (some []) .done))))))))))))))))))))))))))) (.reg .seq))))))
set_option maxRecDepth 100000 in
theorem T136 (data1 : Slc) (a2 : Int) (b3 : Int) (n4 : Int) (cmp5 : Value) (w : World) (R : World → Prop) (h : S136 data1 a2 b3 n4 cmp5 w R) : C136 data1 a2 b3 n4 cmp5 w R := by
  have e : fnT Tryz.prog ⟨FF, MAY, (fun _ _ => False)⟩ pl136 Tryz.f136 [Slc.v data1, .int .i64 a2, .int .i64 b3, .int .i64 n4, cmp5] w [] (fun _ w => R w) = S136 data1 a2 b3 n4 cmp5 w R := by kernel_rfl
  exact (fn_calls okF okM Tryz.func136 (by kernel_rfl) (by kernel_rfl) (e.mpr h)).mono fun _ _ ⟨_, he, hR⟩ => ⟨he, hR⟩

def S135L1 (data1 : Slc) (m3 : Int) (cmp5 : Value) (R : World → Prop) (I13 : (Int × Int) → World → Prop) (s11 : Int × Int) (vw12 : World) : Prop :=
  Br (s11.1 != s11.2) (Br (decide (s11.1 > s11.2)) (C136 data1 (IntKind.i64.wrap (m3 - s11.1)) m3 s11.2 cmp5 vw12 fun vw14 =>
        I13 (IntKind.i64.wrap (s11.1 - s11.2), s11.2) vw14) (C136 data1 (IntKind.i64.wrap (m3 - s11.1)) (IntKind.i64.wrap ((IntKind.i64.wrap (m3 + s11.2)) - s11.1)) s11.1 cmp5 vw12 fun vw15 =>
        I13 (s11.1, IntKind.i64.wrap (s11.2 - s11.1)) vw15)) (C136 data1 (IntKind.i64.wrap (m3 - s11.1)) m3 s11.1 cmp5 vw12 fun vw16 =>
      R vw16)
/-- slices.rotateCmpFunc[*foliant/code.coin] -/
def S135 (data1 : Slc) (a2 : Int) (m3 : Int) (b4 : Int) (cmp5 : Value) (w : World) (R : World → Prop) : Prop :=
  Lp (σ := Int × Int) (S135L1 data1 m3 cmp5 R) (IntKind.i64.wrap (m3 - a2), IntKind.i64.wrap (b4 - m3)) w
def pl135 : Plan := (.seq (.reg .seq) (.seq (.reg .seq) (.seq (.block (.loop [(10, (.one (.int .i64))), (11, (.one (.int .i64)))] [0, 2, 4] (.seq (.seq (.reg .seq) (.cond .leaf .leaf)) (.block (.seq (.reg .seq) (.cond (.seq (.reg .seq) (.reg .seq)) (.seq (.reg .seq) (.reg .seq)))))))) (.reg .seq))))
set_option maxRecDepth 100000 in
theorem T135 (data1 : Slc) (a2 : Int) (m3 : Int) (b4 : Int) (cmp5 : Value) (w : World) (R : World → Prop) (h : S135 data1 a2 m3 b4 cmp5 w R) : C135 data1 a2 m3 b4 cmp5 w R := by
  have e : fnT Tryz.prog ⟨FF, MAY, (fun _ _ => False)⟩ pl135 Tryz.f135 [Slc.v data1, .int .i64 a2, .int .i64 m3, .int .i64 b4, cmp5] w [] (fun _ w => R w) = S135 data1 a2 m3 b4 cmp5 w R := by kernel_rfl
  exact (fn_calls okF okM Tryz.func135 (by kernel_rfl) (by kernel_rfl) (e.mpr h)).mono fun _ _ ⟨_, he, hR⟩ => ⟨he, hR⟩

def S134_F126L1 (data1 : Slc) (s39 : Int × Int) (R : World → Prop) (I51 : Int → World → Prop) (s49 : Int) (vw50 : World) : Prop :=
  Br (decide (s49 < (IntKind.i64.wrap (s39.1 - 1)))) (∃ vS52 : World → Prop, vS52 vw50.drew ∧ 0 ≤ (IntKind.i64.wrap (s49 + 1)) ∧ (IntKind.i64.wrap (s49 + 1)) < (data1.len : Nat) ∧ Nn data1.p fun a53 =>
    LdS vS52 (a53.add ((IntKind.i64.wrap (s49 + 1)).toNat * 1)) Value.pointer fun (x54 : Option Addr) =>
    0 ≤ s49 ∧ s49 < (data1.len : Nat) ∧ Nn data1.p fun a55 =>
    LdS vS52 (a55.add ((s49).toNat * 1)) Value.pointer fun (x56 : Option Addr) =>
    0 ≤ s49 ∧ s49 < (data1.len : Nat) ∧ Nn data1.p fun a57 =>
    St vw50.drew (a57.add ((s49).toNat * 1)) (.pointer x54) fun vw58 =>
    0 ≤ (IntKind.i64.wrap (s49 + 1)) ∧ (IntKind.i64.wrap (s49 + 1)) < (data1.len : Nat) ∧ Nn data1.p fun a59 =>
    St vw58 (a59.add ((IntKind.i64.wrap (s49 + 1)).toNat * 1)) (.pointer x56) fun vw60 =>
    I51 (IntKind.i64.wrap (s49 + 1)) vw60) (R vw50)
def S134_F126L2 (data1 : Slc) (a2 : Int) (c6 : Addr) (R : World → Prop) (I41 : (Int × Int) → World → Prop) (s39 : Int × Int) (vw40 : World) : Prop :=
  Br (decide (s39.1 < s39.2)) (0 ≤ (IntKind.i64.wrap (Int.fdiv (IntKind.u64.wrap (IntKind.i64.wrap (s39.1 + s39.2))) (2 ^ 1))) ∧ (IntKind.i64.wrap (Int.fdiv (IntKind.u64.wrap (IntKind.i64.wrap (s39.1 + s39.2))) (2 ^ 1))) < (data1.len : Nat) ∧ Nn data1.p fun a42 =>
    Ld vw40.drew (a42.add ((IntKind.i64.wrap (Int.fdiv (IntKind.u64.wrap (IntKind.i64.wrap (s39.1 + s39.2))) (2 ^ 1))).toNat * 1)) Value.pointer fun (x43 : Option Addr) =>
    0 ≤ a2 ∧ a2 < (data1.len : Nat) ∧ Nn data1.p fun a44 =>
    Ld vw40.drew (a44.add ((a2).toNat * 1)) Value.pointer fun (x45 : Option Addr) =>
    C126 x43 x45 c6 vw40.drew fun r46 vw47 =>
      Br (decide (r46 < 0)) (Lt (IntKind.i64.wrap ((IntKind.i64.wrap (Int.fdiv (IntKind.u64.wrap (IntKind.i64.wrap (s39.1 + s39.2))) (2 ^ 1))) + 1)) fun (x48 : Int) =>
        I41 (x48, s39.2) vw47) (I41 (s39.1, IntKind.i64.wrap (Int.fdiv (IntKind.u64.wrap (IntKind.i64.wrap (s39.1 + s39.2))) (2 ^ 1))) vw47)) (Lp (σ := Int) (S134_F126L1 data1 s39 R) a2 vw40)
def S134_F126L3 (data1 : Slc) (s93 : Int × Int) (R : World → Prop) (I105 : Int → World → Prop) (s103 : Int) (vw104 : World) : Prop :=
  Br (decide (s103 > s93.1)) (∃ vS106 : World → Prop, vS106 vw104.drew ∧ 0 ≤ (IntKind.i64.wrap (s103 - 1)) ∧ (IntKind.i64.wrap (s103 - 1)) < (data1.len : Nat) ∧ Nn data1.p fun a107 =>
    LdS vS106 (a107.add ((IntKind.i64.wrap (s103 - 1)).toNat * 1)) Value.pointer fun (x108 : Option Addr) =>
    0 ≤ s103 ∧ s103 < (data1.len : Nat) ∧ Nn data1.p fun a109 =>
    LdS vS106 (a109.add ((s103).toNat * 1)) Value.pointer fun (x110 : Option Addr) =>
    0 ≤ s103 ∧ s103 < (data1.len : Nat) ∧ Nn data1.p fun a111 =>
    St vw104.drew (a111.add ((s103).toNat * 1)) (.pointer x108) fun vw112 =>
    0 ≤ (IntKind.i64.wrap (s103 - 1)) ∧ (IntKind.i64.wrap (s103 - 1)) < (data1.len : Nat) ∧ Nn data1.p fun a113 =>
    St vw112 (a113.add ((IntKind.i64.wrap (s103 - 1)).toNat * 1)) (.pointer x110) fun vw114 =>
    I105 (IntKind.i64.wrap (s103 - 1)) vw114) (R vw104)
def S134_F126L4 (data1 : Slc) (m3 : Int) (c6 : Addr) (R : World → Prop) (I95 : (Int × Int) → World → Prop) (s93 : Int × Int) (vw94 : World) : Prop :=
  Br (decide (s93.1 < s93.2)) (0 ≤ m3 ∧ m3 < (data1.len : Nat) ∧ Nn data1.p fun a96 =>
    Ld vw94.drew (a96.add ((m3).toNat * 1)) Value.pointer fun (x97 : Option Addr) =>
    0 ≤ (IntKind.i64.wrap (Int.fdiv (IntKind.u64.wrap (IntKind.i64.wrap (s93.1 + s93.2))) (2 ^ 1))) ∧ (IntKind.i64.wrap (Int.fdiv (IntKind.u64.wrap (IntKind.i64.wrap (s93.1 + s93.2))) (2 ^ 1))) < (data1.len : Nat) ∧ Nn data1.p fun a98 =>
    Ld vw94.drew (a98.add ((IntKind.i64.wrap (Int.fdiv (IntKind.u64.wrap (IntKind.i64.wrap (s93.1 + s93.2))) (2 ^ 1))).toNat * 1)) Value.pointer fun (x99 : Option Addr) =>
    C126 x97 x99 c6 vw94.drew fun r100 vw101 =>
      Br (!(decide (r100 < 0))) (Lt (IntKind.i64.wrap ((IntKind.i64.wrap (Int.fdiv (IntKind.u64.wrap (IntKind.i64.wrap (s93.1 + s93.2))) (2 ^ 1))) + 1)) fun (x102 : Int) =>
        I95 (x102, s93.2) vw101) (I95 (s93.1, IntKind.i64.wrap (Int.fdiv (IntKind.u64.wrap (IntKind.i64.wrap (s93.1 + s93.2))) (2 ^ 1))) vw101)) (Lp (σ := Int) (S134_F126L3 data1 s93 R) m3 vw94)
def S134_F126J1 (data1 : Slc) (a2 : Int) (b4 : Int) (c6 : Addr) (x115 : Int) (s129 : Int × Int) (R : World → Prop) (s144 : Unit) (vw145 : World) : Prop :=
  Lt (decide ((IntKind.i64.wrap (Int.fdiv (IntKind.u64.wrap (IntKind.i64.wrap (a2 + b4))) (2 ^ 1))) < (IntKind.i64.wrap (x115 - s129.1)))) fun (x146 : Bool) =>
  Br x146 (Br (decide ((IntKind.i64.wrap (x115 - s129.1)) < b4)) (C134 data1 (IntKind.i64.wrap (Int.fdiv (IntKind.u64.wrap (IntKind.i64.wrap (a2 + b4))) (2 ^ 1))) (IntKind.i64.wrap (x115 - s129.1)) b4 (.func (.func 126) #[] #[.pointer (some c6)]) vw145 fun vw147 =>
        R vw147) (R vw145)) (R vw145)
def S134_F126J2 (data1 : Slc) (a2 : Int) (b4 : Int) (c6 : Addr) (x115 : Int) (s129 : Int × Int) (R : World → Prop) (s140 : Unit) (vw141 : World) : Prop :=
  Join (S134_F126J1 data1 a2 b4 c6 x115 s129 R) fun (vJ148 : Unit → World → Prop) =>
    Br (decide (a2 < s129.1)) (Lt (decide (s129.1 < (IntKind.i64.wrap (Int.fdiv (IntKind.u64.wrap (IntKind.i64.wrap (a2 + b4))) (2 ^ 1))))) fun (x149 : Bool) =>
      Br x149 (C134 data1 a2 s129.1 (IntKind.i64.wrap (Int.fdiv (IntKind.u64.wrap (IntKind.i64.wrap (a2 + b4))) (2 ^ 1))) (.func (.func 126) #[] #[.pointer (some c6)]) vw141 fun vw150 =>
          vJ148 () vw150) (vJ148 () vw141)) (vJ148 () vw141)
def S134_F126L5 (data1 : Slc) (a2 : Int) (m3 : Int) (b4 : Int) (c6 : Addr) (x115 : Int) (R : World → Prop) (I131 : (Int × Int) → World → Prop) (s129 : Int × Int) (vw130 : World) : Prop :=
  Br (decide (s129.1 < s129.2)) (Lt (IntKind.i64.wrap (Int.fdiv (IntKind.u64.wrap (IntKind.i64.wrap (s129.1 + s129.2))) (2 ^ 1))) fun (x132 : Int) =>
    0 ≤ (IntKind.i64.wrap ((IntKind.i64.wrap (x115 - 1)) - x132)) ∧ (IntKind.i64.wrap ((IntKind.i64.wrap (x115 - 1)) - x132)) < (data1.len : Nat) ∧ Nn data1.p fun a133 =>
    Ld vw130.drew (a133.add ((IntKind.i64.wrap ((IntKind.i64.wrap (x115 - 1)) - x132)).toNat * 1)) Value.pointer fun (x134 : Option Addr) =>
    0 ≤ x132 ∧ x132 < (data1.len : Nat) ∧ Nn data1.p fun a135 =>
    Ld vw130.drew (a135.add ((x132).toNat * 1)) Value.pointer fun (x136 : Option Addr) =>
    C126 x134 x136 c6 vw130.drew fun r137 vw138 =>
      Br (!(decide (r137 < 0))) (I131 (IntKind.i64.wrap (x132 + 1), s129.2) vw138) (I131 (s129.1, x132) vw138)) (Join (S134_F126J2 data1 a2 b4 c6 x115 s129 R) fun (vJ151 : Unit → World → Prop) =>
      Br (decide (s129.1 < m3)) (Br (decide (m3 < (IntKind.i64.wrap (x115 - s129.1)))) (C135 data1 s129.1 m3 (IntKind.i64.wrap (x115 - s129.1)) (.func (.func 126) #[] #[.pointer (some c6)]) vw130 fun vw152 =>
            vJ151 () vw152) (vJ151 () vw130)) (vJ151 () vw130))
def S134_F126J3 (data1 : Slc) (a2 : Int) (m3 : Int) (b4 : Int) (c6 : Addr) (x115 : Int) (R : World → Prop) (s117 : Int × Int) (vw118 : World) : Prop :=
  Lp (σ := Int × Int) (S134_F126L5 data1 a2 m3 b4 c6 x115 R) (s117.1, s117.2) vw118
/-- slices.symMergeCmpFunc[*foliant/code.coin] -/
def S134_F126 (data1 : Slc) (a2 : Int) (m3 : Int) (b4 : Int) (c6 : Addr) (w : World) (R : World → Prop) : Prop :=
  Br ((IntKind.i64.wrap (m3 - a2)) == 1) (Lp (σ := Int × Int) (S134_F126L2 data1 a2 c6 R) (m3, b4) w) (Br ((IntKind.i64.wrap (b4 - m3)) == 1) (Lp (σ := Int × Int) (S134_F126L4 data1 m3 c6 R) (a2, m3) w) (Lt (IntKind.i64.wrap ((IntKind.i64.wrap (Int.fdiv (IntKind.u64.wrap (IntKind.i64.wrap (a2 + b4))) (2 ^ 1))) + m3)) fun (x115 : Int) =>
      Join (S134_F126J3 data1 a2 m3 b4 c6 x115 R) fun (vJ153 : (Int × Int) → World → Prop) =>
        Lt (decide (m3 > (IntKind.i64.wrap (Int.fdiv (IntKind.u64.wrap (IntKind.i64.wrap (a2 + b4))) (2 ^ 1))))) fun (x154 : Bool) =>
        Br x154 (vJ153 (IntKind.i64.wrap (x115 - b4), IntKind.i64.wrap (Int.fdiv (IntKind.u64.wrap (IntKind.i64.wrap (a2 + b4))) (2 ^ 1))) w) (vJ153 (a2, m3) w)))
def pl134_F126 : Plan := (.seq (.seq (.reg .seq) (.cond (.seq (.reg .seq) (.seq (.reg .seq) (.seq (.block (.loop [(10, (.one (.int .i64))), (11, (.one (.int .i64)))] [0, 1, 4] (.seq (.seq (.reg .seq) (.cond .leaf .leaf)) (.block (.seq (.reg .seq) (.seq (.reg (.tail 9)) (.cond (.reg .seq) (.reg .seq)))))))) (.seq (.seq (.reg .seq) (.block (.loop [(13, (.one (.int .i64)))] [0, 10] (.seq (.seq (.reg .seq) (.cond .leaf .leaf)) (.seq (.block (.reg (.held [15] (.take 0 (.take 1 (.take 2 (.take 3 (.take 4 (.take 5 (.take 6 (.take 7 (.take 8 (.take 9 (.take 10 (.take 11 (.take 12 (.take 13 (.take 14 (.eff 15 (some [17]) (.take 16 (.eff 17 (some []) .done))))))))))))))))))))) (.reg .seq)))))) .leaf)))) .leaf)) (.seq (.seq (.reg .seq) (.cond (.seq (.reg .seq) (.seq (.reg .seq) (.seq (.block (.loop [(14, (.one (.int .i64))), (15, (.one (.int .i64)))] [0, 2, 4] (.seq (.seq (.reg .seq) (.cond .leaf .leaf)) (.block (.seq (.reg .seq) (.seq (.reg (.tail 9)) (.cond (.reg .seq) (.reg .seq)))))))) (.seq (.seq (.reg .seq) (.block (.loop [(17, (.one (.int .i64)))] [0, 14] (.seq (.seq (.reg .seq) (.cond .leaf .leaf)) (.seq (.block (.reg (.held [15] (.take 0 (.take 1 (.take 2 (.take 3 (.take 4 (.take 5 (.take 6 (.take 7 (.take 8 (.take 9 (.take 10 (.take 11 (.take 12 (.take 13 (.take 14 (.eff 15 (some [17]) (.take 16 (.eff 17 (some []) .done))))))))))))))))))))) (.reg .seq)))))) .leaf)))) .leaf)) (.seq (.reg .seq) (.seq (.reg .seq) (.seq (.reg .seq) (.join [(20, (.one (.int .i64))), (21, (.one (.int .i64)))] [0, 1, 2, 3, 4, 18, 19] (.seq (.reg .seq) (.cond (.seq (.reg .seq) (.reg .seq)) (.seq (.reg .seq) (.reg .seq)))) (.seq (.reg .seq) (.seq (.block (.loop [(20, (.one (.int .i64))), (21, (.one (.int .i64)))] [0, 1, 2, 3, 4, 18, 19, 22] (.seq (.seq (.reg .seq) (.cond .leaf .leaf)) (.block (.seq (.reg .seq) (.seq (.reg (.tail 11)) (.cond (.reg .seq) (.reg .seq)))))))) (.seq (.reg .seq) (.join [] [0, 1, 3, 4, 18, 20, 24] (.seq (.reg .seq) (.cond (.reg .seq) .leaf)) (.join [] [0, 3, 4, 18, 24] (.seq (.reg .seq) (.cond (.reg .seq) .leaf)) (.seq (.reg .seq) (.cond (.reg .seq) .leaf)))))))))))))
set_option maxRecDepth 100000 in
theorem T134_F126 (data1 : Slc) (a2 : Int) (m3 : Int) (b4 : Int) (c6 : Addr) (w : World) (R : World → Prop) (h : S134_F126 data1 a2 m3 b4 c6 w R) : C134 data1 a2 m3 b4 (.func (.func 126) #[] #[.pointer (some c6)]) w R := by
  have e : fnT Tryz.prog ⟨FF, MAY, (fun _ _ => False)⟩ pl134_F126 Tryz.f134 [Slc.v data1, .int .i64 a2, .int .i64 m3, .int .i64 b4, .func (.func 126) #[] #[.pointer (some c6)]] w [] (fun _ w => R w) = S134_F126 data1 a2 m3 b4 c6 w R := by kernel_rfl
  exact (fn_calls okF okM Tryz.func134 (by kernel_rfl) (by kernel_rfl) (e.mpr h)).mono fun _ _ ⟨_, he, hR⟩ => ⟨he, hR⟩

def S131_F126L1 (data1 : Slc) (n2 : Int) (c4 : Addr) (s14 : Int) (I16 : Int → World → Prop) (I23 : (Int × Int) → World → Prop) (s21 : Int × Int) (vw22 : World) : Prop :=
  Br (decide (s21.2 ≤ n2)) (C134 data1 s21.1 (IntKind.i64.wrap (s21.1 + s14)) s21.2 (.func (.func 126) #[] #[.pointer (some c4)]) vw22 fun vw24 =>
      I23 (s21.2, IntKind.i64.wrap (s21.2 + (IntKind.i64.wrap (2 * s14)))) vw24) (Br (decide ((IntKind.i64.wrap (s21.1 + s14)) < n2)) (C134 data1 s21.1 (IntKind.i64.wrap (s21.1 + s14)) n2 (.func (.func 126) #[] #[.pointer (some c4)]) vw22 fun vw25 =>
        I16 (IntKind.i64.wrap (s14 * 2)) vw25) (I16 (IntKind.i64.wrap (s14 * 2)) vw22))
def S131_F126L2 (data1 : Slc) (n2 : Int) (c4 : Addr) (R : World → Prop) (I16 : Int → World → Prop) (s14 : Int) (vw15 : World) : Prop :=
  Br (decide (s14 < n2)) (Lp (σ := Int × Int) (S131_F126L1 data1 n2 c4 s14 I16) (0, IntKind.i64.wrap (2 * s14)) vw15) (R vw15)
def S131_F126L3 (data1 : Slc) (n2 : Int) (c4 : Addr) (R : World → Prop) (I11 : (Int × Int) → World → Prop) (s9 : Int × Int) (vw10 : World) : Prop :=
  Br (decide (s9.2 ≤ n2)) (C133 data1 s9.1 s9.2 (.func (.func 126) #[] #[.pointer (some c4)]) vw10 fun vw12 =>
      I11 (s9.2, IntKind.i64.wrap (s9.2 + 20)) vw12) (C133 data1 s9.1 n2 (.func (.func 126) #[] #[.pointer (some c4)]) vw10 fun vw13 =>
      Lp (σ := Int) (S131_F126L2 data1 n2 c4 R) 20 vw13)
/-- slices.stableCmpFunc[*foliant/code.coin] -/
def S131_F126 (data1 : Slc) (n2 : Int) (c4 : Addr) (w : World) (R : World → Prop) : Prop :=
  Lp (σ := Int × Int) (S131_F126L3 data1 n2 c4 R) (0, 20) w
def pl131_F126 : Plan := (.seq (.reg .seq) (.seq (.reg .seq) (.seq (.block (.loop [(7, (.one (.int .i64))), (8, (.one (.int .i64)))] [0, 1, 2, 6] (.seq (.seq (.reg .seq) (.cond .leaf .leaf)) (.block (.seq (.reg .seq) (.seq (.reg .seq) (.reg .seq))))))) (.seq (.reg .seq) (.block (.loop [(6, (.one (.int .i64)))] [0, 1, 2] (.seq (.seq (.reg .seq) (.cond .leaf .leaf)) (.block (.seq (.reg .seq) (.seq (.block (.loop [(7, (.one (.int .i64))), (8, (.one (.int .i64)))] [0, 1, 2, 6] (.seq (.seq (.reg .seq) (.cond .leaf .leaf)) (.block (.seq (.reg .seq) (.seq (.reg .seq) (.reg .seq))))))) (.seq (.seq (.reg .seq) (.seq (.reg .seq) (.cond (.reg .seq) .leaf))) (.reg .seq))))))))))))
set_option maxRecDepth 100000 in
theorem T131_F126 (data1 : Slc) (n2 : Int) (c4 : Addr) (w : World) (R : World → Prop) (h : S131_F126 data1 n2 c4 w R) : C131 data1 n2 (.func (.func 126) #[] #[.pointer (some c4)]) w R := by
  have e : fnT Tryz.prog ⟨FF, MAY, (fun _ _ => False)⟩ pl131_F126 Tryz.f131 [Slc.v data1, .int .i64 n2, .func (.func 126) #[] #[.pointer (some c4)]] w [] (fun _ w => R w) = S131_F126 data1 n2 c4 w R := by kernel_rfl
  exact (fn_calls okF okM Tryz.func131 (by kernel_rfl) (by kernel_rfl) (e.mpr h)).mono fun _ _ ⟨_, he, hR⟩ => ⟨he, hR⟩

/-- slices.SortStableFunc[[]*foliant/code.coin,*foliant/code.coin] -/
def S125_F126 (x1 : Slc) (c3 : Addr) (w : World) (R : World → Prop) : Prop :=
  C131 x1 ((x1.len : Nat) : Int) (.func (.func 126) #[] #[.pointer (some c3)]) w fun vw4 =>
    R vw4
def pl125_F126 : Plan := (.reg .seq)
set_option maxRecDepth 100000 in
theorem T125_F126 (x1 : Slc) (c3 : Addr) (w : World) (R : World → Prop) (h : S125_F126 x1 c3 w R) : C125 x1 (.func (.func 126) #[] #[.pointer (some c3)]) w R := by
  have e : fnT Tryz.prog ⟨FF, MAY, (fun _ _ => False)⟩ pl125_F126 Tryz.f125 [Slc.v x1, .func (.func 126) #[] #[.pointer (some c3)]] w [] (fun _ w => R w) = S125_F126 x1 c3 w R := by kernel_rfl
  exact (fn_calls okF okM Tryz.func125 (by kernel_rfl) (by kernel_rfl) (e.mpr h)).mono fun _ _ ⟨_, he, hR⟩ => ⟨he, hR⟩

/-- foliant/code.sorted[*foliant/code.coin] -/
def S113_F114 (a1 : Slc) (b2 : Slc) (w : World) (R : Slc → World → Prop) (PR : Value → World → Prop) : Prop :=
  Nw w (.cells #[.func (.func 114) #[] #[]] 168) fun vw4 =>
  Nw vw4 (.cells #[Slc.v a1, Slc.v b2] 143) fun vw5 =>
  C124 (⟨some ⟨vw4.heap.size, 0, none⟩, 2, 2⟩ : Slc) vw5 (fun r6 vw7 =>
    C125 r6 (.func (.func 126) #[] #[.pointer (some (⟨w.heap.size, 0, none⟩ : Addr))]) vw7 fun vw8 =>
      R r6 vw8) PR
def pl113_F114 : Plan := (.seq (.reg .seq) (.seq (.reg .seq) (.seq (.reg .seq) (.seq (.reg .seq) .leaf))))
set_option maxRecDepth 100000 in
theorem T113_F114 (a1 : Slc) (b2 : Slc) (w : World) (R : Slc → World → Prop) (PR : Value → World → Prop) (h : S113_F114 a1 b2 w R PR) : C113 a1 b2 (.func (.func 114) #[] #[]) w R PR := by
  have e : fnT Tryz.prog ⟨FF, MAY, PR⟩ pl113_F114 Tryz.f113 [Slc.v a1, Slc.v b2, .func (.func 114) #[] #[]] w [(.one .slc)] (fun s w => R s w) = S113_F114 a1 b2 w R PR := by kernel_rfl
  exact (fn_callsP okF okM Tryz.func113 (by kernel_rfl) (by kernel_rfl) (e.mpr h)).mono fun _ _ he => he.elim (fun ⟨s, he, hR⟩ => .inl ⟨s, he, hR⟩) .inr

/-- foliant/code.merged -/
def S95 (a1 : Slc) (b2 : Slc) (w : World) (R : Slc → World → Prop) (PR : Value → World → Prop) : Prop :=
  C113 a1 b2 (.func (.func 114) #[] #[]) w (fun r3 vw4 =>
    R r3 vw4) PR
def pl95 : Plan := (.seq (.reg .seq) (.seq (.reg .seq) .leaf))
set_option maxRecDepth 100000 in
theorem T95 (a1 : Slc) (b2 : Slc) (w : World) (R : Slc → World → Prop) (PR : Value → World → Prop) (h : S95 a1 b2 w R PR) : C95 a1 b2 w R PR := by
  have e : fnT Tryz.prog ⟨FF, MAY, PR⟩ pl95 Tryz.f95 [Slc.v a1, Slc.v b2] w [(.one .slc)] (fun s w => R s w) = S95 a1 b2 w R PR := by kernel_rfl
  exact (fn_callsP okF okM Tryz.func95 (by kernel_rfl) (by kernel_rfl) (e.mpr h)).mono fun _ _ he => he.elim (fun ⟨s, he, hR⟩ => .inl ⟨s, he, hR⟩) .inr

def S96L1 (l1 : Slc) (R : Slc → World → Prop) (I4 : (Slc × Int) → World → Prop) (s2 : Slc × Int) (vw3 : World) : Prop :=
  Br (decide ((IntKind.i64.wrap (s2.2 + 1)) < ((l1.len : Nat) : Int))) (∃ vS5 : World → Prop, vS5 vw3.drew ∧ 0 ≤ s2.2 ∧ s2.2 < (l1.len : Nat) ∧ Nn l1.p fun a6 =>
    LdS vS5 (a6.add ((s2.2).toNat * 1)) Value.pointer fun (x7 : Option Addr) =>
    Nn x7 fun a8 =>
    LdS vS5 a8 (Value.int .i64) fun (x9 : Int) =>
    0 ≤ (IntKind.i64.wrap (s2.2 + 1)) ∧ (IntKind.i64.wrap (s2.2 + 1)) < (l1.len : Nat) ∧ Nn l1.p fun a10 =>
    LdS vS5 (a10.add ((IntKind.i64.wrap (s2.2 + 1)).toNat * 1)) Value.pointer fun (x11 : Option Addr) =>
    Nn x11 fun a12 =>
    LdS vS5 a12 (Value.int .i64) fun (x13 : Int) =>
    0 ≤ s2.2 ∧ s2.2 < (l1.len : Nat) ∧ Nn l1.p fun a14 =>
    LdS vS5 (a14.add ((s2.2).toNat * 1)) Value.pointer fun (x15 : Option Addr) =>
    0 ≤ (IntKind.i64.wrap (s2.2 + 1)) ∧ (IntKind.i64.wrap (s2.2 + 1)) < (l1.len : Nat) ∧ Nn l1.p fun a16 =>
    LdS vS5 (a16.add ((IntKind.i64.wrap (s2.2 + 1)).toNat * 1)) Value.pointer fun (x17 : Option Addr) =>
    Nw vw3.drew (.cells #[.int .i64 (IntKind.i64.wrap (x9 + x13)), .int .i64 0, .pointer x15, .pointer x17] 146) fun vw18 =>
    Nw vw18 (.cells #[.pointer (some (⟨vw3.drew.heap.size, 0, none⟩ : Addr))] 144) fun vw19 =>
    Rn Tryz.prog (Builtin.append_ #[143, 143] 143 #[Slc.v s2.1, Slc.v ((⟨some ⟨vw18.heap.size, 0, none⟩, 1, 1⟩ : Slc))]) vw19 Slc.v fun (x20 : Slc) vw21 =>
    I4 (x20, IntKind.i64.wrap (s2.2 + 2)) vw21) (R s2.1 vw3)
/-- foliant/code.pairs -/
def S96 (l1 : Slc) (w : World) (R : Slc → World → Prop) : Prop :=
  Lp (σ := Slc × Int) (S96L1 l1 R) ((⟨none, 0, 0⟩ : Slc), 0) w
def pl96 : Plan := (.seq (.reg .seq) (.seq (.reg .seq) (.seq (.seq (.reg .seq) (.block (.loop [(3, (.one .slc)), (4, (.one (.int .i64)))] [0] (.seq (.seq (.reg .seq) (.cond .leaf .leaf)) (.seq (.block (.reg (.held [26] (.take 0 (.take 1 (.take 2 (.take 3 (.take 4 (.take 5 (.take 6 (.take 7 (.take 8 (.take 9 (.take 10 (.take 11 (.take 12 (.take 13 (.take 14 (.take 15 (.take 16 (.take 17 (.take 18 (.take 19 (.take 20 (.take 21 (.take 22 (.take 23 (.take 24 (.take 25 (.eff 26 (some [27]) (.eff 27 (some [28]) (.eff 28 (some [29]) (.eff 29 (some []) (.take 30 .done)))))))))))))))))))))))))))))))))) (.reg .seq)))))) (.seq (.reg .seq) .leaf))))
set_option maxRecDepth 100000 in
theorem T96 (l1 : Slc) (w : World) (R : Slc → World → Prop) (h : S96 l1 w R) : C96 l1 w R := by
  have e : fnT Tryz.prog ⟨FF, MAY, (fun _ _ => False)⟩ pl96 Tryz.f96 [Slc.v l1] w [(.one .slc)] (fun s w => R s w) = S96 l1 w R := by kernel_rfl
  exact (fn_calls okF okM Tryz.func96 (by kernel_rfl) (by kernel_rfl) (e.mpr h)).mono fun _ _ ⟨s, he, hR⟩ => ⟨s, he, hR⟩

/-- foliant/code.Lengths$1 -/
def S98 (sign1 : Int) (c2 : Addr) (w : World) (R : World → Prop) : Prop :=
  Ld w c2 Slc.v fun (x3 : Slc) =>
  0 ≤ sign1 ∧ sign1 < (x3.len : Nat) ∧ Nn x3.p fun a4 =>
  Ld w (a4.add ((sign1).toNat * 1)) (Value.int .i64) fun (x5 : Int) =>
  0 ≤ sign1 ∧ sign1 < (x3.len : Nat) ∧ Nn x3.p fun a6 =>
  St w (a6.add ((sign1).toNat * 1)) (.int .i64 (IntKind.i64.wrap (x5 + 1))) fun vw7 =>
  R vw7
def pl98 : Plan := (.reg .seq)
set_option maxRecDepth 100000 in
theorem T98 (sign1 : Int) (c2 : Addr) (w : World) (R : World → Prop) (h : S98 sign1 c2 w R) : C98 sign1 c2 w R := by
  have e : fnT Tryz.prog ⟨FF, MAY, (fun _ _ => False)⟩ pl98 Tryz.f98 [.int .i64 sign1, .pointer (some c2)] w [] (fun _ w => R w) = S98 sign1 c2 w R := by kernel_rfl
  exact (fn_calls okF okM Tryz.func98 (by kernel_rfl) (by kernel_rfl) (e.mpr h)).mono fun _ _ ⟨_, he, hR⟩ => ⟨he, hR⟩

/-- (*foliant/code.coin).each -/
def S97_F98 (c1 : Option Addr) (c3 : Addr) (w : World) (R : World → Prop) : Prop :=
  Nn c1 fun a9 =>
  Ld w (a9.add 2) Value.pointer fun (x10 : Option Addr) =>
  Br x10.isNone (Nn c1 fun a11 =>
    Ld w (a11.add 1) (Value.int .i64) fun (x12 : Int) =>
    C98 x12 c3 w fun vw13 =>
      R vw13) (Nn c1 fun a14 =>
    Ld w (a14.add 2) Value.pointer fun (x15 : Option Addr) =>
    C97 x15 (.func (.func 98) #[] #[.pointer (some c3)]) w fun vw16 =>
      Nn c1 fun a17 =>
      Ld vw16 (a17.add 3) Value.pointer fun (x18 : Option Addr) =>
      C97 x18 (.func (.func 98) #[] #[.pointer (some c3)]) vw16 fun vw19 =>
        R vw19)
def pl97_F98 : Plan := (.seq (.seq (.reg .seq) (.cond (.seq (.reg .seq) .leaf) .leaf)) (.seq (.reg .seq) (.reg .seq)))
set_option maxRecDepth 100000 in
theorem T97_F98 (c1 : Option Addr) (c3 : Addr) (w : World) (R : World → Prop) (h : S97_F98 c1 c3 w R) : C97 c1 (.func (.func 98) #[] #[.pointer (some c3)]) w R := by
  have e : fnT Tryz.prog ⟨FF, MAY, (fun _ _ => False)⟩ pl97_F98 Tryz.f97 [.pointer c1, .func (.func 98) #[] #[.pointer (some c3)]] w [] (fun _ w => R w) = S97_F98 c1 c3 w R := by kernel_rfl
  exact (fn_calls okF okM Tryz.func97 (by kernel_rfl) (by kernel_rfl) (e.mpr h)).mono fun _ _ ⟨_, he, hR⟩ => ⟨he, hR⟩

def S63L1 (vw22 : World) (r36 : Slc) (s45 : Slc × Int) (x52 : Int) (R : Slc → Int → World → Prop) (I55 : Int → World → Prop) (s53 : Int) (vw54 : World) : Prop :=
  Br (decide (s53 < x52)) (0 ≤ s53 ∧ s53 < ((s45.1.cut 1 0 ((IntKind.i64.wrap ((IntKind.i64.wrap (2 * ((r36.len : Nat) : Int))) - 2)).toNat) s45.1.cap).len : Nat) ∧ Nn (s45.1.cut 1 0 ((IntKind.i64.wrap ((IntKind.i64.wrap (2 * ((r36.len : Nat) : Int))) - 2)).toNat) s45.1.cap).p fun a56 =>
    Ld vw54 (a56.add ((s53).toNat * 1)) Value.pointer fun (x57 : Option Addr) =>
    C97 x57 (.func (.func 98) #[] #[.pointer (some (⟨vw22.heap.size, 0, none⟩ : Addr))]) vw54 fun vw58 =>
      I55 (IntKind.i64.wrap (s53 + 1)) vw58) (Ld vw54 (⟨vw22.heap.size, 0, none⟩ : Addr) Slc.v fun (x59 : Slc) =>
    R x59 0 vw54)
def S63L2 (most2 : Int) (vw22 : World) (r36 : Slc) (R : Slc → Int → World → Prop) (PR : Value → World → Prop) (I47 : (Slc × Int) → World → Prop) (s45 : Slc × Int) (vw46 : World) : Prop :=
  Br (decide (s45.2 < (IntKind.i64.wrap (most2 - 1)))) (C96 s45.1 vw46 fun r48 vw49 =>
      C95 r36 r48 vw49 (fun r50 vw51 =>
        I47 (r50, IntKind.i64.wrap (s45.2 + 1)) vw51) PR) (0 ≤ (IntKind.i64.wrap ((IntKind.i64.wrap (2 * ((r36.len : Nat) : Int))) - 2)) ∧ (IntKind.i64.wrap ((IntKind.i64.wrap (2 * ((r36.len : Nat) : Int))) - 2)) ≤ ((s45.1.cap : Nat) : Int) ∧ Lt ((((s45.1.cut 1 0 ((IntKind.i64.wrap ((IntKind.i64.wrap (2 * ((r36.len : Nat) : Int))) - 2)).toNat) s45.1.cap).len : Nat) : Int)) fun (x52 : Int) =>
    Lp (σ := Int) (S63L1 vw22 r36 s45 x52 R) 0 vw46)
def S63J1 (most2 : Int) (s12 : Slc × Int) (vw22 : World) (R : Slc → Int → World → Prop) (PR : Value → World → Prop) (s32 : Unit) (vw33 : World) : Prop :=
  Br (decide (((s12.1.len : Nat) : Int) < 2)) (Ld vw33 (⟨vw22.heap.size, 0, none⟩ : Addr) Slc.v fun (x35 : Slc) =>
    R x35 0 vw33) (C95 s12.1 (⟨none, 0, 0⟩ : Slc) vw33 (fun r36 vw37 =>
      Lp (σ := Slc × Int) (S63L2 most2 vw22 r36 R PR) (r36, 0) vw37) PR)
def S63L3 (counts1 : Slc) (most2 : Int) (R : Slc → Int → World → Prop) (PR : Value → World → Prop) (I14 : (Slc × Int) → World → Prop) (s12 : Slc × Int) (vw13 : World) : Prop :=
  Br (decide (s12.2 < ((counts1.len : Nat) : Int))) (0 ≤ s12.2 ∧ s12.2 < (counts1.len : Nat) ∧ Nn counts1.p fun a15 =>
    Ld vw13 (a15.add ((s12.2).toNat * 1)) (Value.int .i64) fun (x16 : Int) =>
    Br (decide (x16 < 0)) (R (⟨none, 0, 0⟩ : Slc) 1 vw13) (Br (decide (x16 > 2147483647)) (R (⟨none, 0, 0⟩ : Slc) 1 vw13) (Br (decide (x16 > 0)) (Nw vw13 (.cells #[.int .i64 x16, .int .i64 (s12.2), .pointer none, .pointer none] 146) fun vw17 =>
          Nw vw17 (.cells #[.pointer (some (⟨vw13.heap.size, 0, none⟩ : Addr))] 144) fun vw18 =>
          Rn Tryz.prog (Builtin.append_ #[143, 143] 143 #[Slc.v s12.1, Slc.v ((⟨some ⟨vw17.heap.size, 0, none⟩, 1, 1⟩ : Slc))]) vw18 Slc.v fun (x19 : Slc) vw20 =>
          I14 (x19, IntKind.i64.wrap (s12.2 + 1)) vw20) (I14 (s12.1, IntKind.i64.wrap (s12.2 + 1)) vw13)))) (0 ≤ most2 ∧ Br (decide (((s12.1.len : Nat) : Int) > (IntKind.i64.wrap (1 * 2 ^ (min (most2).toNat 64))))) (R (⟨none, 0, 0⟩ : Slc) 13 vw13) (Rn Tryz.prog (Instr.makeSlice 76 (.int .i64 ((counts1.len : Nat) : Int)) (.int .i64 ((counts1.len : Nat) : Int))) vw13 Slc.v fun (x21 : Slc) vw22 =>
      Nw vw22 (.cells #[Slc.v ((⟨none, 0, 0⟩ : Slc))] 76) fun vw23 =>
      St vw23 (⟨vw22.heap.size, 0, none⟩ : Addr) (Slc.v x21) fun vw24 =>
      Join (S63J1 most2 s12 vw22 R PR) fun (vJ60 : Unit → World → Prop) =>
        Br (((s12.1.len : Nat) : Int) == 1) (Ld vw24.drew (⟨vw22.heap.size, 0, none⟩ : Addr) Slc.v fun (x61 : Slc) =>
          0 ≤ (0 : Int) ∧ (0 : Int) < (s12.1.len : Nat) ∧ Nn s12.1.p fun a62 =>
          Ld vw24.drew (a62.add (((0 : Int)).toNat * 1)) Value.pointer fun (x63 : Option Addr) =>
          Nn x63 fun a64 =>
          Ld vw24.drew (a64.add 1) (Value.int .i64) fun (x65 : Int) =>
          0 ≤ x65 ∧ x65 < (x61.len : Nat) ∧ Nn x61.p fun a66 =>
          St vw24.drew (a66.add ((x65).toNat * 1)) (.int .i64 1) fun vw67 =>
          vJ60 () vw67) (vJ60 () vw24)))
/-- foliant/code.Lengths -/
def S63 (counts1 : Slc) (most2 : Int) (w : World) (R : Slc → Int → World → Prop) (PR : Value → World → Prop) : Prop :=
  Br (decide (((counts1.len : Nat) : Int) > 288)) (R (⟨none, 0, 0⟩ : Slc) 6 w) (Br (decide (most2 < 1)) (R (⟨none, 0, 0⟩ : Slc) 1 w) (Br (decide (most2 > 15)) (R (⟨none, 0, 0⟩ : Slc) 1 w) (Lp (σ := Slc × Int) (S63L3 counts1 most2 R PR) ((⟨none, 0, 0⟩ : Slc), 0) w)))
def pl63 : Plan := (.seq (.reg .seq) (.seq (.seq (.reg .seq) (.cond (.seq (.reg .seq) .leaf) .leaf)) (.seq (.seq (.reg .seq) (.cond (.seq (.reg .seq) .leaf) .leaf)) (.seq (.reg .seq) (.seq (.seq (.reg .seq) (.block (.loop [(6, (.one .slc)), (24, (.one (.int .i64)))] [0, 1, 22, 23] (.seq (.reg .seq) (.seq (.cond .leaf .leaf) (.seq (.block (.seq (.reg .seq) (.seq (.seq (.reg .seq) (.cond (.seq (.reg .seq) .leaf) .leaf)) (.seq (.reg .seq) (.cond (.reg .seq) .leaf))))) (.reg .seq))))))) (.seq (.seq (.reg .seq) (.cond (.seq (.reg .seq) .leaf) .leaf)) (.seq (.reg .seq) (.join [] [1, 6, 9] (.seq (.reg .seq) (.cond (.reg (.tail 8)) .leaf)) (.seq (.seq (.reg .seq) (.cond (.seq (.reg .seq) .leaf) .leaf)) (.seq (.reg .seq) (.seq (.reg .seq) (.seq (.seq (.reg .seq) (.block (.loop [(10, (.one .slc)), (73, (.one (.int .i64)))] [6, 9, 72] (.seq (.reg .seq) (.seq (.cond .leaf .leaf) (.seq (.block (.reg .seq)) (.reg .seq))))))) (.seq (.seq (.reg .seq) (.block (.loop [(87, (.one (.int .i64)))] [9, 85, 86] (.seq (.reg .seq) (.seq (.cond .leaf .leaf) (.seq (.block (.seq (.reg .seq) (.reg .seq))) (.reg .seq))))))) (.seq (.reg .seq) .leaf))))))))))))))
set_option maxRecDepth 100000 in
theorem T63 (counts1 : Slc) (most2 : Int) (w : World) (R : Slc → Int → World → Prop) (PR : Value → World → Prop) (h : S63 counts1 most2 w R PR) : C63 counts1 most2 w R PR := by
  have e : fnT Tryz.prog ⟨FF, MAY, PR⟩ pl63 Tryz.f63 [Slc.v counts1, .int .i64 most2] w [(.one .slc), (.one (.int .i64))] (fun s w => R s.1 s.2 w) = S63 counts1 most2 w R PR := by kernel_rfl
  exact (fn_callsP okF okM Tryz.func63 (by kernel_rfl) (by kernel_rfl) (e.mpr h)).mono fun _ _ he => he.elim (fun ⟨s, he, hR⟩ => .inl ⟨s.1, s.2, he, hR⟩) .inr

end Go.Proofs.YtjkoafjnmkchdaaGreatDoor

/- The formulas of 8 functions of the program, written by program (gen.py); the kernel checks each. No condition. -/
namespace Go.Proofs.YtjkoafjnmkchdaaGreatDoor
open Sh
set_option linter.unusedVariables false
set_option maxRecDepth 100000

def C112 (n1 : Int) (ones2 : Int) (group3 : Int) (w : World) (R : Int → Int → Int → World → Prop) : Prop :=
  Calls Tryz.prog 112 #[.int .i64 n1, .int .i64 ones2, .int .i64 group3] w fun e w' => ∃ r0 : Int, ∃ r1 : Int, ∃ r2 : Int, e = .returned (.tuple #[.int .i64 r0, .int .i64 r1, .int .i64 r2]) ∧ R r0 r1 r2 w'
theorem C112.mono {n1 : Int} {ones2 : Int} {group3 : Int} {w : World} {R R' : Int → Int → Int → World → Prop} (h : C112 n1 ones2 group3 w R) (hr : ∀ r0 r1 r2 w', R r0 r1 r2 w' → R' r0 r1 r2 w') : C112 n1 ones2 group3 w R' :=
  Calls.mono h fun _ _ ⟨r0, r1, r2, he, hR⟩ => ⟨r0, r1, r2, he, hr _ _ _ _ hR⟩
def C93 (size1 : Int) (w : World) (R : Int → Int → Int → Int → World → Prop) : Prop :=
  Calls Tryz.prog 93 #[.int .i64 size1] w fun e w' => ∃ r0 : Int, ∃ r1 : Int, ∃ r2 : Int, ∃ r3 : Int, e = .returned (.tuple #[.int .i64 r0, .int .i64 r1, .int .i64 r2, .int .i64 r3]) ∧ R r0 r1 r2 r3 w'
theorem C93.mono {size1 : Int} {w : World} {R R' : Int → Int → Int → Int → World → Prop} (h : C93 size1 w R) (hr : ∀ r0 r1 r2 r3 w', R r0 r1 r2 r3 w' → R' r0 r1 r2 r3 w') : C93 size1 w R' :=
  Calls.mono h fun _ _ ⟨r0, r1, r2, r3, he, hR⟩ => ⟨r0, r1, r2, r3, he, hr _ _ _ _ _ hR⟩
def C94 (far1 : Int) (w : World) (R : Int → Int → Int → Int → World → Prop) : Prop :=
  Calls Tryz.prog 94 #[.int .i64 far1] w fun e w' => ∃ r0 : Int, ∃ r1 : Int, ∃ r2 : Int, ∃ r3 : Int, e = .returned (.tuple #[.int .i64 r0, .int .i64 r1, .int .i64 r2, .int .i64 r3]) ∧ R r0 r1 r2 r3 w'
theorem C94.mono {far1 : Int} {w : World} {R R' : Int → Int → Int → Int → World → Prop} (h : C94 far1 w R) (hr : ∀ r0 r1 r2 r3 w', R r0 r1 r2 r3 w' → R' r0 r1 r2 r3 w') : C94 far1 w R' :=
  Calls.mono h fun _ _ ⟨r0, r1, r2, r3, he, hR⟩ => ⟨r0, r1, r2, r3, he, hr _ _ _ _ _ hR⟩
def C87 (s1 : ByteArray) (a2 : Int) (b3 : Int) (most4 : Int) (w : World) (R : Int → World → Prop) : Prop :=
  Calls Tryz.prog 87 #[.string s1, .int .i64 a2, .int .i64 b3, .int .i64 most4] w fun e w' => ∃ r0 : Int, e = .returned (.int .i64 r0) ∧ R r0 w'
theorem C87.mono {s1 : ByteArray} {a2 : Int} {b3 : Int} {most4 : Int} {w : World} {R R' : Int → World → Prop} (h : C87 s1 a2 b3 most4 w R) (hr : ∀ r0 w', R r0 w' → R' r0 w') : C87 s1 a2 b3 most4 w R' :=
  Calls.mono h fun _ _ ⟨r0, he, hR⟩ => ⟨r0, he, hr _ _ hR⟩
def C57 (t1 : Option Nat) (s2 : ByteArray) (vat3 : Int) (w : World) (R : (Int × Int × Int) → World → Prop) : Prop :=
  Calls Tryz.prog 57 #[.map t1, .string s2, .int .i64 vat3] w fun e w' => ∃ r0 : Int × Int × Int, e = .returned (.agg #[.int .u8 (r0.1), .int .i64 (r0.2.1), .int .i64 (r0.2.2)]) ∧ R r0 w'
theorem C57.mono {t1 : Option Nat} {s2 : ByteArray} {vat3 : Int} {w : World} {R R' : (Int × Int × Int) → World → Prop} (h : C57 t1 s2 vat3 w R) (hr : ∀ r0 w', R r0 w' → R' r0 w') : C57 t1 s2 vat3 w R' :=
  Calls.mono h fun _ _ ⟨r0, he, hR⟩ => ⟨r0, he, hr _ _ hR⟩
def C58 (t1 : Option Nat) (s2 : ByteArray) (vfrom3 : Int) (to4 : Int) (w : World) (R : World → Prop) : Prop :=
  Calls Tryz.prog 58 #[.map t1, .string s2, .int .i64 vfrom3, .int .i64 to4] w fun e w' => e = .returned (.tuple #[]) ∧ R w'
theorem C58.mono {t1 : Option Nat} {s2 : ByteArray} {vfrom3 : Int} {to4 : Int} {w : World} {R R' : World → Prop} (h : C58 t1 s2 vfrom3 to4 w R) (hr : ∀ w', R w' → R' w') : C58 t1 s2 vfrom3 to4 w R' :=
  Calls.mono h fun _ _ ⟨he, hR⟩ => ⟨he, hr _ hR⟩
def C35 (s1 : ByteArray) (w : World) (R : Slc → World → Prop) : Prop :=
  Calls Tryz.prog 35 #[.string s1] w fun e w' => ∃ r0 : Slc, e = .returned (Slc.v r0) ∧ R r0 w'
theorem C35.mono {s1 : ByteArray} {w : World} {R R' : Slc → World → Prop} (h : C35 s1 w R) (hr : ∀ r0 w', R r0 w' → R' r0 w') : C35 s1 w R' :=
  Calls.mono h fun _ _ ⟨r0, he, hR⟩ => ⟨r0, he, hr _ _ hR⟩
def C34 (s1 : ByteArray) (w : World) (R : ByteArray → World → Prop) : Prop :=
  Calls Tryz.prog 34 #[.string s1] w fun e w' => ∃ r0 : ByteArray, e = .returned (.string r0) ∧ R r0 w'
theorem C34.mono {s1 : ByteArray} {w : World} {R R' : ByteArray → World → Prop} (h : C34 s1 w R) (hr : ∀ r0 w', R r0 w' → R' r0 w') : C34 s1 w R' :=
  Calls.mono h fun _ _ ⟨r0, he, hR⟩ => ⟨r0, he, hr _ _ hR⟩

def S112L1 (group3 : Int) (R : Int → Int → Int → World → Prop) (I9 : (Int × Int × Int) → World → Prop) (s7 : Int × Int × Int) (vw8 : World) : Prop :=
  0 ≤ s7.2.2 ∧ Br (decide (s7.1 ≥ (IntKind.i64.wrap (group3 * 2 ^ (min (s7.2.2).toNat 64))))) (0 ≤ s7.2.2 ∧ I9 (IntKind.i64.wrap (s7.1 - (IntKind.i64.wrap (group3 * 2 ^ (min (s7.2.2).toNat 64)))), IntKind.i64.wrap (s7.2.1 + group3), IntKind.i64.wrap (s7.2.2 + 1)) vw8) (0 ≤ s7.2.2 ∧ 0 ≤ s7.2.2 ∧ Lt (iand .i64 s7.1 (IntKind.i64.wrap ((IntKind.i64.wrap (1 * 2 ^ (min (s7.2.2).toNat 64))) - 1))) fun (x10 : Int) =>
    R (IntKind.i64.wrap (s7.2.1 + (Int.fdiv s7.1 (2 ^ (min (s7.2.2).toNat 64))))) x10 s7.2.2 vw8.drew)
/-- foliant/deflate.said -/
def S112 (n1 : Int) (ones2 : Int) (group3 : Int) (w : World) (R : Int → Int → Int → World → Prop) : Prop :=
  Br (decide (n1 < ones2)) (R n1 0 0 w) (Lp (σ := Int × Int × Int) (S112L1 group3 R) (IntKind.i64.wrap (n1 - ones2), ones2, 1) w)
def pl112 : Plan := (.seq (.reg .seq) (.seq (.seq (.reg .seq) (.cond (.seq (.reg .seq) .leaf) .leaf)) (.seq (.reg .seq) (.seq (.seq (.reg .seq) (.block (.loop [(0, (.one (.int .i64))), (6, (.one (.int .i64))), (8, (.one (.int .i64)))] [2] (.seq (.seq (.reg .seq) (.cond .leaf .leaf)) (.seq (.block (.reg .seq)) (.reg .seq)))))) (.seq (.reg .still) .leaf)))))
set_option maxRecDepth 100000 in
theorem T112 (n1 : Int) (ones2 : Int) (group3 : Int) (w : World) (R : Int → Int → Int → World → Prop) (h : S112 n1 ones2 group3 w R) : C112 n1 ones2 group3 w R := by
  have e : fnT Tryz.prog ⟨FF, MAY, (fun _ _ => False)⟩ pl112 Tryz.f112 [.int .i64 n1, .int .i64 ones2, .int .i64 group3] w [(.one (.int .i64)), (.one (.int .i64)), (.one (.int .i64))] (fun s w => R s.1 s.2.1 s.2.2 w) = S112 n1 ones2 group3 w R := by kernel_rfl
  exact (fn_calls okF okM Tryz.func112 (by kernel_rfl) (by kernel_rfl) (e.mpr h)).mono fun _ _ ⟨s, he, hR⟩ => ⟨s.1, s.2.1, s.2.2, he, hR⟩

/-- foliant/deflate.Sign -/
def S93 (size1 : Int) (w : World) (R : Int → Int → Int → Int → World → Prop) : Prop :=
  Br (decide (size1 < 3)) (R 0 0 0 1 w) (Br (decide (size1 > 258)) (R 0 0 0 1 w) (Br (size1 == 258) (R 285 0 0 0 w) (C112 (IntKind.i64.wrap (size1 - 3)) 8 4 w fun r2 r3 r4 vw5 =>
          R (IntKind.i64.wrap (257 + r2)) r3 r4 0 vw5)))
def pl93 : Plan := (.seq (.reg .seq) (.seq (.block (.seq (.reg .seq) (.cond (.seq (.reg .seq) .leaf) (.seq (.reg .seq) (.cond (.seq (.reg .seq) .leaf) .leaf))))) (.seq (.reg .seq) (.seq (.reg .seq) .leaf))))
set_option maxRecDepth 100000 in
theorem T93 (size1 : Int) (w : World) (R : Int → Int → Int → Int → World → Prop) (h : S93 size1 w R) : C93 size1 w R := by
  have e : fnT Tryz.prog ⟨FF, MAY, (fun _ _ => False)⟩ pl93 Tryz.f93 [.int .i64 size1] w [(.one (.int .i64)), (.one (.int .i64)), (.one (.int .i64)), (.one (.int .i64))] (fun s w => R s.1 s.2.1 s.2.2.1 s.2.2.2 w) = S93 size1 w R := by kernel_rfl
  exact (fn_calls okF okM Tryz.func93 (by kernel_rfl) (by kernel_rfl) (e.mpr h)).mono fun _ _ ⟨s, he, hR⟩ => ⟨s.1, s.2.1, s.2.2.1, s.2.2.2, he, hR⟩

/-- foliant/deflate.Back -/
def S94 (far1 : Int) (w : World) (R : Int → Int → Int → Int → World → Prop) : Prop :=
  Br (decide (far1 < 1)) (R 0 0 0 1 w) (Br (decide (far1 > 32768)) (R 0 0 0 1 w) (C112 (IntKind.i64.wrap (far1 - 1)) 4 2 w fun r2 r3 r4 vw5 =>
        R r2 r3 r4 0 vw5))
def pl94 : Plan := (.seq (.reg .seq) (.seq (.seq (.reg .seq) (.cond (.seq (.reg .seq) .leaf) .leaf)) (.seq (.reg .seq) (.seq (.reg .seq) .leaf))))
set_option maxRecDepth 100000 in
theorem T94 (far1 : Int) (w : World) (R : Int → Int → Int → Int → World → Prop) (h : S94 far1 w R) : C94 far1 w R := by
  have e : fnT Tryz.prog ⟨FF, MAY, (fun _ _ => False)⟩ pl94 Tryz.f94 [.int .i64 far1] w [(.one (.int .i64)), (.one (.int .i64)), (.one (.int .i64)), (.one (.int .i64))] (fun s w => R s.1 s.2.1 s.2.2.1 s.2.2.2 w) = S94 far1 w R := by kernel_rfl
  exact (fn_calls okF okM Tryz.func94 (by kernel_rfl) (by kernel_rfl) (e.mpr h)).mono fun _ _ ⟨s, he, hR⟩ => ⟨s.1, s.2.1, s.2.2.1, s.2.2.2, he, hR⟩

def S87L1 (s1 : ByteArray) (a2 : Int) (b3 : Int) (most4 : Int) (R : Int → World → Prop) (I7 : Int → World → Prop) (s5 : Int) (vw6 : World) : Prop :=
  Br (decide (s5 < most4)) (0 ≤ (IntKind.i64.wrap (a2 + s5)) ∧ (IntKind.i64.wrap (a2 + s5)) < ((s1).size : Nat) ∧ 0 ≤ (IntKind.i64.wrap (b3 + s5)) ∧ (IntKind.i64.wrap (b3 + s5)) < ((s1).size : Nat) ∧ Br ((bAt s1 (IntKind.i64.wrap (a2 + s5))) == (bAt s1 (IntKind.i64.wrap (b3 + s5)))) (I7 (IntKind.i64.wrap (s5 + 1)) vw6.drew) (R s5 vw6.drew)) (R s5 vw6.drew)
/-- foliant/deflate.alike -/
def S87 (s1 : ByteArray) (a2 : Int) (b3 : Int) (most4 : Int) (w : World) (R : Int → World → Prop) : Prop :=
  Lp (σ := Int) (S87L1 s1 a2 b3 most4 R) 0 w
def pl87 : Plan := (.seq (.reg .seq) (.seq (.reg .seq) (.seq (.block (.loop [(9, (.one (.int .i64)))] [0, 1, 2, 3] (.seq (.seq (.reg .still) (.cond .leaf .leaf)) (.block (.reg .seq))))) (.seq (.reg .seq) .leaf))))
set_option maxRecDepth 100000 in
theorem T87 (s1 : ByteArray) (a2 : Int) (b3 : Int) (most4 : Int) (w : World) (R : Int → World → Prop) (h : S87 s1 a2 b3 most4 w R) : C87 s1 a2 b3 most4 w R := by
  have e : fnT Tryz.prog ⟨FF, MAY, (fun _ _ => False)⟩ pl87 Tryz.f87 [.string s1, .int .i64 a2, .int .i64 b3, .int .i64 most4] w [(.one (.int .i64))] (fun s w => R s w) = S87 s1 a2 b3 most4 w R := by kernel_rfl
  exact (fn_calls okF okM Tryz.func87 (by kernel_rfl) (by kernel_rfl) (e.mpr h)).mono fun _ _ ⟨s, he, hR⟩ => ⟨s, he, hR⟩

def S57L1 (w : World) (s2 : ByteArray) (vat3 : Int) (vw4 : World) (x21 : Int) (x22 : Slc) (R : (Int × Int × Int) → World → Prop) (I26 : Int → World → Prop) (s24 : Int) (vw25 : World) : Prop :=
  Br (decide (s24 ≥ 0)) (0 ≤ s24 ∧ s24 < (x22.len : Nat) ∧ Nn x22.p fun a30 =>
    Ld vw25 (a30.add ((s24).toNat * 1)) (Value.int .i64) fun (x31 : Int) =>
    Br (decide ((IntKind.i64.wrap (vat3 - x31)) ≤ 32768)) (Ld vw25 ((⟨vw4.heap.size, 0, none⟩ : Addr).add 1) (Value.int .i64) fun (x32 : Int) =>
      Br (decide (x32 < x21)) (0 ≤ s24 ∧ s24 < (x22.len : Nat) ∧ Nn x22.p fun a33 =>
        Ld vw25 (a33.add ((s24).toNat * 1)) (Value.int .i64) fun (x34 : Int) =>
        C87 s2 x34 vat3 x21 vw25 fun r35 vw36 =>
          Ld vw36 ((⟨vw4.heap.size, 0, none⟩ : Addr).add 1) (Value.int .i64) fun (x37 : Int) =>
          Br (decide (r35 > x37)) (0 ≤ s24 ∧ s24 < (x22.len : Nat) ∧ Nn x22.p fun a38 =>
            Ld vw36 (a38.add ((s24).toNat * 1)) (Value.int .i64) fun (x39 : Int) =>
            St vw36 (⟨vw4.heap.size, 0, none⟩ : Addr) (.int .u8 0) fun vw40 =>
            St vw40 ((⟨vw4.heap.size, 0, none⟩ : Addr).add 1) (.int .i64 r35) fun vw41 =>
            St vw41 ((⟨vw4.heap.size, 0, none⟩ : Addr).add 2) (.int .i64 (IntKind.i64.wrap (vat3 - x39))) fun vw42 =>
            I26 (IntKind.i64.wrap (s24 - 1)) vw42) (I26 (IntKind.i64.wrap (s24 - 1)) vw36)) (Ld vw25 (⟨vw4.heap.size, 0, none⟩ : Addr) (Value.int .u8) fun (x43 : Int) =>
        Ld vw25 ((⟨vw4.heap.size, 0, none⟩ : Addr).add 1) (Value.int .i64) fun (x44 : Int) =>
        Ld vw25 ((⟨vw4.heap.size, 0, none⟩ : Addr).add 2) (Value.int .i64) fun (x45 : Int) =>
        St vw25 (⟨w.heap.size, 0, none⟩ : Addr) (.int .u8 x43) fun vw46 =>
        St vw46 ((⟨w.heap.size, 0, none⟩ : Addr).add 1) (.int .i64 x44) fun vw47 =>
        St vw47 ((⟨w.heap.size, 0, none⟩ : Addr).add 2) (.int .i64 x45) fun vw48 =>
        Ld vw48 (⟨w.heap.size, 0, none⟩ : Addr) (Value.int .u8) fun (x49 : Int) =>
        Ld vw48 ((⟨w.heap.size, 0, none⟩ : Addr).add 1) (Value.int .i64) fun (x50 : Int) =>
        Ld vw48 ((⟨w.heap.size, 0, none⟩ : Addr).add 2) (Value.int .i64) fun (x51 : Int) =>
        R (x49, x50, x51) vw48)) (Ld vw25 (⟨vw4.heap.size, 0, none⟩ : Addr) (Value.int .u8) fun (x52 : Int) =>
      Ld vw25 ((⟨vw4.heap.size, 0, none⟩ : Addr).add 1) (Value.int .i64) fun (x53 : Int) =>
      Ld vw25 ((⟨vw4.heap.size, 0, none⟩ : Addr).add 2) (Value.int .i64) fun (x54 : Int) =>
      St vw25 (⟨w.heap.size, 0, none⟩ : Addr) (.int .u8 x52) fun vw55 =>
      St vw55 ((⟨w.heap.size, 0, none⟩ : Addr).add 1) (.int .i64 x53) fun vw56 =>
      St vw56 ((⟨w.heap.size, 0, none⟩ : Addr).add 2) (.int .i64 x54) fun vw57 =>
      Ld vw57 (⟨w.heap.size, 0, none⟩ : Addr) (Value.int .u8) fun (x58 : Int) =>
      Ld vw57 ((⟨w.heap.size, 0, none⟩ : Addr).add 1) (Value.int .i64) fun (x59 : Int) =>
      Ld vw57 ((⟨w.heap.size, 0, none⟩ : Addr).add 2) (Value.int .i64) fun (x60 : Int) =>
      R (x58, x59, x60) vw57)) (Ld vw25 (⟨vw4.heap.size, 0, none⟩ : Addr) (Value.int .u8) fun (x61 : Int) =>
    Ld vw25 ((⟨vw4.heap.size, 0, none⟩ : Addr).add 1) (Value.int .i64) fun (x62 : Int) =>
    Ld vw25 ((⟨vw4.heap.size, 0, none⟩ : Addr).add 2) (Value.int .i64) fun (x63 : Int) =>
    St vw25 (⟨w.heap.size, 0, none⟩ : Addr) (.int .u8 x61) fun vw64 =>
    St vw64 ((⟨w.heap.size, 0, none⟩ : Addr).add 1) (.int .i64 x62) fun vw65 =>
    St vw65 ((⟨w.heap.size, 0, none⟩ : Addr).add 2) (.int .i64 x63) fun vw66 =>
    Ld vw66 (⟨w.heap.size, 0, none⟩ : Addr) (Value.int .u8) fun (x67 : Int) =>
    Ld vw66 ((⟨w.heap.size, 0, none⟩ : Addr).add 1) (Value.int .i64) fun (x68 : Int) =>
    Ld vw66 ((⟨w.heap.size, 0, none⟩ : Addr).add 2) (Value.int .i64) fun (x69 : Int) =>
    R (x67, x68, x69) vw66)
/-- (foliant/deflate.trail).copied -/
def S57 (t1 : Option Nat) (s2 : ByteArray) (vat3 : Int) (w : World) (R : (Int × Int × Int) → World → Prop) : Prop :=
  Nw w (.cells #[.int .u8 0, .int .i64 0, .int .i64 0] 91) fun vw4 =>
  Nw vw4 (.cells #[.int .u8 0, .int .i64 0, .int .i64 0] 91) fun vw5 =>
  Br (decide ((IntKind.i64.wrap (vat3 + 3)) > (((s2).size : Nat) : Int))) (Ld vw5 (⟨vw4.heap.size, 0, none⟩ : Addr) (Value.int .u8) fun (x12 : Int) =>
    Ld vw5 ((⟨vw4.heap.size, 0, none⟩ : Addr).add 1) (Value.int .i64) fun (x13 : Int) =>
    Ld vw5 ((⟨vw4.heap.size, 0, none⟩ : Addr).add 2) (Value.int .i64) fun (x14 : Int) =>
    St vw5 (⟨w.heap.size, 0, none⟩ : Addr) (.int .u8 x12) fun vw15 =>
    St vw15 ((⟨w.heap.size, 0, none⟩ : Addr).add 1) (.int .i64 x13) fun vw16 =>
    St vw16 ((⟨w.heap.size, 0, none⟩ : Addr).add 2) (.int .i64 x14) fun vw17 =>
    Ld vw17 (⟨w.heap.size, 0, none⟩ : Addr) (Value.int .u8) fun (x18 : Int) =>
    Ld vw17 ((⟨w.heap.size, 0, none⟩ : Addr).add 1) (Value.int .i64) fun (x19 : Int) =>
    Ld vw17 ((⟨w.heap.size, 0, none⟩ : Addr).add 2) (Value.int .i64) fun (x20 : Int) =>
    R (x18, x19, x20) vw17) (Lt ((if (IntKind.i64.wrap ((((s2).size : Nat) : Int) - vat3)) < 258 then (IntKind.i64.wrap ((((s2).size : Nat) : Int) - vat3)) else 258)) fun (x21 : Int) =>
    0 ≤ (IntKind.i64.wrap (vat3 + 3)) ∧ (IntKind.i64.wrap (vat3 + 3)) ≤ (((s2).size : Nat) : Int) ∧ 0 ≤ vat3 ∧ vat3 ≤ (((IntKind.i64.wrap (vat3 + 3)).toNat : Nat) : Int) ∧ Rn Tryz.prog (Instr.lookup 89 (.map t1) (.string (s2.extract ((vat3).toNat) ((IntKind.i64.wrap (vat3 + 3)).toNat))) false) vw5 Slc.v fun (x22 : Slc) vw23 =>
    Lp (σ := Int) (S57L1 w s2 vat3 vw4 x21 x22 R) (IntKind.i64.wrap (((x22.len : Nat) : Int) - 1)) vw23)
def pl57 : Plan := (.seq (.reg .seq) (.seq (.reg .seq) (.seq (.seq (.reg .seq) (.cond (.seq (.reg .seq) .leaf) .leaf)) (.seq (.reg .seq) (.seq (.reg .seq) (.seq (.seq (.reg .seq) (.block (.loop [(10, (.one (.int .i64)))] [1, 2, 6, 7, 8, 9] (.seq (.seq (.reg .seq) (.cond .leaf .leaf)) (.seq (.block (.seq (.reg .seq) (.seq (.reg .seq) (.cond (.reg .seq) .leaf)))) (.reg .seq)))))) (.seq (.reg .seq) .leaf)))))))
set_option maxRecDepth 100000 in
theorem T57 (t1 : Option Nat) (s2 : ByteArray) (vat3 : Int) (w : World) (R : (Int × Int × Int) → World → Prop) (h : S57 t1 s2 vat3 w R) : C57 t1 s2 vat3 w R := by
  have e : fnT Tryz.prog ⟨FF, MAY, (fun _ _ => False)⟩ pl57 Tryz.f57 [.map t1, .string s2, .int .i64 vat3] w [(.agg [(.int .u8), (.int .i64), (.int .i64)])] (fun s w => R s w) = S57 t1 s2 vat3 w R := by kernel_rfl
  exact (fn_calls okF okM Tryz.func57 (by kernel_rfl) (by kernel_rfl) (e.mpr h)).mono fun _ _ ⟨s, he, hR⟩ => ⟨s, he, hR⟩

def S58L1 (t1 : Option Nat) (s2 : ByteArray) (to4 : Int) (R : World → Prop) (I7 : Int → World → Prop) (s5 : Int) (vw6 : World) : Prop :=
  Br (decide (s5 < to4)) (Br (decide ((IntKind.i64.wrap (s5 + 3)) ≤ (((s2).size : Nat) : Int))) (0 ≤ (IntKind.i64.wrap (s5 + 3)) ∧ (IntKind.i64.wrap (s5 + 3)) ≤ (((s2).size : Nat) : Int) ∧ 0 ≤ s5 ∧ s5 ≤ (((IntKind.i64.wrap (s5 + 3)).toNat : Nat) : Int) ∧ 0 ≤ (IntKind.i64.wrap (s5 + 3)) ∧ (IntKind.i64.wrap (s5 + 3)) ≤ (((s2).size : Nat) : Int) ∧ 0 ≤ s5 ∧ s5 ≤ (((IntKind.i64.wrap (s5 + 3)).toNat : Nat) : Int) ∧ (Rn Tryz.prog (Instr.lookup 89 (.map t1) (.string (s2.extract ((s5).toNat) ((IntKind.i64.wrap (s5 + 3)).toNat))) false) vw6.drew Slc.v fun (x8 : Slc) vw9 =>
        Nw vw9 (.cells #[.int .i64 s5] 3) fun vw10 =>
        Rn Tryz.prog (Builtin.append_ #[76, 76] 76 #[Slc.v x8, Slc.v ((⟨some ⟨vw9.heap.size, 0, none⟩, 1, 1⟩ : Slc))]) vw10 Slc.v fun (x11 : Slc) vw12 =>
        Ru Tryz.prog (Instr.mapUpdate 89 (.map t1) (.string (s2.extract ((s5).toNat) ((IntKind.i64.wrap (s5 + 3)).toNat))) (Slc.v x11)) vw12 fun vw13 =>
        I7 (IntKind.i64.wrap (s5 + 1)) vw13) ∧
      (Nw vw6.drew (.cells #[.int .i64 s5] 3) fun vw14 =>
        Rn Tryz.prog (Instr.lookup 89 (.map t1) (.string (s2.extract ((s5).toNat) ((IntKind.i64.wrap (s5 + 3)).toNat))) false) vw14 Slc.v fun (x15 : Slc) vw16 =>
        Rn Tryz.prog (Builtin.append_ #[76, 76] 76 #[Slc.v x15, Slc.v ((⟨some ⟨vw6.drew.heap.size, 0, none⟩, 1, 1⟩ : Slc))]) vw16 Slc.v fun (x17 : Slc) vw18 =>
        Ru Tryz.prog (Instr.mapUpdate 89 (.map t1) (.string (s2.extract ((s5).toNat) ((IntKind.i64.wrap (s5 + 3)).toNat))) (Slc.v x17)) vw18 fun vw19 =>
        I7 (IntKind.i64.wrap (s5 + 1)) vw19)) (R vw6)) (R vw6)
/-- (foliant/deflate.trail).add -/
def S58 (t1 : Option Nat) (s2 : ByteArray) (vfrom3 : Int) (to4 : Int) (w : World) (R : World → Prop) : Prop :=
  Lp (σ := Int) (S58L1 t1 s2 to4 R) vfrom3 w
def pl58 : Plan := (.seq (.reg .seq) (.block (.loop [(8, (.one (.int .i64)))] [0, 1, 3] (.seq (.seq (.reg .seq) (.cond .leaf .leaf)) (.seq (.block (.reg (.held [12, 14] (.take 0 (.take 1 (.take 2 (.take 3 (.take 4 (.take 5 (.take 6 (.take 7 (.take 8 (.take 9 (.take 10 (.take 11 (.take 13 (.effs 12 (some [14]) (.eff 14 (some [15]) (.eff 15 (some [16]) (.eff 16 (some []) .done))) (.eff 14 (some [12]) (.eff 12 (some [15]) (.eff 15 (some [16]) (.eff 16 (some []) .done))))))))))))))))))))) (.reg .seq))))))
set_option maxRecDepth 100000 in
theorem T58 (t1 : Option Nat) (s2 : ByteArray) (vfrom3 : Int) (to4 : Int) (w : World) (R : World → Prop) (h : S58 t1 s2 vfrom3 to4 w R) : C58 t1 s2 vfrom3 to4 w R := by
  have e : fnT Tryz.prog ⟨FF, MAY, (fun _ _ => False)⟩ pl58 Tryz.f58 [.map t1, .string s2, .int .i64 vfrom3, .int .i64 to4] w [] (fun _ w => R w) = S58 t1 s2 vfrom3 to4 w R := by kernel_rfl
  exact (fn_calls okF okM Tryz.func58 (by kernel_rfl) (by kernel_rfl) (e.mpr h)).mono fun _ _ ⟨_, he, hR⟩ => ⟨he, hR⟩

def S35L1 (w : World) (s1 : ByteArray) (R : Slc → World → Prop) (I5 : (Slc × Int) → World → Prop) (s3 : Slc × Int) (vw4 : World) : Prop :=
  Br (decide (s3.2 < (((s1).size : Nat) : Int))) (C57 (some w.heap.size) s1 s3.2 vw4 fun r6 vw7 =>
      Nw vw7 (.cells #[.int .u8 0, .int .i64 0, .int .i64 0] 91) fun vw8 =>
      St vw8 (⟨vw7.heap.size, 0, none⟩ : Addr) (.int .u8 (r6.1)) fun vw9 =>
      St vw9 ((⟨vw7.heap.size, 0, none⟩ : Addr).add 1) (.int .i64 (r6.2.1)) fun vw10 =>
      St vw10 ((⟨vw7.heap.size, 0, none⟩ : Addr).add 2) (.int .i64 (r6.2.2)) fun vw11 =>
      Ld vw11 ((⟨vw7.heap.size, 0, none⟩ : Addr).add 1) (Value.int .i64) fun (x12 : Int) =>
      Ld vw11 ((⟨vw7.heap.size, 0, none⟩ : Addr).add 1) (Value.int .i64) fun (x15 : Int) =>
      Br (x15 == 0) (0 ≤ s3.2 ∧ s3.2 < ((s1).size : Nat) ∧ St vw11 (⟨vw7.heap.size, 0, none⟩ : Addr) (.int .u8 (bAt s1 s3.2)) fun vw16 =>
        Ld vw16 (⟨vw7.heap.size, 0, none⟩ : Addr) (Value.int .u8) fun (x17 : Int) =>
        Ld vw16 ((⟨vw7.heap.size, 0, none⟩ : Addr).add 1) (Value.int .i64) fun (x18 : Int) =>
        Ld vw16 ((⟨vw7.heap.size, 0, none⟩ : Addr).add 2) (Value.int .i64) fun (x19 : Int) =>
        Nw vw16 (.cells #[.int .u8 x17, .int .i64 x18, .int .i64 x19] 91) fun vw20 =>
        Rn Tryz.prog (Builtin.append_ #[63, 63] 63 #[Slc.v s3.1, Slc.v ((⟨some ⟨vw16.heap.size, 0, none⟩, 1, 1⟩ : Slc))]) vw20 Slc.v fun (x21 : Slc) vw22 =>
        C58 (some w.heap.size) s1 s3.2 (IntKind.i64.wrap (s3.2 + (if 1 > x12 then 1 else x12))) vw22 fun vw23 =>
          I5 (x21, IntKind.i64.wrap (s3.2 + (if 1 > x12 then 1 else x12))) vw23) (Ld vw11 (⟨vw7.heap.size, 0, none⟩ : Addr) (Value.int .u8) fun (x24 : Int) =>
        Ld vw11 ((⟨vw7.heap.size, 0, none⟩ : Addr).add 1) (Value.int .i64) fun (x25 : Int) =>
        Ld vw11 ((⟨vw7.heap.size, 0, none⟩ : Addr).add 2) (Value.int .i64) fun (x26 : Int) =>
        Nw vw11 (.cells #[.int .u8 x24, .int .i64 x25, .int .i64 x26] 91) fun vw27 =>
        Rn Tryz.prog (Builtin.append_ #[63, 63] 63 #[Slc.v s3.1, Slc.v ((⟨some ⟨vw11.heap.size, 0, none⟩, 1, 1⟩ : Slc))]) vw27 Slc.v fun (x28 : Slc) vw29 =>
        C58 (some w.heap.size) s1 s3.2 (IntKind.i64.wrap (s3.2 + (if 1 > x12 then 1 else x12))) vw29 fun vw30 =>
          I5 (x28, IntKind.i64.wrap (s3.2 + (if 1 > x12 then 1 else x12))) vw30)) (R s3.1 vw4)
/-- foliant/deflate.Parts -/
def S35 (s1 : ByteArray) (w : World) (R : Slc → World → Prop) : Prop :=
  Br (decide ((((s1).size : Nat) : Int) > 1048576)) (R (⟨none, 0, 0⟩ : Slc) w) (Nw w (.map #[] 0) fun vw2 =>
    Lp (σ := Slc × Int) (S35L1 w s1 R) ((⟨none, 0, 0⟩ : Slc), 0) vw2)
def pl35 : Plan := (.seq (.reg .seq) (.seq (.seq (.reg .seq) (.cond (.seq (.reg .seq) .leaf) .leaf)) (.seq (.reg .seq) (.seq (.reg .seq) (.seq (.seq (.reg .seq) (.block (.loop [(3, (.one .slc)), (5, (.one (.int .i64)))] [0, 4] (.seq (.seq (.reg .seq) (.cond .leaf .leaf)) (.block (.seq (.reg .seq) (.seq (.reg .seq) (.seq (.seq (.reg .seq) (.cond (.reg .seq) .leaf)) (.seq (.reg .seq) (.seq (.reg .seq) (.reg .seq))))))))))) (.seq (.reg .seq) .leaf))))))
set_option maxRecDepth 100000 in
theorem T35 (s1 : ByteArray) (w : World) (R : Slc → World → Prop) (h : S35 s1 w R) : C35 s1 w R := by
  have e : fnT Tryz.prog ⟨FF, MAY, (fun _ _ => False)⟩ pl35 Tryz.f35 [.string s1] w [(.one .slc)] (fun s w => R s w) = S35 s1 w R := by kernel_rfl
  exact (fn_calls okF okM Tryz.func35 (by kernel_rfl) (by kernel_rfl) (e.mpr h)).mono fun _ _ ⟨s, he, hR⟩ => ⟨s, he, hR⟩

def S34J1 (r2 : Option Addr) (s4 : ByteArray) (I6 : ByteArray → World → Prop) (R : ByteArray → World → Prop) (s8 : Int) (vw9 : World) : Prop :=
  C53 r2 s8 1 vw9 fun r10 vw11 =>
    C53 r2 0 2 vw11 fun r12 vw13 =>
      C54 r2 vw13 fun vw14 =>
        C53 r2 (if 65535 < (((s4).size : Nat) : Int) then 65535 else (((s4).size : Nat) : Int)) 16 vw14 fun r15 vw16 =>
          Lt (IntKind.i64.wrap (65535 - (if 65535 < (((s4).size : Nat) : Int) then 65535 else (((s4).size : Nat) : Int)))) fun (x17 : Int) =>
          C53 r2 x17 16 vw16 fun r18 vw19 =>
            C54 r2 vw19 fun vw20 =>
              0 ≤ (if 65535 < (((s4).size : Nat) : Int) then 65535 else (((s4).size : Nat) : Int)) ∧ (if 65535 < (((s4).size : Nat) : Int) then 65535 else (((s4).size : Nat) : Int)) ≤ (((s4).size : Nat) : Int) ∧ Lt (s4.extract 0 (((if 65535 < (((s4).size : Nat) : Int) then 65535 else (((s4).size : Nat) : Int))).toNat)) fun (x21 : ByteArray) =>
              C55 r2 x21 vw20 fun vw22 =>
                0 ≤ (if 65535 < (((s4).size : Nat) : Int) then 65535 else (((s4).size : Nat) : Int)) ∧ (if 65535 < (((s4).size : Nat) : Int) then 65535 else (((s4).size : Nat) : Int)) ≤ (((s4).size : Nat) : Int) ∧ Lt (s4.extract (((if 65535 < (((s4).size : Nat) : Int) then 65535 else (((s4).size : Nat) : Int))).toNat) ((s4).size)) fun (x23 : ByteArray) =>
                Br (s8 == 1) (C56 r2 vw22 fun r24 vw25 =>
                    R r24 vw25) (I6 x23 vw22)
def S34L1 (r2 : Option Addr) (R : ByteArray → World → Prop) (I6 : ByteArray → World → Prop) (s4 : ByteArray) (vw5 : World) : Prop :=
  Join (S34J1 r2 s4 I6 R) fun (vJ26 : Int → World → Prop) =>
    Lt ((if 65535 < (((s4).size : Nat) : Int) then 65535 else (((s4).size : Nat) : Int)) == (((s4).size : Nat) : Int)) fun (x27 : Bool) =>
    Br x27 (vJ26 1 vw5) (vJ26 0 vw5)
/-- foliant/deflate.stored -/
def S34 (s1 : ByteArray) (w : World) (R : ByteArray → World → Prop) : Prop :=
  C52 w fun r2 vw3 =>
    Lp (σ := ByteArray) (S34L1 r2 R) s1 vw3
def pl34 : Plan := (.seq (.reg .seq) (.seq (.reg .seq) (.block (.loop [(0, (.one .str))] [3] (.block (.seq (.reg .seq) (.seq (.reg .seq) (.join [(5, (.one (.int .i64)))] [0, 3, 4] (.seq (.reg .seq) (.cond (.reg .seq) .leaf)) (.seq (.reg .seq) (.seq (.reg .seq) (.seq (.reg .seq) (.seq (.reg .seq) (.seq (.reg .seq) (.seq (.reg .seq) (.seq (.reg .seq) (.seq (.reg .seq) (.seq (.reg .seq) (.cond (.seq (.reg .seq) .leaf) .leaf))))))))))))))))))
set_option maxRecDepth 100000 in
theorem T34 (s1 : ByteArray) (w : World) (R : ByteArray → World → Prop) (h : S34 s1 w R) : C34 s1 w R := by
  have e : fnT Tryz.prog ⟨FF, MAY, (fun _ _ => False)⟩ pl34 Tryz.f34 [.string s1] w [(.one .str)] (fun s w => R s w) = S34 s1 w R := by kernel_rfl
  exact (fn_calls okF okM Tryz.func34 (by kernel_rfl) (by kernel_rfl) (e.mpr h)).mono fun _ _ ⟨s, he, hR⟩ => ⟨s, he, hR⟩

end Go.Proofs.YtjkoafjnmkchdaaGreatDoor

/- Deflate: the sign of a length or a distance, both sides. No condition. -/
namespace Go.Proofs.YtjkoafjnmkchdaaGreatDoor
namespace Inf
open Sh Bit
set_option linter.unusedVariables false
set_option linter.unusedSimpArgs false
set_option maxRecDepth 4000
set_option maxHeartbeats 1000000
attribute [local irreducible] Ld St Nw Nn Lt LdS
/-- What the sign of a size is. -/
def sgnF (v : Int) : Int × Int × Int × Int := if v < 3 ∨ 258 < v then (0, 0, 0, 1) else (((257 + kL v.toNat : Nat) : Int), ((v.toNat - firstL (kL v.toNat) : Nat) : Int), ((moreL (kL v.toNat) : Nat) : Int), 0)
def bckF (v : Int) : Int × Int × Int × Int := if v < 1 ∨ 32768 < v then (0, 0, 0, 1) else (((kD v.toNat : Nat) : Int), ((v.toNat - baseD (kD v.toNat) : Nat) : Int), ((moreD (kD v.toNat) : Nat) : Int), 0)
theorem spr_small {first each : Nat} (he : 2 ≤ each) : ∀ k, k ≤ 2 * each → spr first each k = first + k
  | 0, _ => rfl
  | k + 1, h => by
    show spr first each k + 2 ^ (k / each - 1) = _
    have : k / each ≤ 1 := by
      have := (Nat.div_lt_iff_lt_mul (by omega : 0 < each)).2 (show k < 2 * each by omega)
      omega
    rw [spr_small he k (by omega), show k / each - 1 = 0 by omega]
    omega
theorem spr_step {first each j : Nat} (he : 2 ≤ each) : ∀ q, q ≤ each → spr first each (each * (j + 2) + q) = spr first each (each * (j + 2)) + q * 2 ^ (j + 1)
  | 0, _ => by simp
  | q + 1, h => by
    show spr first each (each * (j + 2) + q) + 2 ^ ((each * (j + 2) + q) / each - 1) = _
    have : (each * (j + 2) + q) / each = j + 2 := by
      rw [Nat.mul_add_div (by omega), Nat.div_eq_of_lt (by omega)]
    rw [spr_step he q (by omega), this, show j + 2 - 1 = j + 1 by omega, Nat.add_mul, Nat.one_mul, Nat.add_assoc]
theorem mask_mod {x m : Nat} (hx : x < 2 ^ 40) (hm : m ≤ 30) : iand .i64 (x : Int) (IntKind.i64.wrap (IntKind.i64.wrap (1 * 2 ^ (min ((m : Int)).toNat 64)) - 1)) = ((x % 2 ^ m : Nat) : Int) := by
  have hp : 2 ^ m ≤ 2 ^ 30 := Nat.pow_le_pow_right (by omega) hm
  have h0 : 0 < 2 ^ m := Nat.pow_pos (by decide)
  rw [sh1 rfl hm, ← Nat.and_two_pow_sub_one_eq_mod]
  generalize 2 ^ m = P at hp h0
  rw [i64_id (by omega), show (P : Int) - 1 = ((P - 1 : Nat) : Int) by omega, iand_nat (by omega) (by omega)]
theorem spr_ge (first each : Nat) : ∀ k, first ≤ spr first each k
  | 0 => Nat.le_refl _
  | k + 1 => Nat.le_trans (spr_ge first each k) (Nat.le_add_right _ _)
/-- foliant/deflate.said. -/
theorem c_said {first each : Nat} (he : each = 2 ∨ each = 4) {n : Nat} (hn : n ≤ 40000) (w : World) : C112 (n : Int) ((2 * each : Nat) : Int) (each : Int) w fun r0 r1 r2 w1 => ∃ k : Nat, r0 = (k : Int) ∧ spr first each k ≤ first + n ∧ first + n < spr first each (k + 1) ∧ r1 = ((first + n - spr first each k : Nat) : Int) ∧ r2 = ((k / each - 1 : Nat) : Int) ∧ Ext (fun _ => False) w w1 := by
  have h2 : 2 ≤ each := by omega
  refine T112 _ _ _ _ _ ?_
  unfold S112
  refine Br.dec (fun q => ?_) fun q => ?_
  · have : n / each ≤ 1 := by
      have := (Nat.div_lt_iff_lt_mul (by omega : 0 < each)).2 (show n < 2 * each by omega)
      omega
    exact ⟨n, rfl, by rw [spr_small h2 n (by omega)]; omega, by rw [spr_small h2 (n + 1) (by omega)]; omega, by rw [spr_small h2 n (by omega)]; omega, by rw [show n / each - 1 = 0 by omega]; rfl, Ext.refl _ _⟩
  · refine ⟨fun m st w3 => ∃ j : Nat, m = 40 - j ∧ j ≤ 14 ∧ spr first each (each * (j + 2)) ≤ first + n ∧ st = (((first + n - spr first each (each * (j + 2)) : Nat) : Int), ((each * (j + 2) : Nat) : Int), ((j + 1 : Nat) : Int)) ∧ w3 = w, 40, ?_, ?_⟩
    · have e0 : spr first each (each * (0 + 2)) = first + 2 * each := by rw [show each * (0 + 2) = 2 * each by omega, spr_small h2 _ (Nat.le_refl _)]
      refine ⟨0, rfl, by omega, by rw [e0]; omega, ?_, rfl⟩
      rw [e0, i64_id (by omega), show ((n : Nat) : Int) - ((2 * each : Nat) : Int) = ((first + n - (first + 2 * each) : Nat) : Int) by omega, show each * (0 + 2) = 2 * each by omega]
      rfl
    · rintro m st _ ⟨j, rfl, hj, hle, rfl, rfl⟩
      unfold S112L1
      dsimp only
      have hp : 2 ^ (j + 1) ≤ 2 ^ 15 := Nat.pow_le_pow_right (by omega) (by omega)
      have hp0 : 0 < 2 ^ (j + 1) := Nat.pow_pos (by decide)
      have hge := spr_ge first each (each * (j + 2))
      have e2 : (each : Int) * 2 ^ (min (((j + 1 : Nat) : Int)).toNat 64) = ((each * 2 ^ (j + 1) : Nat) : Int) := by rw [Int.toNat_natCast, Nat.min_eq_left (by omega)]; simp
      have hm1 : each * 2 ^ (j + 1) ≤ 4 * 2 ^ 15 := Nat.mul_le_mul (by omega) hp
      have eW : IntKind.i64.wrap ((each * 2 ^ (j + 1) : Nat) : Int) = ((each * 2 ^ (j + 1) : Nat) : Int) := i64_id (by omega)
      have st1 := spr_step (first := first) (j := j) h2 each (Nat.le_refl _)
      have em : each * (j + 2) + each = each * (j + 1 + 2) := by rw [← Nat.mul_succ]
      rw [em] at st1
      have hmul : each * (j + 2) ≤ 4 * 16 := Nat.mul_le_mul (by omega) (by omega)
      refine ⟨by omega, ?_⟩
      rw [e2, eW]
      refine Br.dec (fun q2 => ⟨by omega, ?_⟩) fun q2 => ⟨by omega, by omega, Lt.of ?_⟩
      · have hj2 : j + 1 ≤ 14 := by
          rcases Nat.lt_or_ge j 14 with h | h
          · omega
          · have : j = 14 := by omega
            subst this
            omega
        refine ⟨40 - (j + 1), by omega, j + 1, rfl, hj2, by rw [st1]; omega, ?_, rfl⟩
        rw [st1, i64_id (by omega), i64_id (by omega), i64_id (by omega)]
        refine Prod.ext ?_ (Prod.ext ?_ ?_)
        · show (_ : Int) = _; dsimp only; omega
        · show (_ : Int) = _; dsimp only; rw [← em]; omega
        · show (_ : Int) = _; dsimp only; omega
      · have hx : first + n - spr first each (each * (j + 2)) < each * 2 ^ (j + 1) := by omega
        generalize hxe : first + n - spr first each (each * (j + 2)) = x at hx
        have hq : x / 2 ^ (j + 1) < each := (Nat.div_lt_iff_lt_mul hp0).2 hx
        have hdm := Nat.div_add_mod x (2 ^ (j + 1))
        have hmod := Nat.mod_lt x hp0
        have s1 := spr_step (first := first) (j := j) h2 (x / 2 ^ (j + 1)) (by omega)
        have s2 := spr_step (first := first) (j := j) h2 (x / 2 ^ (j + 1) + 1) (by omega)
        rw [Nat.add_mul, Nat.one_mul] at s2
        rw [Nat.mul_comm] at hdm
        have efd : Int.fdiv (x : Int) (2 ^ (min (((j + 1 : Nat) : Int)).toNat 64)) = ((x / 2 ^ (j + 1) : Nat) : Int) := by
          rw [Int.toNat_natCast, Nat.min_eq_left (by omega), fdiv_pow]
          simp
        have ediv : (each * (j + 2) + x / 2 ^ (j + 1)) / each = j + 2 := by
          rw [Nat.mul_add_div (by omega), Nat.div_eq_of_lt hq]
        have hxb : x < 2 ^ 40 := by omega
        refine ⟨each * (j + 2) + x / 2 ^ (j + 1), ?_, by rw [s1]; omega, by rw [Nat.add_assoc, s2]; omega, ?_, by rw [ediv]; rfl, (Ext.refl _ _).drew⟩
        · rw [efd]
          generalize x / 2 ^ (j + 1) = qq at hq ⊢
          rw [i64_id (by omega)]
          omega
        · rw [mask_mod hxb (by omega), s1]; omega
theorem c_Sign (v : Int) (w : World) : C93 v w fun a b c e w1 => (a, b, c, e) = sgnF v ∧ Ext (fun _ => False) w w1 := by
  refine T93 _ _ _ ?_
  unfold S93 sgnF
  refine Br.dec (fun q => ⟨by rw [if_pos (.inl q)], Ext.refl _ _⟩) fun q => Br.dec (fun q2 => ⟨by rw [if_pos (.inr q2)], Ext.refl _ _⟩) fun q2 => ?_
  rw [if_neg (by omega)]
  obtain ⟨n, rfl⟩ : ∃ n : Nat, v = (n : Int) := ⟨v.toNat, by omega⟩
  rw [Int.toNat_natCast]
  refine Br.eq (fun q3 => ?_) fun q3 => ?_
  · have : n = 258 := by omega
    subst this
    exact ⟨rfl, Ext.refl _ _⟩
  · rw [i64_id (by omega), show (n : Int) - 3 = ((n - 3 : Nat) : Int) by omega]
    refine (c_said (first := 3) (each := 4) (.inr rfl) (n := n - 3) (by omega) w).mono ?_
    rintro a b c w1 ⟨k, rfl, h1, h2, rfl, rfl, he⟩
    rw [spr_L] at h1 h2 ⊢
    have hk := kL_eq (v := n) (k := k) (by omega) (by omega) (by omega) (by omega)
    obtain ⟨k1, k2, k3, k4⟩ := kL_spec (v := n) (by omega) (by omega)
    rw [← hk] at k1 k2 k3 k4 ⊢
    have hne : k ≠ 28 := by omega
    have hf : firstL k = baseL k := by unfold firstL; rw [if_neg hne]
    have hm : moreL k = k / 4 - 1 := by unfold moreL; rw [if_neg hne]
    rw [i64_id (by omega), hf, hm]
    refine ⟨?_, he⟩
    refine Prod.ext ?_ (Prod.ext ?_ rfl)
    · show (_ : Int) = _; dsimp only; omega
    · show (_ : Int) = _; dsimp only; omega
theorem c_Back (v : Int) (w : World) : C94 v w fun a b c e w1 => (a, b, c, e) = bckF v ∧ Ext (fun _ => False) w w1 := by
  refine T94 _ _ _ ?_
  unfold S94 bckF
  refine Br.dec (fun q => ⟨by rw [if_pos (.inl q)], Ext.refl _ _⟩) fun q => Br.dec (fun q2 => ⟨by rw [if_pos (.inr q2)], Ext.refl _ _⟩) fun q2 => ?_
  rw [if_neg (by omega)]
  obtain ⟨n, rfl⟩ : ∃ n : Nat, v = (n : Int) := ⟨v.toNat, by omega⟩
  rw [Int.toNat_natCast]
  rw [i64_id (by omega), show (n : Int) - 1 = ((n - 1 : Nat) : Int) by omega]
  refine (c_said (first := 1) (each := 2) (.inl rfl) (n := n - 1) (by omega) w).mono ?_
  rintro a b c w1 ⟨k, rfl, h1, h2, rfl, rfl, he⟩
  rw [spr_D] at h1 h2 ⊢
  have hk := kD_eq (v := n) (k := k) (by omega) (by omega) (by omega) (by omega)
  rw [← hk]
  refine ⟨?_, he⟩
  refine Prod.ext rfl (Prod.ext ?_ rfl)
  show (_ : Int) = _; dsimp only; omega
/-! ### The reference's -/
end Inf
end Go.Proofs.YtjkoafjnmkchdaaGreatDoor

/- append to a slice that has no room, or to an empty one. Conditions: sizes. -/
namespace Go.Proofs.YtjkoafjnmkchdaaGreatDoor
namespace Sh
set_option linter.unusedVariables false
set_option linter.unusedSimpArgs false
section
variable {P : Program} {t e : TypeId} {k B : Nat} {z : Value} {w : World} {s : Slc} {ty : TypeId} {xs ys news : List Value} {i : TypeInfo} {x : Value} {m len : Nat} {a : Addr}
/-- append to a slice without room. -/
theorem append_fullB (ht : P.underlying t = some (.slice e)) (hi : P.info? e = some i) (hz : i.zero = some z) (hzs : z.cells.size = i.size) (hm : 0 < m)
    (hlen : Builtin.lenOf x = pure m) (hcells : ∀ w' : World, w'.heap = w.heap → (Builtin.firstCells i.size m x).run P w' = .ok news.toArray w') (hl : news.length = m * i.size)
    (hx1 : xs.length = len * i.size) (holds : ∀ j v, xs[j]? = some v → w.cell? (a.add j) = some v) (hb : (len + m) * i.bytes ≤ 140737488355328) (h63 : len + m ≤ 9223372036854775807) :
    ∃ s' w', RunV P (Builtin.append_ #[t, t] ty #[Slc.v ⟨some a, len, len⟩, x]) w (Slc.v s') w' ∧ Row w' s' e i.size (xs ++ news) ∧ s'.len = len + m ∧ Ext (fun _ => False) w w' ∧ ∀ j, s'.own j → w.heap.size ≤ j := by
  have hlenr : (xs ++ news).length = (len + m) * i.size := by rw [List.length_append, hx1, hl, Nat.add_mul]
  have hd : w.drew.heap = w.heap := rfl
  refine ⟨⟨some ⟨w.heap.size, 0, none⟩, len + m, grownCap w (len + m) len e⟩, w.drew.alloc (.cells (xs.toArray ++ news.toArray ++ Builtin.zeroCells z.cells (grownCap w (len + m) len e - (len + m))) e), ?_, ⟨hlenr, .inr ⟨_, _, rfl, Blk.new w.drew _ e, grownCap_ge w (len + m) len e, ?_, ?_⟩⟩, rfl, ((Ext.refl _ w).drew).alloc _, fun j hj => ?_⟩
  · have hc := hcells w.drew hd
    have hf := growslice_fits (need := len + m) (old := len) (by omega) hb
    have hf' : ¬ (281474976710656 < Builtin.nextslicecap (len + m) len * i.bytes) := by omega
    have h6 : ¬ (9223372036854775807 < ((len : Int) + (m : Int))) := by omega
    have hroom : ¬ (len + m ≤ len) := by omega
    have hm0 : m ≠ 0 := by omega
    have hfo := run_firstCells_some (P := P) w.drew i.size len a len len xs hx1 (fun j v hj => by have := holds j v hj; simpa using this)
    simp [RunV, Slc.v, Builtin.append_, run_underlying ht, sizeOf, typeInfo, zeroValue, hi, hz, hlen, hroom, hm0, h6, hf', Question.forced, hfo, hc, newRow, grownCap] <;>
      (congr 2; apply Array.ext'; simp [List.append_assoc])
  · have hge := grownCap_ge w (len + m) len e
    simp only [Array.size_append, List.size_toArray, size_zeroCells, hzs, hx1, hl, ← Nat.add_mul]
    congr 1
    omega
  · simp only [Array.toList_append]
    rw [← hlenr]
    exact List.take_left
  · obtain ⟨a', ha, rfl⟩ := hj
    cases ha
    exact Nat.le_refl _
/-- append(empty, l...): nothing old is written. -/
theorem El.app0 {s2 : Slc} (h : El P t e k B z) (hk : 0 < k) (own : Row w s e k []) (hc : s.cap = 0) (h2 : VRow w s2 k ys) (h1 : ∀ v ∈ ys, v.oneCell' = true) (hb : s2.len * B ≤ 140737488355328) (h63 : s2.len ≤ 9223372036854775807) :
    ∃ s' w', RunV P (Builtin.append_ #[t, t] ty #[Slc.v s, Slc.v s2]) w (Slc.v s') w' ∧ Row w' s' e k ys ∧ s'.len = s2.len ∧ Ext (fun _ => False) w w' ∧ ∀ j, s'.own j → s.own j ∨ w.heap.size ≤ j := by
  have hl0 : s.len = 0 := by
    have := own.1
    rcases Nat.mul_eq_zero.1 this.symm with h0 | h0
    · exact h0
    · omega
  obtain ⟨p, len, cap⟩ := s
  simp only at hc hl0
  subst hc hl0
  cases p with
  | none =>
    obtain ⟨s', w', r1, r2, r3, r4, r5⟩ := h.app (ty := ty) (xs := []) own h2 h1 (by simpa using hb) (by simpa using h63)
    exact ⟨s', w', r1, by simpa using r2, by simpa using r3, r4.mono (fun j _ hj => by obtain ⟨a, ha, _⟩ := hj; cases ha), r5⟩
  | some a =>
    obtain ⟨i, hi, rfl, rfl, hz⟩ := h.info
    have hcells : ∀ w' : World, w'.heap = w.heap → (Builtin.firstCells i.size s2.len (Slc.v s2)).run P w' = .ok ys.toArray w' := fun w' hw' => by
      obtain ⟨p, len, cap⟩ := s2
      cases p with
      | none =>
        have hy : ys = [] := by
          cases ys with
          | nil => rfl
          | cons y r =>
            obtain ⟨a, ha, _⟩ := h2.2 0 y rfl
            cases ha
        subst hy
        have hl := h2.1
        simp only [List.length_nil] at hl
        exact run_firstCells_none (P := P) (w := w') _ _ _ _
      | some a =>
        refine run_firstCells_some w' i.size len a len cap ys h2.1 fun j v hj => ?_
        obtain ⟨a', ha, hc⟩ := h2.2 j v hj
        cases ha
        unfold World.cell? at hc ⊢
        rw [hw']
        exact hc
    by_cases hm : s2.len = 0
    · have hy : ys = [] := List.eq_nil_of_length_eq_zero (by have := h2.1; rw [hm] at this; simpa using this)
      subst hy
      refine ⟨⟨some a, 0, 0⟩, w, ?_, own, hm.symm, Ext.refl _ _, fun j hj => .inl hj⟩
      have hc := hcells w rfl
      have hlen : Builtin.lenOf (Slc.v s2) = pure 0 := by rw [← hm]; rfl
      rw [hm] at hc
      simp [RunV, Builtin.append_, run_underlying h.und, sizeOf, typeInfo, hi, hlen, hc, Slc.v] at *
      simp [RunV, Builtin.append_, run_underlying h.und, sizeOf, typeInfo, hi, hlen, hc, Slc.v, storeCells]
    · obtain ⟨s', w', r1, r2, r3, r4, r5⟩ := append_fullB (ty := ty) (a := a) (len := 0) (xs := []) (x := Slc.v s2) (m := s2.len) h.und hi hz h.cells (by omega) rfl hcells h2.1 (by simp) (fun j v hj => by cases hj) (by simpa using hb) (by simpa using h63)
      exact ⟨s', w', r1, by simpa using r2, by simpa using r3, r4, fun j hj => .inr (r5 j hj)⟩
end
end Sh
end Go.Proofs.YtjkoafjnmkchdaaGreatDoor

/- Deflate: what parts give, or why not; both sides. Conditions: sizes. -/
namespace Go.Proofs.YtjkoafjnmkchdaaGreatDoor
namespace Inf
open Sh Bit
set_option linter.unusedVariables false
set_option linter.unusedSimpArgs false
set_option maxRecDepth 4000
set_option maxHeartbeats 1000000
attribute [local irreducible] Ld St Nw Nn Lt LdS
/-- A part as it lies in memory: a byte, a size, how far back. -/
abbrev Qr := Int × Int × Int
def prow (q : Qr) : List Value := [.int .u8 q.1, .int .i64 q.2.1, .int .i64 q.2.2]
theorem elP : El Tryz.prog 63 91 3 24 (.agg (prow (0, 0, 0)).toArray) := ⟨by kernel_rfl, by kernel_rfl, by kernel_rfl, by kernel_rfl, rfl⟩
theorem p_len (L : List Qr) : (L.flatMap prow).length = L.length * 3 := by
  induction L with
  | nil => rfl
  | cons o L ih => rw [List.flatMap_cons, List.length_append, ih, List.length_cons]; simp [prow]; omega
theorem p_get {L : List Qr} {i j : Nat} {o : Qr} (hi : L[i]? = some o) (hj : j < 3) : (L.flatMap prow)[i * 3 + j]? = (prow o)[j]? := by
  induction L generalizing i with
  | nil => cases hi
  | cons p L ih =>
    rw [List.flatMap_cons]
    cases i with
    | zero =>
      cases hi
      rw [Nat.zero_mul, Nat.zero_add, List.getElem?_append_left (by simp [prow]; omega)]
    | succ i =>
      rw [List.getElem?_append_right (by simp [prow]; omega), ← ih (by simpa using hi)]
      congr 1
      simp only [prow, List.length_cons, List.length_nil]
      omega
theorem p_one (L : List Qr) : ∀ v ∈ L.flatMap prow, v.oneCell' = true := by
  intro v hv
  obtain ⟨q, _, hq⟩ := List.mem_flatMap.1 hv
  unfold prow at hq
  rcases List.mem_cons.1 hq with rfl | hq
  · rfl
  rcases List.mem_cons.1 hq with rfl | hq
  · rfl
  rcases List.mem_cons.1 hq with rfl | hq
  · rfl
  · cases hq
/-- The parts of a slice. -/
def PV (w : World) (s : Slc) (L : List Qr) : Prop := s.len = L.length ∧ VRow w s 3 (L.flatMap prow)
theorem PV.keep {w w' : World} {s : Slc} {L : List Qr} (h : PV w s L) (he : Ext (fun _ => False) w w') : PV w' s L := ⟨h.1, h.2.keep he⟩
theorem PV.get {w : World} {s : Slc} {L : List Qr} (h : PV w s L) {i : Nat} {o : Qr} (hi : L[i]? = some o) : ∃ a, s.p = some a ∧ w.cell? (a.add (i * 3)) = some (.int .u8 o.1) ∧ w.cell? ((a.add (i * 3)).add 1) = some (.int .i64 o.2.1) ∧ w.cell? ((a.add (i * 3)).add 2) = some (.int .i64 o.2.2) := by
  have g : ∀ j v, j < 3 → (prow o)[j]? = some v → ∃ a, s.p = some a ∧ w.cell? ((a.add (i * 3)).add j) = some v := fun j v hj hv => by
    obtain ⟨a, ha, hc⟩ := h.2.2 (i * 3 + j) v (by rw [p_get hi hj]; exact hv)
    exact ⟨a, ha, by rw [add_add']; exact hc⟩
  obtain ⟨a, ha, c0⟩ := g 0 _ (by omega) rfl
  obtain ⟨a1, ha1, c1⟩ := g 1 _ (by omega) rfl
  obtain ⟨a2, ha2, c2⟩ := g 2 _ (by omega) rfl
  rw [ha] at ha1 ha2
  cases ha1; cases ha2
  exact ⟨a, ha, by rw [add_add'] at c0; exact c0, c1, c2⟩
def okQ (q : Qr) : Prop := (q.2.1 = 0 ∧ q.2.2 = 0) ∨ (q.1 = 0 ∧ 3 ≤ q.2.1 ∧ q.2.1 ≤ 258 ∧ 1 ≤ q.2.2 ∧ q.2.2 ≤ 32768)
instance (q : Qr) : Decidable (okQ q) := by unfold okQ; infer_instance
def toP (q : Qr) : Prt := ⟨UInt8.ofNat q.1.toNat, q.2.1.toNat, q.2.2.toNat⟩
/-- What parts give, or the first error. -/
def unQ : List Qr → List UInt8 → Except Int (List UInt8)
  | [], out => .ok out
  | q :: r, out => if ¬ okQ q then .error 1 else if (out.length : Int) < q.2.2 then .error 14 else if 1048576 < (out.length : Int) + max q.2.1 1 then .error 5 else unQ r (addP out (toP q))
def rawP (p : Prt) : Qr := ((p.b.toNat : Int), (p.n : Int), (p.f : Int))
theorem Hn.base {w0 w1 w : World} {L : List (Nat × List Value × TypeId)} (h : Hn w1 w L) (he : Ext (fun _ => False) w0 w1) : Hn w0 w L :=
  ⟨⟨h.h.blk, h.h.nodup, he.tr h.ext⟩, fun p hp => Nat.le_trans he.size (h.new p hp)⟩
section
variable {w vw : World} {B : Nat} {cs : List Value} {t : TypeId} {sl : Slc} {out : List UInt8}
variable {s2 : Slc × Int} {vw3 : World} {I4 : (Slc × Int) → World → Prop} {b : Int} {n f : Nat}
end
/-- The loop over the parts. -/
def UInv (w : World) (L : List Qr) (m : Nat) (st : Slc × Int) (w3 : World) : Prop :=
  ∃ (i : Nat) (out : List UInt8), st.2 = (i : Int) ∧ i ≤ L.length ∧ m = L.length - i ∧ BRow w3 st.1 out ∧ out.length ≤ 1048576 ∧ unQ (L.drop i) out = unQ L [] ∧ Ext (fun _ => False) w w3 ∧ ∀ j, st.1.own j → w.heap.size ≤ j
theorem max1 (x : Int) : (if 1 > x then 1 else x) = max x 1 := by split <;> omega
theorem UInv.next {w w3 : World} {L : List Qr} {i : Nat} {o : Qr} {out : List UInt8} {sl : Slc} {B : Nat} {t : TypeId} {cs : List Value} (hi : i < L.length) (hL : L.length ≤ 4611686018427387904) (hr : BRow w3 sl (addP out (toP o))) (hl : (out.length : Int) + max o.2.1 1 ≤ 1048576)
    (hun : unQ (L.drop (i + 1)) (addP out (toP o)) = unQ L []) (H : Hn w w3 [(B, cs, t)]) (ho : ∀ j, sl.own j → w.heap.size ≤ j ∧ j ≠ B) : ∃ m, m < L.length - i ∧ UInv w L m (sl, IntKind.i64.wrap ((i : Int) + 1)) w3 := by
  refine ⟨L.length - (i + 1), by omega, i + 1, _, by rw [i64_id (by omega)]; rfl, by omega, rfl, hr, ?_, hun, H.ext, fun j hj => (ho j hj).1⟩
  rw [addP_len]
  have : ((toP o).n : Int) = o.2.1.toNat := rfl
  omega
end Inf
end Go.Proofs.YtjkoafjnmkchdaaGreatDoor

/- What the writers of package bit and of its reference do, call by call. Conditions: the writer is not nil, it holds at most 2^39 bytes. -/
namespace Go.Proofs.YtjkoafjnmkchdaaGreatDoor
namespace Bit
open Sh
set_option linter.unusedVariables false

/-- The blocks of a writer. -/
def fp (b : Nat) (s : Slc) : Nat → Prop := fun j => j = b ∨ s.own j
/-- What a call may have done to the blocks of a writer. -/
structure Wn (w w' : World) (b : Nat) (s s' : Slc) : Prop where
  ext : Ext (fp b s) w w'
  new : ∀ j, s'.own j → s.own j ∨ w.heap.size ≤ j
theorem Wn.refl (w : World) (b : Nat) (s : Slc) : Wn w w b s s := ⟨Ext.refl _ _, fun _ h => .inl h⟩
theorem Wn.trans {w w1 w2 : World} {b : Nat} {s s1 s2 : Slc} (h : Wn w w1 b s s1) (k : Wn w1 w2 b s1 s2) : Wn w w2 b s s2 :=
  ⟨h.ext.trans k.ext (fun _ h => h) fun i hi hg => hg.elim .inl fun hg => (h.new i hg).elim .inr fun h2 => by omega,
    fun j hj => (k.new j hj).elim (h.new j) fun h2 => .inr (Nat.le_trans h.ext.size h2)⟩
theorem Wn.to {w w1 w2 : World} {b : Nat} {s s1 : Slc} (h : Wn w w1 b s s1) (k : Ext (· = b) w1 w2) : Wn w w2 b s s1 :=
  ⟨h.ext.trans k (fun _ h => h) fun i hi hg => .inl hg, h.new⟩
theorem Wn.to' {w w1 w2 : World} {b : Nat} {s s1 : Slc} (h : Wn w w1 b s s1) (k : Ext (fun _ => False) w1 w2) : Wn w w2 b s s1 :=
  ⟨h.ext.trans k (fun _ h => h) fun i hi hg => hg.elim, h.new⟩

/-- A writer of package bit: its bytes, how many bits of the last are used, the order. -/
structure WrB (w : World) (b : Nat) (s : Slc) (way : Int) (st : List UInt8 × Nat) : Prop where
  blk : Blk w b #[.int .i64 way, .int .i64 ((st.2 : Nat) : Int), Slc.v s] 127
  row : BRow w s st.1
  own : ¬ s.own b
abbrev at1 (b : Nat) : Option Addr := some ⟨b, 0, none⟩

section
variable {w w2 : World} {b : Nat} {s : Slc} {way : Int} {st : List UInt8 × Nat}
theorem WrB.keep {G : Nat → Prop} (h : WrB w b s way st) (he : Ext G w w2) (hn : ∀ j, fp b s j → ¬ G j) : WrB w2 b s way st :=
  ⟨he.blk h.blk (hn b (.inl rfl)), h.row.keep he fun j hj => hn j (.inr hj), h.own⟩
theorem WrB.lt (h : WrB w b s way st) : ∀ j, fp b s j → j < w.heap.size := fun j hj => hj.elim (fun e => e ▸ h.blk.lt) h.row.own_lt
theorem p_place {cs : Array Value} {t : TypeId} {u : Nat} (h : Blk w b cs t) (hu : cs[1]? = some (.int .i64 ((u : Nat) : Int))) (hlt : u < 8) (w' : Int) :
    C121 (at1 b) w' w fun x w1 => x = ((pl w' u : Nat) : Int) ∧ w1 = w := by
  refine T121 _ _ _ _ ?_
  unfold S121
  unfold pl
  by_cases hw : w' = 1
  · simp only [hw, beq_self_eq_true, Br_true]
    exact Nn.of (Ld.of h hu ⟨rfl, trivial⟩)
  · simp only [hw, if_false, beq_eq_false_iff_ne.2 hw, Br_false]
    exact Nn.of (Ld.of h hu ⟨by rw [i64_id (by omega)]; omega, trivial⟩)
theorem p_other {cs : Array Value} {t : TypeId} (h : Blk w b cs t) (hu : cs[0]? = some (.int .i64 way)) (w' : Int) :
    C108 (at1 b) w' w fun x w1 => x = (way != 0 && way != w') ∧ w1 = w := by
  refine T108 _ _ _ _ ?_
  unfold S108
  refine Nn.of (Ld.of h hu (Br_of (fun e => ?_) fun e => ?_))
  · exact Nn.of (Ld.of h hu ⟨by simp [e], rfl⟩)
  · exact ⟨by simp [e], rfl⟩

theorem c_new (w : World) : C52 w fun r w1 => r = at1 w.heap.size ∧ WrB w1 w.heap.size ⟨none, 0, 0⟩ 0 ([], 0) ∧ Ext (fun _ => False) w w1 := by
  refine T52 _ _ ?_
  unfold S52
  refine (Hx.start w (fun _ => False)).nw fun w2 H => ⟨rfl, ⟨H.get 0 rfl, BRow.nil _, ?_⟩, H.ext⟩
  rintro ⟨a, ha, _⟩
  cases ha

theorem last_get {l : List UInt8} (h : l ≠ []) : ∃ x, l[l.length - 1]? = some x ∧ x.toNat = lastN l := by
  have : 0 < l.length := List.length_pos_iff.2 h
  refine ⟨l[l.length - 1], List.getElem?_eq_getElem (by omega), ?_⟩
  unfold lastN
  simp [List.getD, List.getElem?_eq_getElem (show l.length - 1 < l.length by omega)]
theorem newByte {way : Int} (h : WOK way st) {x : Nat} (hx : x ≤ 1) :
    ior .u8 ((lastN (grow st) : Nat) : Int) (IntKind.u8.wrap (IntKind.i64.wrap ((x : Int) * 2 ^ min (((pl way st.2 : Nat) : Int)).toNat 64))) =
      (((UInt8.ofNat (lastN (grow st) + x * 2 ^ pl way st.2)).toNat : Nat) : Int) := by
  obtain ⟨h1, h2, h3⟩ := place_new h hx
  have hlt := h.lt
  have hp : pl way st.2 ≤ 7 := by unfold pl; split <;> omega
  have e : ((x : Int) * 2 ^ min (((pl way st.2 : Nat) : Int)).toNat 64) = ((x * 2 ^ pl way st.2 : Nat) : Int) := by
    rw [Int.toNat_natCast, Nat.min_eq_left (by omega)]
    simp
  rw [e, i64_id (by omega), u8_id (by omega), ior_u8_nat (lastN_lt _) h3, h2, UInt8.toNat_ofNat_of_lt' h1]

theorem c_wone (h : WrB w b s way st) {w' : Int} (hok : WOK w' st) (hsz : st.1.length ≤ 549755813888) {x : Nat} (hx : x ≤ 1) :
    C109 (at1 b) (x : Int) w' w fun w1 => ∃ s', WrB w1 b s' way (oneS w' st x) ∧ Wn w w1 b s s' := by
  refine T109 _ _ _ _ _ ?_
  unfold S109
  obtain ⟨hb, hr, ho⟩ := h
  have hlt := hok.lt
  have H0 : Hx w (fp b s) w _ := Hx.one hb
  refine Nn.of (H0.ld 0 rfl rfl (Br_of (fun e => ?a) fun e => ?b))
  case' a =>
    have e0 : st.2 = 0 := by simpa using e
    refine Nn.of (H0.ld 0 rfl rfl (H0.nw' fun w2 H he => ?_))
    have hr1 := hr.keep he fun _ _ h => h
    obtain ⟨s1, w3, hrun, hrow, hext, hnew⟩ := app_one (ty := 29) (b := 0) hr1 (H.get 1 rfl) (by omega)
    refine ⟨s1, w3, hrun, Nn.of ?_⟩
    have hsub : ∀ j, s.own j → j ∉ [b, w.heap.size] := fun j hj hm => by
      rcases List.mem_cons.1 hm with h | h
      · exact ho (h ▸ hj)
      · have := hr.own_lt hj
        have : j = w.heap.size := by simpa using h
        omega
    have H := H.other hext (fun j hj => hsub j hj) fun j hj => .inl (.inr hj)
    have hf1 : ∀ j, s1.own j → s.own j ∨ w.heap.size ≤ j := fun j hj => (hnew j hj).imp id fun h => Nat.le_trans he.size h
    have ho1 : ¬ s1.own b := fun hj => (hf1 b hj).elim ho fun h => by have := hb.lt; omega
    refine H.st' 0 rfl (by simp) (.inl (.inl rfl)) fun w4 H he4 => ?_
    have hrow := hrow.keep he4 fun j hj e => ho1 (by have e : j = b := e; rw [← e]; exact hj)
    have H := H.only 0 rfl
    have hg : st.1 ++ [0] = grow st := by unfold grow; rw [if_pos e0]
    rw [hg] at hrow
  case' b =>
    have e0 : ¬ st.2 = 0 := by
      have : ¬ ((st.2 : Nat) : Int) = 0 := by simpa using e
      omega
    have hrow : BRow w s (grow st) := by unfold grow; rw [if_neg e0]; exact hr
    have H := H0
    have hf1 : ∀ j, s.own j → s.own j ∨ w.heap.size ≤ j := fun j hj => .inl hj
    have ho1 := ho
  all_goals
    have HD := H.drew
    have hrow := hrow.keep (Ext.refl (fun _ => False) _).drew fun _ _ h => h
    have hlen := hrow.len
    have hgn := grow_ne hok
    have hpos : 0 < (grow st).length := List.length_pos_iff.2 hgn
    have hgl := grow_len st
    obtain ⟨y, hy, hyN⟩ := last_get hgn
    obtain ⟨g, hp, hc⟩ := hrow.get hy
    obtain ⟨g', hp', hcan, hset, he5⟩ := hrow.set (show (grow st).length - 1 < (grow st).length by omega) (UInt8.ofNat (lastN (grow st) + x * 2 ^ pl w' st.2))
    have : g' = g := by rw [hp] at hp'; cases hp'; rfl
    subst this
    refine ⟨fun w3 => w3 = _, rfl, Nn.of (LdS.of (fun w3 e => e ▸ HD.get 0 rfl) rfl (Nn.of (LdS.of (fun w3 e => e ▸ HD.get 0 rfl) rfl ?_)))⟩
    rw [hlen, i64_id (by omega), show ((((grow st).length : Nat) : Int) - 1).toNat * 1 = (grow st).length - 1 by omega, hp]
    refine ⟨by omega, by omega, Nn.of ⟨((lastN (grow st) : Nat) : Int), fun w3 e => by rw [e, add_lit, Nat.zero_add, hc, hyN], Nn.of ((p_place (HD.get 0 rfl) rfl hlt w').mono ?_)⟩⟩
    rintro r w3 ⟨rfl, rfl⟩
    refine ⟨rfl, by omega, by omega, by omega, Nn.of ⟨by rw [add_lit, Nat.zero_add]; exact hcan, Nn.of ?_⟩⟩
    rw [add_lit, Nat.zero_add, newByte hok hx]
    have hgne : g' ≠ b := fun e => ho1 ⟨_, hp, e⟩
    have hgb : ∀ j, j = g' → j ∉ [b] := fun j hj hm => hgne (by rw [← hj]; simpa using hm)
    have H5 := HD.other he5 hgb fun j hj => by rw [hj]; exact (hf1 g' ⟨_, hp, rfl⟩).imp .inr id
    refine H5.ld 0 rfl rfl (Nn.of (H5.st' 0 rfl (by simp) (.inl (.inl rfl)) fun w6 H6 he6 => ?_))
    refine ⟨_, ⟨?_, hset.keep he6 fun j hj e => ho1 (by have e : j = b := e; rw [← e]; exact hj), ho1⟩, H6.ext, hf1⟩
    have := H6.get 0 rfl
    rw [i64_id (by omega), tmod_id (by omega)] at this
    exact this

theorem c_put (h : WrB w b s way st) (hi : WInv way st) (hsz : st.1.length ≤ 274877906944) (v n : Int) {w' : Int} (hw' : w' = 1 ∨ w' = 2) :
    C85 (at1 b) v n w' w fun e w1 => e = (putR way st v n w').1 ∧ ∃ s', WrB w1 b s' (putR way st v n w').2.2 (putR way st v n w').2.1 ∧ Wn w w1 b s s' := by
  refine T85 _ _ _ _ _ _ ?_
  unfold S85
  have no : (n < 0 ∨ 24 < n ∨ v < 0 ∨ 2 ^ n.toNat ≤ v ∨ (way ≠ 0 ∧ way ≠ w')) → (1 : Int) = (putR way st v n w').1 ∧ ∃ s', WrB w b s' (putR way st v n w').2.2 (putR way st v n w').2.1 ∧ Wn w w b s s' := fun hc => by
    rw [putR_arg hc]; exact ⟨rfl, s, h, Wn.refl _ _ _⟩
  refine Br_of (fun e => ?_) fun _ => Br_of (fun e => ?_) fun e1 => Br_of (fun e => ?_) fun e2 => Br_of (fun e => ?_) fun e3 => ⟨by simpa using e1, Br_of (fun e => ?_) fun e4 => ?_⟩
  · cases e
  · exact no (.inl (by simpa using e))
  · exact no (.inr (.inl (by simpa using e)))
  · exact no (.inr (.inr (.inl (by simpa using e))))
  all_goals
    have h0 : ¬ n < 0 := by simpa using e1
    have h24 : n ≤ 24 := by simpa using e2
    have hv0 : ¬ v < 0 := by simpa using e3
    obtain ⟨m, rfl⟩ := Int.eq_ofNat_of_zero_le (show 0 ≤ n by omega)
    obtain ⟨u, rfl⟩ := Int.eq_ofNat_of_zero_le (show 0 ≤ v by omega)
    have hp24 := two_pow_24 (show m ≤ 24 by omega)
    have hpp := two_pow_pos m
    have hwr : IntKind.i64.wrap (1 * 2 ^ min ((m : Int)).toNat 64) = 2 ^ m := by
      rw [Int.toNat_natCast, Nat.min_eq_left (by omega), Int.one_mul, i64_id (by omega)]
  · have e : (2 : Int) ^ m ≤ (u : Int) := by rw [hwr] at e; simpa using e
    exact no (.inr (.inr (.inr (.inl (by rw [Int.toNat_natCast]; exact e)))))
  have hlt : (u : Int) < 2 ^ m := by rw [hwr] at e4; simpa using e4
  refine Nn.of ((p_other h.blk rfl w').mono ?_)
  rintro x w1 ⟨rfl, rfl⟩
  refine Br_of (fun e => ?_) fun e5 => ?_
  · exact no (.inr (.inr (.inr (.inr (by simpa using e)))))
  have hno : ¬ (way ≠ 0 ∧ way ≠ w') := by simpa using e5
  have hall : ¬ ((m : Int) < 0 ∨ 24 < (m : Int) ∨ (u : Int) < 0 ∨ 2 ^ ((m : Int)).toNat ≤ (u : Int) ∨ (way ≠ 0 ∧ way ≠ w')) := by
    rw [Int.toNat_natCast]; omega
  have hok := hi.to hno
  rw [putR_ok hall, Int.toNat_natCast, Int.toNat_natCast]
  have hu24 : u < 16777216 := by omega
  refine ⟨fun k i w3 => ∃ j : Nat, j ≤ m ∧ k = m - j ∧ i = (j : Int) ∧ ∃ s', WrB w3 b s' way (putS w' u m st j) ∧ Wn w1 w3 b s s', m, ⟨0, by omega, by omega, rfl, s, h, Wn.refl _ _ _⟩, ?_⟩
  rintro k i w3 ⟨j, hj, rfl, rfl, s', hb, hn⟩
  unfold S85L1
  have hokj := hok.put u m j
  have hlen := putS_len w' u m st j
  refine Br_of (fun e => ?_) fun e => ?_
  · have hjm : j < m := by simpa using e
    have key : ∀ x : Int, x = ((vbit w' u m j : Nat) : Int) → C109 (at1 b) x w' w3 fun w4 => ∃ n', n' < m - j ∧ ∃ j' : Nat, j' ≤ m ∧ n' = m - j' ∧ IntKind.i64.wrap ((j : Int) + 1) = (j' : Int) ∧ ∃ s', WrB w4 b s' way (putS w' u m st j') ∧ Wn w1 w4 b s s' := fun x hx => by
      rw [hx]
      refine (c_wone hb hokj (by omega) (vbit_le _ _ _ _)).mono ?_
      rintro w4 ⟨s2, hb2, hn2⟩
      exact ⟨m - (j + 1), by omega, j + 1, by omega, rfl, by rw [i64_id (by omega)]; rfl, s2, hb2, hn.trans hn2⟩
    rcases hw' with rfl | rfl
    · simp only [show ((1 : Int) == 2) = false by rfl, Br_false]
      refine ⟨by omega, key _ ?_⟩
      rw [Int.toNat_natCast, Nat.min_eq_left (by omega), vbit_low u j hu24]
      simp [vbit]
    · simp only [beq_self_eq_true, Br_true]
      rw [i64_id (n := (m : Int) - 1) (by omega), i64_id (by omega)]
      refine ⟨by omega, key _ ?_⟩
      rw [show ((m : Int) - 1 - (j : Int)).toNat = m - 1 - j by omega, Nat.min_eq_left (by omega), vbit_low u _ hu24]
      simp [vbit]
  · have hge : j = m := by
      have : ¬ (j : Int) < m := by simpa using e
      omega
    subst hge
    refine Br_of (fun e => ?_) fun e => ?_
    · have hpos : (0 : Int) < j := by simpa using e
      rw [if_pos hpos]
      refine Nn.of ((Hx.one (F := (· = b)) hb.blk).st' 0 rfl (by simp) (.inl rfl) fun w5 H he => ⟨rfl, s', ⟨H.get 0 rfl, hb.row.keep he fun i hi e => hb.own (by have e : i = b := e; rw [← e]; exact hi), hb.own⟩, hn.to he⟩)
    · have hz : ¬ (0 : Int) < j := by simpa using e
      rw [if_neg hz]
      exact ⟨rfl, s', hb, hn⟩
theorem c_wlow (h : WrB w b s way st) (hi : WInv way st) (hsz : st.1.length ≤ 274877906944) (v n : Int) :
    C53 (at1 b) v n w fun e w1 => e = (putR way st v n 1).1 ∧ ∃ s', WrB w1 b s' (putR way st v n 1).2.2 (putR way st v n 1).2.1 ∧ Wn w w1 b s s' :=
  T53 _ _ _ _ _ (c_put h hi hsz v n (.inl rfl))
theorem c_walign (h : WrB w b s way st) : C54 (at1 b) w fun w1 => WrB w1 b s 0 (st.1, 0) ∧ Ext (· = b) w w1 := by
  refine T54 _ _ _ ?_
  unfold S54
  refine Br_of (fun _ => ?_) fun e => by cases e
  refine Nn.of ((Hx.one (F := (· = b)) h.blk).st 0 rfl (by simp) (.inl rfl) fun w2 H => H.st 0 rfl (by simp) (.inl rfl) fun w3 H => ?_)
  exact ⟨⟨H.get 0 rfl, h.row.keep H.ext fun i hi e => h.own (by have e : i = b := e; rw [← e]; exact hi), h.own⟩, H.ext⟩
theorem c_wraw (h : WrB w b s way st) (t : ByteArray) (hsz : st.1.length ≤ 274877906944) (ht : t.size ≤ 274877906944) :
    C55 (at1 b) t w fun w1 => ∃ s', WrB w1 b s' (rawWay way st) (rawS st t) ∧ Wn w w1 b s s' := by
  refine T55 _ _ _ _ ?_
  unfold S55
  have fin : ∀ (w2 : World) (way' : Int), WrB w2 b s way' (st.1, 0) → Ext (· = b) w w2 → ∃ x w3, RunV Tryz.prog (Builtin.append_ #[29, 9] 29 #[Slc.v s, .string t]) w2 (Slc.v x) w3 ∧
      Nn (at1 b) fun a => St w3 (a.add 2) (Slc.v x) fun w4 => ∃ s', WrB w4 b s' way' (rawS st t) ∧ Wn w w4 b s s' := fun w2 way' h2 he => by
    obtain ⟨s1, w3, hrun, hrow, hext, hnew⟩ := app_str (ty := 29) h2.row t (by show st.1.length + _ ≤ _; omega)
    have ho1 : ¬ s1.own b := fun hj => (hnew b hj).elim h2.own fun hh => by have := h2.blk.lt; omega
    have hoth : ∀ j, s.own j → j ∉ [b] := fun j hj hm => h2.own ((show j = b by simpa using hm) ▸ hj)
    have H := (Hx.one (F := fp b s) h2.blk).other hext hoth fun j hj => .inl (.inr hj)
    refine ⟨s1, w3, hrun, Nn.of (H.st' 0 rfl (by simp) (.inl (.inl rfl)) fun w4 H he4 => ⟨s1, ⟨H.get 0 rfl, hrow.keep he4 fun j hj e => ho1 (by have e : j = b := e; rw [← e]; exact hj), ho1⟩, ?_, ?_⟩)⟩
    · exact he.trans H.ext (fun _ h => .inl h) fun _ _ h => h
    · exact fun j hj => (hnew j hj).imp id fun hh => Nat.le_trans he.size hh
  refine Br_of (fun e => ?_) fun _ => Nn.of ((Hx.one (F := (· = b)) h.blk).ld 0 rfl rfl (Br_of (fun e => ?_) fun e => ?_))
  · cases e
  · have e : (0 : Int) < ((st.2 : Nat) : Int) := by simpa using e
    have e : ¬ st.2 = 0 := by omega
    refine (c_walign h).mono ?_
    rintro w2 ⟨h2, he⟩
    unfold rawWay
    rw [if_neg e]
    exact Nn.of (Ld.of h2.blk rfl (fin w2 0 h2 he))
  · have e : ¬ (0 : Int) < ((st.2 : Nat) : Int) := by simpa using e
    have e : st.2 = 0 := by omega
    unfold rawWay
    rw [if_pos e]
    refine Nn.of (Ld.of h.blk rfl (fin w way ?_ (Ext.refl _ _)))
    obtain ⟨l, u⟩ := st
    simp only at e
    subst e
    exact h
theorem c_clone {l : List UInt8} (h : BRow w s l) (hsz : l.length ≤ 549755813888) : C86 s w fun s' w1 => BRow w1 s' l ∧ Ext (fun _ => False) w w1 := by
  refine T86 _ _ _ ?_
  unfold S86
  refine Br_of (fun e => ?_) fun e => (Hx.start w (fun _ => False)).nw' fun w2 H he => ?_
  · have : l = [] := by
      rcases h.2 with rfl | ⟨g, cur, hp, _⟩
      · exact List.eq_nil_of_length_eq_zero (by have := h.len; simpa using this.symm)
      · rw [hp] at e; cases e
    rw [this]
    exact ⟨BRow.nil _, Ext.refl _ _⟩
  · have hr : BRow w2 ⟨some ⟨w.heap.size, 0, none⟩, 0, 0⟩ [] := ⟨rfl, .inr ⟨_, #[], rfl, H.get 0 rfl, Nat.le_refl _, rfl, rfl⟩⟩
    obtain ⟨s1, w3, hrun, hrow, hext, hnew⟩ := app_row (ty := 29) hr (h.keep he fun _ _ h => h) (by simp; omega)
    refine ⟨s1, w3, hrun, hrow, he.trans hext (fun _ h => h) fun i hi ⟨a, ha, hb⟩ => ?_⟩
    cases ha
    have : w.heap.size = i := hb
    omega
theorem c_wtext (h : WrB w b s way st) (hsz : st.1.length ≤ 549755813888) : C56 (at1 b) w fun x w1 => x = ⟨st.1.toArray⟩ ∧ Ext (fun _ => False) w w1 := by
  refine T56 _ _ _ ?_
  unfold S56
  refine Br_of (fun e => ?_) fun _ => Nn.of (Ld.of h.blk rfl ((c_clone h.row hsz).mono ?_))
  · cases e
  rintro s' w1 ⟨hr, he⟩
  exact ⟨_, w1, str_row hr, rfl, he⟩
end
end Bit
end Go.Proofs.YtjkoafjnmkchdaaGreatDoor

/- Deflate: stored blocks, both sides. Conditions: sizes. -/
namespace Go.Proofs.YtjkoafjnmkchdaaGreatDoor
namespace Inf
open Sh Bit
set_option linter.unusedVariables false
set_option linter.unusedSimpArgs false
set_option maxRecDepth 4000
set_option maxHeartbeats 1000000
attribute [local irreducible] Ld St Nw Nn Lt LdS
theorem addLast_push (l : List UInt8) (x : UInt8) (v : Nat) : addLast (l ++ [x]) v = l ++ [UInt8.ofNat (x.toNat + v)] := by
  have h : lastN (l ++ [x]) = x.toNat := by unfold lastN; simp
  unfold addLast
  rw [h, List.length_append]
  simp
theorem vbit1 (v n i : Nat) : vbit 1 v n i = v / 2 ^ i % 2 := by unfold vbit; rw [if_pos rfl]
/-- A byte is written, bit by bit. -/
theorem byte_at {v n m : Nat} {st : WS} {l : List UInt8} (h : putS 1 v n st m = (l, 0)) : ∀ i, i < 8 → putS 1 v n st (m + (i + 1)) = (l ++ [UInt8.ofNat (v / 2 ^ m % 2 ^ (i + 1))], (i + 1) % 8)
  | 0, _ => by
    show oneS 1 (putS 1 v n st m) (vbit 1 v n m) = _
    rw [h, vbit1]
    unfold oneS grow pl
    rw [if_pos rfl, if_pos rfl, addLast_push]
    show (l ++ [UInt8.ofNat (0 + v / 2 ^ m % 2 * 1)], 1) = _
    rw [Nat.zero_add, Nat.mul_one]
  | i + 1, hi => by
    show oneS 1 (putS 1 v n st (m + (i + 1))) (vbit 1 v n (m + (i + 1))) = _
    rw [byte_at h i (by omega), vbit1]
    have hmod : (i + 1) % 8 = i + 1 := Nat.mod_eq_of_lt (by omega)
    unfold oneS grow pl
    dsimp only
    rw [hmod, if_neg (by omega), if_pos rfl, addLast_push]
    have hp : 2 ^ (i + 1) ≤ 2 ^ 7 := Nat.pow_le_pow_right (by omega) (by omega)
    have hlt : v / 2 ^ m % 2 ^ (i + 1) < 256 := by have := Nat.mod_lt (v / 2 ^ m) (show 0 < 2 ^ (i + 1) from Nat.pow_pos (by decide)); omega
    have e : (UInt8.ofNat (v / 2 ^ m % 2 ^ (i + 1))).toNat + v / 2 ^ (m + (i + 1)) % 2 * 2 ^ (i + 1) = v / 2 ^ m % 2 ^ (i + 1 + 1) := by
      rw [of_toNat hlt, Nat.pow_succ (n := 2) (m := i + 1), Nat.mod_mul, Nat.pow_add 2 m (i + 1), Nat.div_div_eq_div_mul, Nat.mul_comm (2 ^ (i + 1)) (_ % 2)]
    rw [e]
/-- 16 bits are two bytes. -/
theorem low16b (l : List UInt8) (v : Nat) : lw (l, 0) v 16 = (l ++ [UInt8.ofNat (v % 256), UInt8.ofNat (v / 256 % 256)], 0) := by
  have h1 := byte_at (v := v) (n := 16) (m := 0) (st := (l, 0)) (l := l) rfl 7 (by decide)
  have h2 := byte_at (v := v) (n := 16) (m := 0 + (7 + 1)) (st := (l, 0)) h1 7 (by decide)
  rw [Nat.pow_zero, Nat.div_one] at h2
  show putS 1 v 16 (l, 0) 16 = _
  rw [show (16 : Nat) = 0 + (7 + 1) + (7 + 1) from rfl]
  rw [show (0 + (7 + 1) + (7 + 1) : Nat) = 16 from rfl] at h2 ⊢
  rw [h2, List.append_assoc]
  rfl
/-- The head of a stored block: three bits, and a new byte. -/
theorem headb (l : List UInt8) {f : Nat} (hf : f ≤ 1) : (lw (lw (l, 0) f 1) 0 2).1 = l ++ [UInt8.ofNat f] := by
  have h1 := byte_at (v := f) (n := 1) (m := 0) (st := (l, 0)) (l := l) rfl 0 (by decide)
  have e1 : lw (l, 0) f 1 = (l ++ [UInt8.ofNat f], 1) := by
    show putS 1 f 1 (l, 0) 1 = _
    rw [show (0 + (0 + 1) : Nat) = 1 from rfl] at h1
    rw [h1, Nat.pow_zero, Nat.div_one, Nat.mod_eq_of_lt (by show f < 2; omega)]
  have z : ∀ k, k ≠ 0 → oneS 1 (l ++ [UInt8.ofNat f], k) (vbit 1 0 2 (k - 1)) = (l ++ [UInt8.ofNat f], (k + 1) % 8) := fun k hk => by
    unfold oneS grow
    rw [vbit1, Nat.zero_div]
    dsimp only
    rw [if_neg hk, Nat.zero_mod, Nat.zero_mul, addLast_push, Nat.add_zero, UInt8.ofNat_toNat]
  rw [e1]
  show (oneS 1 (oneS 1 (l ++ [UInt8.ofNat f], 1) (vbit 1 0 2 0)) (vbit 1 0 2 1)).1 = _
  rw [z 1 (by decide)]
  exact congrArg Prod.fst (z 2 (by decide))
/-- What is written of a string, stored. -/
def stS : Nat → List UInt8 → List UInt8
  | 0, _ => []
  | k + 1, l => if l.length ≤ 65535 then blkS 1 l else blkS 0 (l.take 65535) ++ stS k (l.drop 65535)
def storedT (l : List UInt8) : List UInt8 := stS (l.length + 1) l
theorem storedT_small {l : List UInt8} (h : l.length ≤ 65535) : storedT l = blkS 1 l := by
  unfold storedT stS
  rw [if_pos h]
theorem c_lowW {w : World} {b : Nat} {s : Slc} {way : Int} {st : WS} (h : WrB w b s way st) (hi : WInv way st) (hway : way = 0 ∨ way = 1) (hsz : st.1.length ≤ 274877906944) {v n : Nat} (hv : v < 2 ^ n) (hn : 1 ≤ n) (hn2 : n ≤ 24) :
    C53 (at1 b) (v : Int) (n : Int) w fun e w1 => e = 0 ∧ ∃ s', WrB w1 b s' 1 (lw st v n) ∧ Wn w w1 b s s' := by
  have e2 : ((2 ^ n : Nat) : Int) = 2 ^ n := by simp
  have hp : putR way st (v : Int) (n : Int) 1 = (0, lw st v n, 1) := by
    rw [putR_ok (by rw [Int.toNat_natCast]; omega)]
    simp only [Int.toNat_natCast]
    rw [if_pos (by omega)]
    rfl
  refine (c_wlow h hi hsz (v : Int) (n : Int)).mono ?_
  rw [hp]
  exact fun e w1 h => h
theorem inv1 {way : Int} {st : WS} (hi : WInv way st) (hway : way = 0 ∨ way = 1) (v n : Nat) : WInv 1 (lw st v n) :=
  ⟨(hi.to (by omega)).put _ _ _, fun e => absurd e (by decide)⟩
theorem hd5_eq (f n : Nat) (hn : n ≤ 65535) : hd5 (UInt8.ofNat f) n = [UInt8.ofNat f, UInt8.ofNat (n % 256), UInt8.ofNat (n / 256 % 256), UInt8.ofNat ((65535 - n) % 256), UInt8.ofNat ((65535 - n) / 256 % 256)] := by
  unfold hd5
  rw [show n / 256 % 256 = n / 256 by omega, show (65535 - n) % 256 = 255 - n % 256 by omega, show (65535 - n) / 256 % 256 = 255 - n / 256 by omega]
theorem min_int (n : Nat) : (if (65535 : Int) < ((n : Nat) : Int) then 65535 else ((n : Nat) : Int)) = ((min n 65535 : Nat) : Int) := by
  split <;> omega
/-- foliant/deflate.stored -/
theorem c_storedW {S : ByteArray} (hs : S.size ≤ 1048576) (w : World) : C34 S w fun r w1 => r = ⟨(storedT S.data.toList).toArray⟩ ∧ Ext (fun _ => False) w w1 := by
  refine T34 _ _ _ ?_
  unfold S34
  refine (Bit.c_new w).mono ?_
  rintro r w0 ⟨rfl, hW, he0⟩
  have e0 : (size_list S) = (size_list S) := rfl
  refine ⟨fun m rest w3 => ∃ (pre : List UInt8) (sl : Slc) (k : Nat), m = k ∧ rest.size < k ∧ pre ++ stS k rest.data.toList = storedT S.data.toList ∧ pre.length + 2 * rest.size ≤ 2 * S.size ∧ WrB w3 w.heap.size sl 0 (pre, 0) ∧ Wn w0 w3 w.heap.size ⟨none, 0, 0⟩ sl, S.size + 1, ⟨[], _, _, rfl, by omega, by rw [size_list]; rfl, by simp, hW, Wn.refl _ _ _⟩, ?_⟩
  rintro m rest w3 ⟨pre, sl, k, rfl, hk, hpre, hlen, hW, hn⟩
  obtain ⟨k, rfl⟩ : ∃ j, m = j + 1 := ⟨m - 1, by omega⟩
  have hrl := size_list rest
  unfold S34L1
  have fact : ∀ (f : Nat), (f = 1 ∧ rest.size ≤ 65535) ∨ (f = 0 ∧ 65535 < rest.size) → S34J1 (at1 w.heap.size) rest (fun s' w' => ∃ n', n' < k + 1 ∧ ∃ (pre : List UInt8) (sl : Slc) (k : Nat), n' = k ∧ s'.size < k ∧ pre ++ stS k s'.data.toList = storedT S.data.toList ∧ pre.length + 2 * s'.size ≤ 2 * S.size ∧ WrB w' w.heap.size sl 0 (pre, 0) ∧ Wn w0 w' w.heap.size ⟨none, 0, 0⟩ sl)
      (fun r w1 => r = ⟨(storedT S.data.toList).toArray⟩ ∧ Ext (fun _ => False) w w1) (f : Int) w3 := fun f hf => by
    unfold S34J1
    rw [min_int]
    have hc : min rest.size 65535 ≤ 65535 := Nat.min_le_right _ _
    have hc2 : min rest.size 65535 ≤ rest.size := Nat.min_le_left _ _
    generalize hce : min rest.size 65535 = c at hc hc2 ⊢
    refine (c_lowW hW (WInv.zero _) (.inl rfl) (by show pre.length ≤ _; omega) (v := f) (n := 1) (by show f < 2; omega) (by omega) (by omega)).mono ?_
    rintro _ w4 ⟨rfl, s4, W4, n4⟩
    have l4 : (lw (pre, 0) f 1).1.length ≤ pre.length + 1 := by
      have := byte_at (v := f) (n := 1) (m := 0) (st := (pre, 0)) (l := pre) rfl 0 (by decide)
      have e : lw (pre, 0) f 1 = _ := this
      rw [e]; simp
    refine (c_lowW W4 (inv1 (WInv.zero _) (.inl rfl) _ _) (.inr rfl) (by omega) (v := 0) (n := 2) (by decide) (by omega) (by omega)).mono ?_
    rintro _ w5 ⟨rfl, s5, W5, n5⟩
    refine (c_walign W5).mono ?_
    rintro w6 ⟨W6, e6⟩
    rw [headb pre (by omega)] at W6
    refine (c_lowW W6 (WInv.zero _) (.inl rfl) (by simp; omega) (v := c) (n := 16) (by show c < 65536; omega) (by omega) (by omega)).mono ?_
    rintro _ w7 ⟨rfl, s7, W7, n7⟩
    refine Lt.of ?_
    rw [i64_id (by omega), show (65535 : Int) - (c : Int) = ((65535 - c : Nat) : Int) by omega]
    refine (c_lowW W7 (inv1 (WInv.zero _) (.inl rfl) _ _) (.inr rfl) (by rw [low16b]; simp; omega) (v := 65535 - c) (n := 16) (by show 65535 - c < 65536; omega) (by omega) (by omega)).mono ?_
    rintro _ w8 ⟨rfl, s8, W8, n8⟩
    refine (c_walign W8).mono ?_
    rintro w9 ⟨W9, e9⟩
    rw [low16b, low16b] at W9
    have hext : rest.extract 0 ((c : Int)).toNat = rest.extract 0 c := by rw [Int.toNat_natCast]
    have hesz : (rest.extract 0 c).size = c := by rw [ByteArray.size_extract]; omega
    refine ⟨by omega, by omega, Lt.of ?_⟩
    rw [hext]
    refine (c_wraw W9 (rest.extract 0 c) (by simp; omega) (by omega)).mono ?_
    rintro w10 ⟨s10, W10, n10⟩
    have hst : rawS (pre ++ [UInt8.ofNat f] ++ [UInt8.ofNat (c % 256), UInt8.ofNat (c / 256 % 256)] ++ [UInt8.ofNat ((65535 - c) % 256), UInt8.ofNat ((65535 - c) / 256 % 256)], 0) (rest.extract 0 c) = (pre ++ blkS (UInt8.ofNat f) (rest.data.toList.take c), 0) := by
      have e1 : (rest.extract 0 c).data.toList = rest.data.toList.take c := by rw [extract_list, List.drop_zero, Nat.sub_zero]
      have e2 : (rest.data.toList.take c).length = c := by rw [List.length_take]; omega
      unfold rawS blkS
      rw [e1, e2, hd5_eq f c hc]
      simp
    rw [hst] at W10
    have W10 : WrB w10 w.heap.size s10 0 (pre ++ blkS (UInt8.ofNat f) (rest.data.toList.take c), 0) := W10
    have hn10 := (((((((hn.trans n4).trans n5).to e6).trans n7).trans n8).to e9).trans n10)
    have hpl : (pre ++ blkS (UInt8.ofNat f) (rest.data.toList.take c)).length = pre.length + 5 + c := by
      rw [List.length_append, blkS_len, List.length_take]
      omega
    refine ⟨by omega, by omega, Lt.of ?_⟩
    unfold stS at hpre
    refine Br.eq (fun q => ?_) fun q => ?_
    · have hf1 : f = 1 ∧ rest.size ≤ 65535 := by omega
      rw [if_pos (by omega)] at hpre
      have ec : c = rest.size := by omega
      rw [ec, hf1.1, List.take_of_length_le (by omega)] at W10
      have W10 : WrB w10 w.heap.size s10 0 (pre ++ blkS 1 rest.data.toList, 0) := W10
      rw [hpre] at W10
      refine (c_wtext W10 (by dsimp only; rw [← hpre, List.length_append, blkS_len]; omega)).mono ?_
      rintro x w11 ⟨rfl, e11⟩
      refine ⟨rfl, ?_⟩
      refine ((he0.trans hn10.ext (fun _ h => h) fun j hj hg => ?_)).tr e11
      rcases hg with e | ⟨a, ha, _⟩
      · omega
      · cases ha
    · have hf0 : f = 0 ∧ 65535 < rest.size := by omega
      rw [if_neg (by omega)] at hpre
      have ec : c = 65535 := by omega
      have esz : (rest.extract ((c : Int)).toNat rest.size).size = rest.size - 65535 := by rw [ByteArray.size_extract, Int.toNat_natCast]; omega
      refine ⟨k, by omega, pre ++ blkS (UInt8.ofNat f) (rest.data.toList.take c), s10, k, rfl, by rw [esz]; omega, ?_, by rw [esz, hpl]; omega, W10, hn10⟩
      rw [← hpre, Int.toNat_natCast, extract_drop, ec, hf0.1, List.append_assoc]
      rfl
  refine ⟨fun f w4 => w4 = w3 ∧ ∃ f' : Nat, f = (f' : Int) ∧ ((f' = 1 ∧ rest.size ≤ 65535) ∨ (f' = 0 ∧ 65535 < rest.size)), ?_, ?_⟩
  · rintro f _ ⟨rfl, f', rfl, hf⟩
    exact fact f' hf
  · rw [min_int]
    refine Lt.of (Br.eq (fun q => ⟨rfl, 1, rfl, .inl ⟨rfl, by omega⟩⟩) fun q => ⟨rfl, 0, rfl, .inr ⟨rfl, by omega⟩⟩)
end Inf
end Go.Proofs.YtjkoafjnmkchdaaGreatDoor

/- Inflate: the program's table writes; the law's sized and backed. Conditions: sizes. -/
namespace Go.Proofs.YtjkoafjnmkchdaaGreatDoor
namespace Inf
open Sh Bit
set_option linter.unusedVariables false
set_option linter.unusedSimpArgs false
set_option maxRecDepth 4000
set_option maxHeartbeats 2000000
theorem put_bit {way : Int} {st : WS} (h : way = 0 ∨ way = 1) {b : Nat} (hb : b ≤ 1) : putR way st (b : Int) 1 1 = (0, oneS 1 st b, 1) := by
  rw [putR_ok (by
    have : (2 : Int) ^ (1 : Int).toNat = 2 := by decide
    rw [this]
    omega)]
  rw [if_pos (by decide)]
  show (0, oneS 1 st (vbit 1 (b : Int).toNat 1 0), 1) = _
  have : vbit 1 (b : Int).toNat 1 0 = b := by
    unfold vbit
    rw [if_pos rfl, Int.toNat_natCast, Nat.pow_zero, Nat.div_one]
    omega
  rw [this]
theorem codes_get {lens : List Int} {g : Nat} (h : g < lens.length) : (codes lens).getD g 0 = codeL lens g := by
  unfold codes
  rw [List.getD_eq_getElem?_getD, List.getElem?_map, List.getElem?_range h]
  rfl
theorem Wn.of {w w1 : World} {b : Nat} {s : Slc} (h : Ext (fun _ => False) w w1) : Wn w w1 b s s := ⟨h.mono fun _ _ e => e.elim, fun _ h => .inl h⟩
attribute [local irreducible] Ld St Nw Nn Lt LdS
section
variable {w : World} {lo hi tb wb : Nat} {way : Int} {ws : Slc} {st : WS} {lens : List Int}
theorem c_write (ht : TB w lo hi tb lens) (hc : chk lens = 0) (hw : WrB w wb ws way st) (hin : WInv way st) (hway : way = 0 ∨ way = 1) (hsz : st.1.length ≤ 200000000000) (hsep : ∀ j, fp wb ws j → j < lo ∨ hi ≤ j)
    {g n : Nat} (hg : g < lens.length) (hn : lens.getD g 0 = (n : Int)) (h0 : 0 < n) :
    C67 (some (⟨tb, 0, none⟩ : Addr)) (at1 wb) (g : Int) w fun e w1 => e = 0 ∧ ∃ ws', WrB w1 wb ws' 1 (cw lens st g) ∧ Wn w w1 wb ws ws' := by
  refine T67 _ _ _ _ _ ?_
  unfold S67
  obtain ⟨s1, s2, s3, h1, h2, h3, h4, h5, h6, h7, h8, h9⟩ := ht
  obtain ⟨n1, n15, _, c, hcc, hci, _, hlt⟩ := code_of hc hg hn h0
  have hlen := (chk_lok hc).len
  have hok : WOK 1 st := hin.to (by omega)
  refine Br.f rfl (Br.f rfl (Br.f (by simp) (Nn.of (Ld.of h1 (o := 0) (x := s1) rfl ?_))))
  rw [h2.1]
  refine Br.f (by simp; omega) (Nn.of (Ld.of h1 (o := 0) (x := s1) rfl ⟨by omega, by rw [h2.1]; omega, ?_⟩))
  obtain ⟨a, ha, hcell⟩ := h2.get hg
  rw [ha, Int.toNat_natCast]
  refine Nn.of (Ld.mk hcell ?_)
  rw [hn]
  refine Br.f (by simp; omega) ?_
  rw [i64_id (by omega)]
  have e : cw lens st g = Inf.hw st c n n := by unfold cw; rw [hcc, hn, Int.toNat_natCast]
  rw [e]
  refine ⟨fun k s12 w3 => ∃ i : Nat, i ≤ n ∧ k = n - i ∧ s12 = (n : Int) - 1 - (i : Int) ∧ ∃ ws', WrB w3 wb ws' (if i = 0 then way else 1) (Inf.hw st c n i) ∧ Wn w w3 wb ws ws', n, ⟨0, by omega, by omega, by omega, ws, hw, Wn.refl _ _ _⟩, ?_⟩
  rintro k s12 w3 ⟨i, hi, rfl, rfl, ws', hb, hwn⟩
  unfold S67L1
  have hl := hw_len st c n i
  refine Br.dec (fun q => ?_) fun q => ?_
  · have hin' : i < n := by omega
    have hB := hwn.ext.blk h1 fun hf => by have := hsep _ hf; omega
    have hV := h3.keepF hwn.ext fun j hj hf => by have := hsep _ hf; have := h8 j hj; omega
    obtain ⟨a2, ha2, hc2⟩ := hV.get (i := g) (by unfold codes; simpa using hg)
    rw [codes_get hg, ← hci] at hc2
    refine Nn.of ?_
    simp only [add_lit, Nat.zero_add]
    refine Ld.of hB (o := 1) (x := s2) rfl ⟨by omega, by rw [hV.1]; unfold codes; simp; omega, ?_⟩
    rw [ha2, Int.toNat_natCast]
    refine Nn.of (Ld.mk hc2 ⟨by omega, ?_⟩)
    have e3 : ((n : Int) - 1 - (i : Int)).toNat = n - 1 - i := by omega
    have hp15 : 2 ^ n ≤ 2 ^ 15 := Nat.pow_le_pow_right (by decide) n15
    rw [e3, Nat.min_eq_left (by omega), vbit_low c (n - 1 - i) (by omega)]
    have hw2 : (if i = 0 then way else 1) = 0 ∨ (if i = 0 then way else 1) = 1 := by split <;> omega
    have hinv : WInv (if i = 0 then way else 1) (Inf.hw st c n i) := by
      by_cases hi0 : i = 0
      · subst hi0; exact hin
      · rw [if_neg hi0]; exact ⟨hw_ok hok c n i, fun hh => by cases hh⟩
    refine (c_wlow hb hinv (by omega) _ 1).mono ?_
    rw [put_bit hw2 (bit_le _)]
    rintro r w4 ⟨rfl, ws2, hb2, hn2⟩
    refine Br.f rfl ⟨n - (i + 1), by omega, i + 1, by omega, rfl, by rw [i64_id (by omega)]; omega, ws2, ?_, hwn.trans hn2⟩
    rw [if_neg (by omega)]
    exact hb2
  · have : i = n := by omega
    subst this
    rw [if_neg (by omega)] at hb
    exact ⟨rfl, ws', hb, hwn⟩

end
end Inf
end Go.Proofs.YtjkoafjnmkchdaaGreatDoor
