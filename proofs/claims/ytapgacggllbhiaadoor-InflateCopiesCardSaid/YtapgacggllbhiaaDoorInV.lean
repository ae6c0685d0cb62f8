/- Inflate: stored blocks; InflateStored. Condition: the laid variables. -/
import Derived.Test.YtapgacggllbhiaaDoorInU
namespace Go.Proofs.YtapgacggllbhiaaDoor
namespace Inf
open Sh Bit
set_option linter.unusedVariables false
set_option linter.unusedSimpArgs false
set_option maxRecDepth 4000
set_option maxHeartbeats 1000000
/-! ### Numbers of whole bytes -/
theorem bt_low8 (s : ByteArray) (i k : Nat) (hk : k < 8) : bt s 1 (8 * i + k) = byt s i / 2 ^ k % 2 := by
  unfold bt
  rw [if_pos rfl, show (8 * i + k) / 8 = i by omega, show (8 * i + k) % 8 = k by omega]
theorem tk_step (s : ByteArray) (p n : Nat) : tk s 1 p (n + 1) = tk s 1 p n + bt s 1 (p + n) * 2 ^ n := by
  show (if (1 : Int) = 1 then _ else _) = _
  rw [if_pos rfl]
theorem tk_low8 (s : ByteArray) (i : Nat) : tk s 1 (8 * i) 8 = byt s i := by
  have hb := byt_bd s i
  rw [tk_step, tk_step, tk_step, tk_step, tk_step, tk_step, tk_step, tk_step, show tk s 1 (8 * i) 0 = 0 by rfl]
  rw [bt_low8 s i 0 (by omega), bt_low8 s i 1 (by omega), bt_low8 s i 2 (by omega), bt_low8 s i 3 (by omega), bt_low8 s i 4 (by omega), bt_low8 s i 5 (by omega), bt_low8 s i 6 (by omega), bt_low8 s i 7 (by omega)]
  simp only [show (2 : Int) ^ 7 = 128 by decide, show (2 : Int) ^ 6 = 64 by decide, show (2 : Int) ^ 5 = 32 by decide, show (2 : Int) ^ 4 = 16 by decide, show (2 : Int) ^ 3 = 8 by decide, show (2 : Int) ^ 2 = 4 by decide, show (2 : Int) ^ 1 = 2 by decide, show (2 : Int) ^ 0 = 1 by decide]
  omega
theorem tk_low16 (s : ByteArray) (i : Nat) : tk s 1 (8 * i) 16 = byt s i + 256 * byt s (i + 1) := by
  rw [show (16 : Nat) = 8 + 8 by rfl, tk_low, tk_low8, show 8 * i + 8 = 8 * (i + 1) by omega, tk_low8, show (2 : Int) ^ 8 = 256 by decide]
  omega
/-- A stored block: the flag, the length, its complement, the data. -/
def hd5 (f : UInt8) (n : Nat) : List UInt8 := [f, UInt8.ofNat (n % 256), UInt8.ofNat (n / 256), UInt8.ofNat (255 - n % 256), UInt8.ofNat (255 - n / 256)]
def blkS (f : UInt8) (p : List UInt8) : List UInt8 := hd5 f p.length ++ p
theorem blkS_len (f : UInt8) (p : List UInt8) : (blkS f p).length = 5 + p.length := by unfold blkS hd5; simp; omega
theorem of_toNat {n : Nat} (h : n < 256) : (UInt8.ofNat n).toNat = n := by rw [UInt8.toNat_ofNat', Nat.mod_eq_of_lt (by omega)]
theorem byt_mid {t : ByteArray} {pre rest : List UInt8} {f : UInt8} {p : List UInt8} (ht : t.data.toList = pre ++ (blkS f p ++ rest)) {k : Nat} (hk : k < 5) : byt t (pre.length + k) = (((hd5 f p.length).getD k 0).toNat : Int) := by
  rw [byt_l, ht, List.getD_eq_getElem?_getD, List.getElem?_append_right (by omega), Nat.add_sub_cancel_left]
  unfold blkS
  rw [List.append_assoc, List.getElem?_append_left (by show k < 5; exact hk), List.getD_eq_getElem?_getD]
theorem block_at {t : ByteArray} {pre rest p : List UInt8} {f : UInt8} {most : Nat} {out : List UInt8} (ht : t.data.toList = pre ++ (blkS f p ++ rest)) (hf : f.toNat ≤ 1) (hp : p.length ≤ 300) (hm : out.length + p.length ≤ most) :
    num t (8 * pre.length) 1 = .ok ((f.toNat : Int), 8 * pre.length + 1) ∧ num t (8 * pre.length + 1) 2 = .ok (0, 8 * pre.length + 1 + 2) ∧ block t most 0 out (8 * pre.length + 1 + 2) = .ok (out ++ p, 8 * (pre ++ blkS f p).length) := by
  have hsz : t.size = pre.length + (5 + p.length + rest.length) := by
    rw [size_list, ht, List.length_append, List.length_append, blkS_len]
  have b0 := byt_mid ht (k := 0) (by omega)
  have b1 := byt_mid ht (k := 1) (by omega)
  have b2 := byt_mid ht (k := 2) (by omega)
  have b3 := byt_mid ht (k := 3) (by omega)
  have b4 := byt_mid ht (k := 4) (by omega)
  rw [Nat.add_zero] at b0
  have b0 : byt t pre.length = (f.toNat : Int) := b0
  have b1 : byt t (pre.length + 1) = ((UInt8.ofNat (p.length % 256)).toNat : Int) := b1
  have b2 : byt t (pre.length + 2) = ((UInt8.ofNat (p.length / 256)).toNat : Int) := b2
  have b3 : byt t (pre.length + 3) = ((UInt8.ofNat (255 - p.length % 256)).toNat : Int) := b3
  have b4 : byt t (pre.length + 4) = ((UInt8.ofNat (255 - p.length / 256)).toNat : Int) := b4
  rw [of_toNat (by omega)] at b1 b2 b3 b4
  refine ⟨?_, ?_, ?_⟩
  · unfold num
    rw [if_pos (by omega), tk_step, show tk t 1 (8 * pre.length) 0 = 0 by rfl, bt_low8 t _ 0 (by omega), b0]
    congr 2
    simp only [show (2 : Int) ^ 0 = 1 by decide]
    omega
  · unfold num
    rw [if_pos (by omega), tk_step, tk_step, show tk t 1 (8 * pre.length + 1) 0 = 0 by rfl, Nat.add_zero, bt_low8 t _ 1 (by omega), show 8 * pre.length + 1 + 1 = 8 * pre.length + 2 by omega, bt_low8 t _ 2 (by omega), b0]
    congr 2
    simp only [show (2 : Int) ^ 0 = 1 by decide, show (2 : Int) ^ 1 = 2 by decide, show (2 : Int) ^ 2 = 4 by decide]
    omega
  · unfold block
    rw [if_neg (by decide), if_pos rfl]
    unfold stored
    have e1 : (8 * pre.length + 1 + 2 + 7) / 8 * 8 = 8 * (pre.length + 1) := by omega
    have n1 : num t (8 * (pre.length + 1)) 16 = .ok ((p.length : Int), 8 * (pre.length + 1) + 16) := by
      unfold num
      rw [if_pos (by omega), tk_low16, show pre.length + 1 + 1 = pre.length + 2 by omega, b1, b2]
      congr 2
      omega
    have n2 : num t (8 * (pre.length + 1) + 16) 16 = .ok (65535 - (p.length : Int), 8 * (pre.length + 1) + 16 + 16) := by
      unfold num
      rw [if_pos (by omega), show 8 * (pre.length + 1) + 16 = 8 * (pre.length + 3) by omega, tk_low16, show pre.length + 3 + 1 = pre.length + 4 by omega, b3, b4]
      congr 2
      omega
    rw [e1, n1]
    dsimp only
    rw [n2]
    dsimp only
    rw [if_neg (fun hh => hh rfl), Int.toNat_natCast, if_neg (by omega), if_neg (by omega)]
    have hx : (t.extract ((8 * (pre.length + 1) + 16 + 16) / 8) ((8 * (pre.length + 1) + 16 + 16) / 8 + p.length)).data.toList = p := by
      rw [extract_list, ht, show (8 * (pre.length + 1) + 16 + 16) / 8 = pre.length + 5 by omega, Nat.add_sub_cancel_left]
      unfold blkS
      rw [List.append_assoc, ← List.append_assoc, List.drop_left' (by rw [List.length_append]; rfl), List.take_left' rfl]
    rw [hx]
    congr 2
    rw [List.length_append, blkS_len]
    omega
section
variable (L : List ByteArray)
/-- The first i blocks, and their data. -/
def encI : Nat → List UInt8
  | 0 => []
  | i + 1 => encI i ++ blkS (if i + 1 = L.length then 1 else 0) (L.getD i ⟨#[]⟩).data.toList
def catI : Nat → List UInt8
  | 0 => []
  | i + 1 => catI i ++ (L.getD i ⟨#[]⟩).data.toList
theorem encI_pre (i : Nat) : ∀ d, ∃ r, encI L (i + d) = encI L i ++ r
  | 0 => ⟨[], by simp⟩
  | d + 1 => by
    obtain ⟨r, h⟩ := encI_pre i d
    exact ⟨r ++ blkS (if i + d + 1 = L.length then 1 else 0) (L.getD (i + d) ⟨#[]⟩).data.toList, by
      show encI L (i + d) ++ _ = _
      rw [h, List.append_assoc]
      rfl⟩
theorem catI_pre (i : Nat) : ∀ d, (catI L i).length ≤ (catI L (i + d)).length
  | 0 => Nat.le_refl _
  | d + 1 => by
    have := catI_pre i d
    show _ ≤ (catI L (i + d) ++ _).length
    rw [List.length_append]
    omega
theorem enc_len (h : ∀ i, i < L.length → (L.getD i ⟨#[]⟩).size ≤ 300) : ∀ i, i ≤ L.length → (encI L i).length ≤ i * 305 ∧ (catI L i).length ≤ i * 300 ∧ i ≤ (encI L i).length
  | 0, _ => ⟨Nat.le_refl _, Nat.le_refl _, Nat.le_refl _⟩
  | i + 1, hi => by
    obtain ⟨a, b, c⟩ := enc_len h i (by omega)
    have hz := h i (by omega)
    rw [size_list] at hz
    show (encI L i ++ _).length ≤ _ ∧ (catI L i ++ _).length ≤ _ ∧ _ ≤ (encI L i ++ _).length
    rw [List.length_append, List.length_append, blkS_len]
    omega
theorem enc_all {t : ByteArray} {most : Nat} (h0 : L.length ≠ 0) (h : ∀ i, i < L.length → (L.getD i ⟨#[]⟩).size ≤ 300) (ht : t.data.toList = encI L L.length) (hm : (catI L L.length).length ≤ most) (K : Nat) (hK : L.length ≤ K) :
    allQ t most K [] 0 = .ok (catI L L.length, 8 * t.size) := by
  have step : ∀ i, i < L.length → ∃ rest, t.data.toList = encI L i ++ (blkS (if i + 1 = L.length then 1 else 0) (L.getD i ⟨#[]⟩).data.toList ++ rest) := fun i hi => by
    obtain ⟨r, hr⟩ := encI_pre L (i + 1) (L.length - (i + 1))
    rw [show i + 1 + (L.length - (i + 1)) = L.length by omega] at hr
    refine ⟨r, ?_⟩
    rw [ht, hr]
    show (encI L i ++ _) ++ r = _
    rw [List.append_assoc]
  have one : ∀ i, i < L.length → ∀ k, allQ t most (k + 1) (catI L i) (8 * (encI L i).length) = if i + 1 = L.length then .ok (catI L (i + 1), 8 * (encI L (i + 1)).length) else allQ t most k (catI L (i + 1)) (8 * (encI L (i + 1)).length) := fun i hi k => by
    obtain ⟨rest, hr⟩ := step i hi
    have hz := h i hi
    rw [size_list] at hz
    have hc := catI_pre L (i + 1) (L.length - (i + 1))
    rw [show i + 1 + (L.length - (i + 1)) = L.length by omega] at hc
    have hc1 : (catI L (i + 1)).length = (catI L i).length + (L.getD i ⟨#[]⟩).data.toList.length := by show (catI L i ++ _).length = _; rw [List.length_append]
    obtain ⟨g1, g2, g3⟩ := block_at (most := most) (out := catI L i) hr (by split <;> decide) hz (by omega)
    conv => lhs; unfold allQ
    rw [g1]
    dsimp only [bnd]
    rw [g2]
    dsimp only
    rw [g3]
    dsimp only
    by_cases hl : i + 1 = L.length
    · rw [if_pos hl, if_pos hl]
      rw [if_pos (by decide)]
      show Except.ok (catI L i ++ _, _) = Except.ok (catI L i ++ _, 8 * (encI L i ++ blkS (if i + 1 = L.length then 1 else 0) _).length)
      rw [if_pos hl]
    · rw [if_neg hl, if_neg hl]
      rw [if_neg (by decide)]
      show allQ t most k (catI L i ++ _) _ = allQ t most k (catI L i ++ _) (8 * (encI L i ++ blkS (if i + 1 = L.length then 1 else 0) _).length)
      rw [if_neg hl]
  have up : ∀ i, i < L.length → allQ t most K [] 0 = allQ t most (K - i) (catI L i) (8 * (encI L i).length) := fun i => by
    induction i with
    | zero => intro _; rfl
    | succ i ih =>
      intro hi
      rw [ih (by omega), show K - i = (K - (i + 1)) + 1 by omega, one i (by omega), if_neg (by omega)]
  rw [up (L.length - 1) (by omega), show K - (L.length - 1) = (K - (L.length - 1) - 1) + 1 by omega, one (L.length - 1) (by omega), if_pos (by omega), show L.length - 1 + 1 = L.length by omega, size_list, ht]
end
def strs (L : List ByteArray) : List Value := L.map .string
def SV (w : World) (s : Slc) (L : List ByteArray) : Prop := s.len = L.length ∧ VRow w s 1 (strs L)
theorem SV.keep {w w' : World} {s : Slc} {L : List ByteArray} (h : SV w s L) (he : Ext (fun _ => False) w w') : SV w' s L := ⟨h.1, h.2.keep he⟩
theorem SV.get {w : World} {s : Slc} {L : List ByteArray} (h : SV w s L) {i : Nat} (hi : i < L.length) : ∃ a, s.p = some a ∧ w.cell? (a.add (i * 1)) = some (.string (L.getD i ⟨#[]⟩)) := by
  obtain ⟨a, ha, hc⟩ := h.2.2 i (.string (L.getD i ⟨#[]⟩)) (by
    unfold strs
    rw [List.getElem?_map, List.getElem?_eq_getElem hi, List.getD_eq_getElem?_getD, List.getElem?_eq_getElem hi]
    rfl)
  exact ⟨a, ha, by rw [Nat.mul_one]; exact hc⟩
theorem data_app (a b : ByteArray) : (a ++ b).data.toList = a.data.toList ++ b.data.toList := by rw [ByteArray.data_append, Array.toList_append]
theorem w8 {n : Nat} (h : n < 256) : IntKind.u8.wrap (n : Int) = ((UInt8.ofNat n).toNat : Int) := by rw [of_toNat h, u8_id (by omega)]
attribute [local irreducible] Ld St Nw Nn Lt LdS
theorem stored_law {w : World} {N : Nat} {ps : Slc} {L : List ByteArray} (hL : Laid N w) (hv : SV w ps L) : C4 ps w (fun r w1 => r = true ∧ Ext (fun _ => False) w w1) fun _ _ => False := by
  refine T4 _ _ _ _ ?_
  unfold S4
  refine (c_lives hL).mono ?_ fun _ _ h => h
  rintro r w1 ⟨rfl, e1⟩
  rw [hv.1]
  refine Br.f rfl (Br.eq (fun _ => ⟨rfl, e1⟩) fun h0 => Br.dec (fun _ => ⟨rfl, e1⟩) fun h20 => ?_)
  have hmax : IntKind.i64.max = 9223372036854775807 := by decide
  refine ⟨fun n st w2 => ∃ (i : Nat) (s a : ByteArray), st = (s, a, (i : Int)) ∧ i ≤ L.length ∧ n = L.length - i ∧ s.data.toList = encI L i ∧ a.data.toList = catI L i ∧ (∀ j, j < i → (L.getD j ⟨#[]⟩).size ≤ 300) ∧ Ext (fun _ => False) w w2, L.length, ⟨0, ⟨#[]⟩, ⟨#[]⟩, rfl, by omega, rfl, rfl, rfl, fun j hj => by omega, e1⟩, ?_⟩
  rintro n st w2 ⟨i, s, a, rfl, hi, rfl, hs, ha, hsz, e2⟩
  unfold S4L1
  dsimp only
  rw [hv.1]
  have hlen : ∀ i', i' ≤ i → (encI L i').length ≤ i' * 305 ∧ (catI L i').length ≤ i' * 300 ∧ i' ≤ (encI L i').length := fun i' => by
    induction i' with
    | zero => intro _; exact ⟨Nat.le_refl _, Nat.le_refl _, Nat.le_refl _⟩
    | succ k ih =>
      intro hk
      obtain ⟨x, y, z⟩ := ih (by omega)
      have hz := hsz k (by omega)
      rw [size_list] at hz
      show (encI L k ++ _).length ≤ _ ∧ (catI L k ++ _).length ≤ _ ∧ _ ≤ (encI L k ++ _).length
      rw [List.length_append, List.length_append, blkS_len]
      omega
  obtain ⟨l1, l2, l3⟩ := hlen i (Nat.le_refl _)
  have ls : s.size = (encI L i).length := by rw [size_list, hs]
  have la : a.size = (catI L i).length := by rw [size_list, ha]
  refine Br.dec (fun q => ⟨by omega, by omega, ?_⟩) fun q => ?_
  · have hlt : i < L.length := by omega
    obtain ⟨p, hp, hc⟩ := (hv.keep e2).get hlt
    rw [hp, Int.toNat_natCast]
    refine Nn.of (Ld.mk hc ?_)
    generalize hx : L.getD i ⟨#[]⟩ = x at hc
    refine Br.dec (fun _ => ⟨rfl, e2⟩) fun h300 => ?_
    have hx3 : x.size ≤ 300 := by omega
    have m1 : Int.tmod ((x.size : Nat) : Int) 256 = ((x.size % 256 : Nat) : Int) := by rw [tmod_id (by omega)]; rfl
    have m2 : IntKind.i64.wrap (Int.tdiv ((x.size : Nat) : Int) 256) = ((x.size / 256 : Nat) : Int) := by rw [tdiv_id (by omega), i64_id (by omega)]; rfl
    have m3 : IntKind.i64.wrap (255 - ((x.size % 256 : Nat) : Int)) = ((255 - x.size % 256 : Nat) : Int) := by rw [i64_id (by omega)]; omega
    have m4 : IntKind.i64.wrap (255 - ((x.size / 256 : Nat) : Int)) = ((255 - x.size / 256 : Nat) : Int) := by rw [i64_id (by omega)]; omega
    rw [m1, m2, m3, m4, w8 (by omega), w8 (by omega), w8 (by omega), w8 (by omega), i64_id (n := ((L.length : Nat) : Int) - 1) (by omega)]
    have fin : ∀ f : UInt8, f = (if i + 1 = L.length then 1 else 0) → Nw w2 (.cells #[.int .u8 (f.toNat : Int), .int .u8 ((UInt8.ofNat (x.size % 256)).toNat : Int), .int .u8 ((UInt8.ofNat (x.size / 256)).toNat : Int), .int .u8 ((UInt8.ofNat (255 - x.size % 256)).toNat : Int), .int .u8 ((UInt8.ofNat (255 - x.size / 256)).toNat : Int)] 5) fun w3 =>
        Rn Tryd.prog (convert 34 9 (Slc.v (⟨some ⟨w2.heap.size, 0, none⟩, 5, 5⟩ : Slc))) w3 Value.string fun (y : ByteArray) w4 =>
        (((y).size + (x).size : Nat) : Int) ≤ IntKind.i64.max ∧ (((s).size + (y ++ x).size : Nat) : Int) ≤ IntKind.i64.max ∧ (((a).size + (x).size : Nat) : Int) ≤ IntKind.i64.max ∧
          ∃ n', n' < L.length - i ∧ ∃ (i' : Nat) (s' a' : ByteArray), (s ++ (y ++ x), a ++ x, IntKind.i64.wrap ((i : Int) + 1)) = (s', a', (i' : Int)) ∧ i' ≤ L.length ∧ n' = L.length - i' ∧ s'.data.toList = encI L i' ∧ a'.data.toList = catI L i' ∧ (∀ j, j < i' → (L.getD j ⟨#[]⟩).size ≤ 300) ∧ Ext (fun _ => False) w w4 := fun f hf => by
      refine Nw.of ?_
      have hB : BRow (w2.alloc (.cells (bcs (hd5 f x.size)).toArray 5)) ⟨some ⟨w2.heap.size, 0, none⟩, 5, 5⟩ (hd5 f x.size) := ⟨rfl, .inr ⟨_, _, rfl, Blk.new w2 _ _, Nat.le_refl _, rfl, rfl⟩⟩
      refine ⟨_, _, str_row hB, ?_⟩
      have hy : (⟨(hd5 f x.size).toArray⟩ : ByteArray).size = 5 := rfl
      dsimp only
      rw [ByteArray.size_append, hy, hmax]
      refine ⟨by omega, by omega, by omega, L.length - (i + 1), by omega, i + 1, _, _, by rw [i64_id (by omega)]; rfl, by omega, rfl, ?_, ?_, fun j hj => ?_, e2.alloc _⟩
      · rw [data_app, data_app, hs]
        show _ = encI L i ++ blkS (if i + 1 = L.length then 1 else 0) (L.getD i ⟨#[]⟩).data.toList
        rw [hx, ← hf]
        unfold blkS
        rw [← size_list]
      · rw [data_app, ha]
        show _ = catI L i ++ (L.getD i ⟨#[]⟩).data.toList
        rw [hx]
      · by_cases hji : j = i
        · rw [hji, hx]; exact hx3
        · exact hsz j (by omega)
    refine Br.eq (fun q2 => Lt.of ?_) fun q2 => Lt.of ?_
    · exact fin 1 (by rw [if_pos (by omega)])
    · exact fin 0 (by rw [if_neg (by omega)])
  · have : i = L.length := by omega
    subst this
    refine (c_All (N := N) (s := s) (by omega) (hL.no e2) ((a.size : Nat) : Int)).mono ?_
    rintro d n e w3 ⟨h3, e3⟩
    rw [allR_Q (by omega), enc_all L (by omega) hsz hs (by omega) _ (by omega)] at h3
    simp only [Prod.mk.injEq] at h3
    obtain ⟨rfl, rfl, rfl⟩ := h3
    have hd : (⟨(catI L L.length).toArray⟩ : ByteArray) = a := ba_ext (by rw [ha])
    rw [hd]
    refine Br.t (by simp) (Br.t ?_ ⟨rfl, e2.tr e3⟩)
    simp
    omega
end Inf
end Go.Proofs.YtapgacggllbhiaaDoor
