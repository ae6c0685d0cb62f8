/- Tokens as text: what Int, Hex, String, Name and Join write, plain; Int and Hex walked. Conditions: sizes. -/
import Derived.Lib.ItoaLen
import Derived.Lib.LaidTab
import Derived.Test.YtpkadliieplblaaDoorTkH
import Derived.Test.YtpkadliieplblaaDoorBitM
import Derived.Test.YtpkadliieplblaaDoorMk
import Derived.Test.YtpkadliieplblaaDoorBuL
import Derived.Test.YtpkadliieplblaaDoorFnPl
namespace Go.Proofs.YtpkadliieplblaaDoor
namespace Tl
open Sh Fix Tk Bui Go.Lib
set_option linter.unusedVariables false
set_option linter.unusedSimpArgs false
set_option maxRecDepth 8000
set_option maxHeartbeats 4000000
/-! ### Plain -/
theorem dec_dig (u : Nat) : allDig (decDigits u) ∧ dval (decDigits u) = u ∧ 1 ≤ (decDigits u).length := by
  induction u using Nat.strongRecOn with
  | _ u ih =>
    have one : ∀ d, d < 10 → isDig (UInt8.ofNat (48 + d)) := fun d hd => by unfold isDig; rw [UInt8.toNat_ofNat']; omega
    have val : ∀ d, d < 10 → dval [UInt8.ofNat (48 + d)] = d := fun d hd => by
      show ((UInt8.ofNat (48 + d)).toNat - 48) * 10 ^ 0 + 0 = d
      rw [UInt8.toNat_ofNat']
      omega
    rw [decDigits]
    split
    · rename_i h
      exact ⟨fun c hc => by rw [List.mem_singleton.1 hc]; exact one u h, val u h, Nat.le_refl _⟩
    · rename_i h
      obtain ⟨h1, h2, h3⟩ := ih (u / 10) (by omega)
      refine ⟨fun c hc => ?_, ?_, by simp⟩
      · rcases List.mem_append.1 hc with hc | hc
        · exact h1 c hc
        · rw [List.mem_singleton.1 hc]; exact one _ (Nat.mod_lt _ (by decide))
      · rw [dval_app, h2, val _ (Nat.mod_lt _ (by decide))]
        show u / 10 * 10 + u % 10 = u
        omega
/-- The text of an integer. -/
structure IntT (n : Int) (t : By) (D : By) : Prop where
  d : allDig D
  d1 : 1 ≤ D.length
  d21 : D.length ≤ 21
  dv : dval D = n.natAbs
  t : t = (if n < 0 then [45] else []) ++ D
theorem itoa_T {n : Int} (h0 : -9223372036854775808 ≤ n) (h1 : n ≤ 9223372036854775807) : ∃ D, IntT n (itoa n) D := by
  have hl := itoa_length_le n h0 h1
  obtain ⟨a1, a2, a3⟩ := dec_dig n.natAbs
  refine ⟨decDigits n.natAbs, a1, a3, ?_, a2, ?_⟩
  · unfold itoa at hl
    split at hl
    · simp only [List.length_cons] at hl; omega
    · rw [show n.toNat = n.natAbs by omega] at hl; omega
  · unfold itoa
    split
    · rfl
    · rw [show n.toNat = n.natAbs by omega]; rfl
def hx (n : Nat) : UInt8 := if n < 10 then UInt8.ofNat (48 + n) else UInt8.ofNat (55 + n)
def hx2 (c : UInt8) : By := [hx (c.toNat / 16), hx (c.toNat % 16)]
def hexL (l : By) : By := l.flatMap hx2
def oct3 (c : UInt8) : By := [UInt8.ofNat (48 + c.toNat / 64 % 8), UInt8.ofNat (48 + c.toNat / 8 % 8), UInt8.ofNat (48 + c.toNat / 1 % 8)]
/-- A byte of a literal string. -/
def escS (c : UInt8) : By := if c = 40 ∨ c = 41 ∨ c = 92 then [92, c] else if c.toNat < 32 ∨ 126 < c.toNat then 92 :: oct3 c else [c]
/-- A byte of a name. -/
def escN (c : UInt8) : By := if 32 < c.toNat ∧ c.toNat ≤ 126 ∧ c ≠ 35 ∧ dlB c = false then [c] else 35 :: hx2 c
def strF (l : By) : By := 40 :: (l.flatMap escS ++ [41])
def nameF (l : By) : By := 47 :: l.flatMap escN
def hexF (l : By) : By := 60 :: (hexL l ++ [62])
/-- Parts joined; last: the last byte. -/
def joinF : UInt8 → List By → By
  | _, [] => []
  | last, p :: r => if p = [] then joinF last r else (if (regB last = true ∨ last = 47) ∧ regB (p.headD 0) = true then [32] else []) ++ p ++ joinF (p.getLastD 0) r
theorem flat_len {f : UInt8 → By} {k : Nat} (hf : ∀ c, (f c).length ≤ k) : ∀ l : By, (l.flatMap f).length ≤ k * l.length
  | [] => by simp
  | c :: l => by
    have h1 := flat_len hf l
    have h2 := hf c
    rw [List.flatMap_cons, List.length_append, List.length_cons, Nat.mul_add]
    omega
theorem escS_len (c : UInt8) : (escS c).length ≤ 4 := by
  unfold escS oct3
  split
  · simp
  · split <;> simp
theorem escN_len (c : UInt8) : (escN c).length ≤ 3 := by
  unfold escN hx2
  split <;> simp
theorem take_c {l : By} {i : Nat} {c : UInt8} (h : l[i]? = some c) : l.take (i + 1) = l.take i ++ [c] := by
  rw [List.take_add_one, h]
  rfl
theorem ext_grow {F : Nat → Prop} {a w : World} (h : Ext F a w) (os : Array Obj) : Ext F a (Go.Sort.grow w os) :=
  ⟨h.os, h.tape, h.output, by have := h.size; simp [Go.Sort.grow]; omega, fun j hj hn => by
    rw [← h.block j hj hn]
    have := h.size
    show (w.heap ++ os)[j]? = w.heap[j]?
    rw [Array.getElem?_append_left (by omega)]⟩
theorem tab_keep {P : Program} {n : String} {g : Nat} {k : IntKind} {zs : List Int} {w w' : World} (hg : P.globalNamed n = some g) (h : Lib.TabIs P w n k zs) (he : Ext (fun _ => False) w w') : Lib.TabIs P w' n k zs := by
  unfold Lib.TabIs World.var? at h ⊢
  rw [hg] at h ⊢
  simp only [Option.bind_some] at h ⊢
  have hlt : g < w.heap.size := by
    rcases Nat.lt_or_ge g w.heap.size with h' | h'
    · exact h'
    · rw [Array.getElem?_eq_none h'] at h
      cases h
  rw [he.block g hlt id]
  exact h
/-- The table of powers of ten. -/
def PT (w : World) : Prop := Lib.TabIs Tryd.prog w "internal/strconv.uint64pow10" .u64 Lib.pow10Tab
theorem PT.keep {w w' : World} (h : PT w) (he : Ext (fun _ => False) w w') : PT w' := tab_keep (g := 1) (by kernel_rfl) h he
theorem iand_u8n {x y : Nat} (hx : x < 2 ^ 8) (hy : y < 2 ^ 8) : iand .u8 (x : Int) (y : Int) = ((x &&& y : Nat) : Int) := by
  unfold iand
  rw [Bit.ofInt_nat, Bit.ofInt_nat]
  have h1 : (BitVec.ofNat IntKind.u8.bits x &&& BitVec.ofNat IntKind.u8.bits y).toNat = x &&& y := by
    rw [BitVec.toNat_and, BitVec.toNat_ofNat, BitVec.toNat_ofNat, Nat.mod_eq_of_lt (by simp [IntKind.bits]; omega), Nat.mod_eq_of_lt (by simp [IntKind.bits]; omega)]
  rw [h1]
  have h2 : x &&& y < 2 ^ 8 := Nat.and_lt_two_pow x hy
  exact u8_id (by omega)
abbrev digs : ByteArray := ⟨#[48, 49, 50, 51, 52, 53, 54, 55, 56, 57, 65, 66, 67, 68, 69, 70]⟩
theorem dig_at (n : Nat) (h : n < 16) : bAt digs (n : Int) = ((hx n).toNat : Int) := by
  have : ∀ m : Fin 16, bAt digs ((m.val : Nat) : Int) = ((hx m.val).toNat : Int) := by decide
  exact this ⟨n, h⟩
theorem hi_at (c : UInt8) : Int.fdiv (c.toNat : Int) (2 ^ 4) = ((c.toNat / 16 : Nat) : Int) := by
  rw [Int.fdiv_eq_ediv_of_nonneg _ (by decide)]
  show (c.toNat : Int) / 16 = _
  omega
theorem lo_at (c : UInt8) : iand .u8 (c.toNat : Int) 15 = ((c.toNat % 16 : Nat) : Int) := by
  have := iand_u8n (x := c.toNat) (y := 15) c.toNat_lt (by decide)
  rw [show ((15 : Nat) : Int) = 15 from rfl] at this
  rw [this]
  congr 1
  exact Nat.and_two_pow_sub_one_eq_mod c.toNat 4
theorem byte_lt (c : UInt8) : c.toNat < 256 := c.toNat_lt
section
variable {w w' w1 : World} {s t : ByteArray}
attribute [local irreducible] Ld Sh.St Nw Nn Lt LdS
theorem c_int {n : Int} (h0 : -9223372036854775808 ≤ n) (h1 : n ≤ 9223372036854775807) (hT : PT w) : C8 n w (fun r e w1 => ((e = 0 ∧ -2147483647 ≤ n ∧ n ≤ 2147483647 ∧ ∃ D, IntT n (bl r) D) ∨ (e = 2 ∧ (n < -2147483647 ∨ n > 2147483647))) ∧ Ext (fun _ => False) w w1) fun _ _ => False := by
  refine T8 _ _ _ _ ?_
  unfold S8
  refine Br.dec (fun h => ⟨.inr ⟨rfl, .inl h⟩, Ext.refl _ _⟩) fun h => Br.dec (fun h2 => ⟨.inr ⟨rfl, .inr h2⟩, Ext.refl _ _⟩) fun h2 => ?_
  refine (Tryd.strconv_FormatInt_10 n h0 h1 w hT).mono fun e w' hh => .inl ⟨_, hh.1, .inl ⟨rfl, by omega, by omega, ?_⟩, ?_⟩
  · rw [bl_ba]; exact itoa_T h0 h1
  · obtain ⟨k, os, rfl⟩ := hh.2
    exact ext_grow ((Ext.refl _ w).drewN k) os
/-- octet.Hex. -/
theorem c_hex (hs : s.size ≤ 1000000) (w : World) : C26 s w fun r w1 => bl r = hexL (bl s) ∧ Ext (fun _ => False) w w1 := by
  refine T26 _ _ _ ?_
  unfold S26
  have hbs := bl_size s
  rw [show (IntKind.i64.wrap (2 * ((s.size : Nat) : Int))) = ((2 * s.size : Nat) : Int) by rw [i64_id (by omega)]; omega]
  obtain ⟨r0, w0, hr0, hR0, he0, ho0⟩ := bytes_make w 0 (2 * s.size) (by omega) (by omega)
  refine ⟨r0, w0, hr0, ?_⟩
  refine ⟨fun n st v => ∃ (i : Nat) (sl : Slc), st = (sl, (i : Int)) ∧ i ≤ s.size ∧ n = s.size - i ∧ BRow v sl (hexL ((bl s).take i)) ∧ (∀ j, sl.own j → w.heap.size ≤ j) ∧ Ext (fun _ => False) w v, s.size, ⟨0, r0, rfl, by omega, rfl, hR0, ho0, he0⟩, ?_⟩
  rintro n st v ⟨i, sl, rfl, hi, rfl, hR, ho, hE⟩
  unfold S26L1
  refine Br.dec (fun q => ?_) fun q => ?_
  · have hc := Tk.byte_at (t := bl s) (i := i) (by omega)
    generalize (bl s).getD i 0 = c at hc
    have hlt := byte_lt c
    rw [bAt_bl hc, hi_at, lo_at, dig_at _ (by omega), dig_at _ (by omega)]
    refine ⟨by omega, by omega, by omega, ?_, by omega, by omega, by omega, ?_, Nw.of ?_⟩
    · have : digs.size = 16 := rfl
      show ((c.toNat / 16 : Nat) : Int) < (digs.size : Nat)
      omega
    · have : digs.size = 16 := rfl
      show ((c.toNat % 16 : Nat) : Int) < (digs.size : Nat)
      omega
    have hl := flat_len (f := hx2) (k := 2) (fun c => by simp [hx2]) ((bl s).take i)
    have hl2 : (hexL ((bl s).take i)).length ≤ 2 * ((bl s).take i).length := hl
    rw [List.length_take] at hl2
    have e1 : Ext (fun _ => False) v.drew (v.drew.alloc (.cells (bcs (hx2 c)).toArray 5)) := (Ext.refl _ _).alloc _
    have R1 : BRow (v.drew.alloc (.cells (bcs (hx2 c)).toArray 5)) ⟨some ⟨v.drew.heap.size, 0, none⟩, 2, 2⟩ (hx2 c) := Row.new v.drew (bcs (hx2 c)).toArray 5 1 2 rfl
    have hR' : BRow v.drew sl (hexL ((bl s).take i)) := hR.keep (Ext.refl (fun _ => False) v).drew fun _ _ h => h
    have hR1 := hR'.keep e1 fun _ _ h => h
    obtain ⟨sl', v', hrun, hR', he', ho'⟩ := app_row (ty := 56) hR1 R1 (by
      have : (hx2 c).length = 2 := rfl
      omega)
    refine ⟨sl', v', hrun, s.size - (i + 1), by omega, i + 1, sl', by rw [i64_id (by omega)]; rfl, by omega, rfl, ?_, ?_, ?_⟩
    · rw [take_c hc]
      unfold hexL at hR' ⊢
      rw [List.flatMap_append]
      simpa using hR'
    · intro j hj
      rcases ho' j hj with h | h
      · exact ho j h
      · have := hE.size
        have := e1.size
        simp only [size_drew'] at this
        omega
    · exact Ext.new' (hE.drew.tr e1) he' fun j hj => ho j hj
  · have hi2 : i = (bl s).length := by omega
    refine ⟨_, _, str_row hR, ?_, hE⟩
    rw [bl_ba, hi2, List.take_length]
/-- plain.Hex. -/
theorem c_phex (hs : s.size ≤ 1000) (w : World) : C11 s w fun r e w1 => e = 0 ∧ bl r = hexF (bl s) ∧ Ext (fun _ => False) w w1 := by
  refine T11 _ _ _ ?_
  unfold S11
  refine Br.dec (fun q => by omega) fun _ => (c_hex (by omega) w).mono ?_
  rintro r w1 ⟨hr, he⟩
  have mx : IntKind.i64.max = 9223372036854775807 := by decide
  have z1 : (⟨#[60]⟩ : ByteArray).size = 1 := rfl
  have z2 : (⟨#[62]⟩ : ByteArray).size = 1 := rfl
  have hl := flat_len (f := hx2) (k := 2) (fun c => by simp [hx2]) (bl s)
  have hl2 : (bl r).length ≤ 2 * (bl s).length := by rw [hr]; exact hl
  rw [bl_size, bl_size] at hl2
  refine ⟨by omega, by simp only [ByteArray.size_append]; omega, rfl, ?_, he⟩
  rw [bl_app, bl_app, hr]
  simp [hexF]
  rfl
end
end Tl
end Go.Proofs.YtpkadliieplblaaDoor
