/- Numbers as text, walked: trims, row, Text, Real, digits, Cut. Conditions: sizes. -/
import Derived.Test.YtpkadliieplblaaDoorSlx
import Derived.Test.YtpkadliieplblaaDoorTkA
import Derived.Test.YtpkadliieplblaaDoorFix
import Derived.Test.YtpkadliieplblaaDoorBy
import Derived.Test.YtpkadliieplblaaDoorGn
namespace Go.Proofs
open Go.Shelf Go.RowKit
theorem Tryd.trimL (s cut : ByteArray) (w : World) (hcs : cut.size < 4294967281) (hascii : ∀ (j : Nat) b, cut.data.toList[j]? = some b → b.toNat < 128) :
    Calls Tryd.prog 88 #[.string s, .string cut] w fun e w' => e = .returned (.string ⟨(Lib.trimLeftS s.data.toList cut.data.toList).toArray⟩) ∧ Below w.heap.size w w' := Any.strings_TrimLeft_laid Tryd.lays161 (by kernel_rfl) s cut w hcs hascii
theorem Tryd.trimR (s cut : ByteArray) (w : World) (hs : s.size ≤ 9223372036854775807) (hcs : cut.size < 4294967281) (hascii : ∀ (j : Nat) b, cut.data.toList[j]? = some b → b.toNat < 128) :
    Calls Tryd.prog 16 #[.string s, .string cut] w fun e w' => e = .returned (.string ⟨(Lib.trimRightS s.data.toList cut.data.toList).toArray⟩) ∧ Below w.heap.size w w' := Any.strings_TrimRight_laid Tryd.lays162 (by kernel_rfl) s cut w hs hcs hascii
theorem Tryd.trimB (s cut : ByteArray) (w : World) (hs : s.size ≤ 9223372036854775807) (hcs : cut.size < 4294967281) (hascii : ∀ (j : Nat) b, cut.data.toList[j]? = some b → b.toNat < 128) :
    Calls Tryd.prog 89 #[.string s, .string cut] w fun e w' => e = .returned (.string ⟨(Lib.trimS s.data.toList cut.data.toList).toArray⟩) ∧ Below w.heap.size w w' := Any.strings_Trim_laid Tryd.lays160 (by kernel_rfl) s cut w hs hcs hascii
end Go.Proofs
namespace Go.Proofs.YtpkadliieplblaaDoor
namespace Tk
open Sh Fix Go.Lib
set_option linter.unusedVariables false
set_option linter.unusedSimpArgs false
set_option maxRecDepth 8000
set_option maxHeartbeats 4000000
abbrev bl (s : ByteArray) : By := s.data.toList
abbrev ba (l : By) : ByteArray := ⟨l.toArray⟩
theorem bl_ba (l : By) : bl (ba l) = l := by simp [bl, ba]
theorem ba_bl (s : ByteArray) : ba (bl s) = s := by simp [bl, ba]
theorem bl_size (s : ByteArray) : (bl s).length = s.size := Array.length_toList
theorem bl_app (a b : ByteArray) : bl (a ++ b) = bl a ++ bl b := by simp [bl]
theorem bl_ext (s : ByteArray) (a b : Nat) : bl (s.extract a b) = ((bl s).drop a).take (b - a) := by
  show (s.extract a b).data.toList = _
  rw [ByteArray.data_extract, Array.toList_extract]
theorem bl_inj {a b : ByteArray} (h : bl a = bl b) : a = b := by rw [← ba_bl a, h, ba_bl]
theorem ext_of_below {w w' : World} (h : Go.RowKit.Below w.heap.size w w') : Ext (fun _ => False) w w' := ⟨h.os, h.tape, h.output, h.size, fun k hk _ => h.block k hk⟩
section
variable {w w' w1 : World} {s t : ByteArray}
attribute [local irreducible] Ld Sh.St Nw Nn Lt LdS
theorem c_trim10 (s : ByteArray) (hs : s.size ≤ 1099511627776) (w : World) : C89 s (⟨#[48, 49, 50, 51, 52, 53, 54, 55, 56, 57]⟩ : ByteArray) w fun r w1 => bl r = trimS (bl s) tens ∧ Ext (fun _ => False) w w1 :=
  (Tryd.trimB s _ w (by omega) (by decide) (ascii_of_all (by decide))).mono fun e w' h => ⟨_, h.1, by rw [bl_ba]; rfl, ext_of_below h.2⟩
theorem c_trim0 (s : ByteArray) (hs : s.size ≤ 1099511627776) (w : World) : C16 s (⟨#[48]⟩ : ByteArray) w fun r w1 => bl r = trimRightS (bl s) [48] ∧ Ext (fun _ => False) w w1 :=
  (Tryd.trimR s _ w (by omega) (by decide) (ascii_of_all (by decide))).mono fun e w' h => ⟨_, h.1, by rw [bl_ba], ext_of_below h.2⟩
theorem c_pre (s p : ByteArray) (w : World) : C67 s p w fun r w1 => r = hasPrefix (bl s) (bl p) ∧ w1 = w :=
  (Tryd.strings_HasPrefix s p w).mono fun e w' h => ⟨_, h.1, rfl, h.2⟩
theorem c_ix1 (s : ByteArray) (c : UInt8) (w : World) : C41 s (⟨#[c]⟩ : ByteArray) w fun r w1 => r = indexByte (bl s) c ∧ w1 = w :=
  (Tryd.stringslite_Index_one s c w).mono fun e w' h => ⟨_, h.1, rfl, h.2⟩
theorem tm10 (m : Nat) : Int.tmod (m : Int) 10 = ((m % 10 : Nat) : Int) := by rw [Int.tmod_eq_emod_of_nonneg (by omega)]; omega
theorem td10 (m : Nat) : Int.tdiv (m : Int) 10 = ((m / 10 : Nat) : Int) := by rw [Int.tdiv_eq_ediv_of_nonneg (by omega)]; omega
theorem c_row {n least k : Nat} (h1 : 1 ≤ least) (hlk : least ≤ k) (hk : k ≤ 10) (hn : n < 10 ^ k) (w : World) :
    C15 (n : Int) (least : Int) w fun r w1 => (allDig (bl r) ∧ dval (bl r) = n ∧ least ≤ (bl r).length ∧ (bl r).length ≤ k) ∧ Ext (fun _ => False) w w1 := by
  refine T15 _ _ _ _ ?_
  unfold S15
  have hb : n < 10000000000 := Nat.lt_of_lt_of_le hn (Nat.le_trans (Nat.pow_le_pow_right (by decide) hk) (by decide))
  refine ⟨fun c st v => ∃ (m : Nat) (l : By), st = ((m : Int), ba l) ∧ allDig l ∧ n = m * 10 ^ l.length + dval l ∧ l.length ≤ k ∧ c = k - l.length ∧ Ext (fun _ => False) w v, k, ⟨n, [], rfl, (fun c hc => by cases hc), by simp [dval], by simp, by simp, Ext.refl _ _⟩, ?_⟩
  rintro c st v ⟨m, l, rfl, hd, he, hl, rfl, ev⟩
  unfold S15L1
  dsimp only
  have hmn : m ≤ n := by
    have : m * 1 ≤ m * 10 ^ l.length := Nat.mul_le_mul_left m (Nat.pow_pos (by decide))
    omega
  have hdg : isDig (UInt8.ofNat (48 + m % 10)) := by
    unfold isDig
    rw [UInt8.toNat_ofNat']
    omega
  have hcell : IntKind.u8.wrap (IntKind.i64.wrap (48 + Int.tmod (m : Int) 10)) = (((UInt8.ofNat (48 + m % 10)).toNat : Nat) : Int) := by
    rw [tm10, i64_id (by omega), u8_id (by omega), UInt8.toNat_ofNat']
    omega
  have hq : IntKind.i64.wrap (Int.tdiv (m : Int) 10) = ((m / 10 : Nat) : Int) := by rw [td10, i64_id (by omega)]
  rw [hcell, hq]
  have hsz : (ba l).size = l.length := by rw [← bl_size, bl_ba]
  have step : l.length < k → ∀ (v' : World), v' = v.alloc (.cells #[.int .u8 (((UInt8.ofNat (48 + m % 10)).toNat : Nat) : Int)] 5) →
      Rn Tryd.prog (convert 56 9 (Slc.v ((⟨some ⟨v.heap.size, 0, none⟩, 1, 1⟩ : Slc)))) v' Value.string fun (x7 : ByteArray) vw8 =>
        (((x7).size + (ba l).size : Nat) : Int) ≤ IntKind.i64.max ∧ ∃ m', m' < k - l.length ∧ ∃ (m2 : Nat) (l2 : By), (((m / 10 : Nat) : Int), x7 ++ ba l) = ((m2 : Int), ba l2) ∧ allDig l2 ∧ n = m2 * 10 ^ l2.length + dval l2 ∧ l2.length ≤ k ∧ m' = k - l2.length ∧ Ext (fun _ => False) w vw8 := by
    intro hlt v' hv'
    have hE : Ext (fun _ => False) v v' := by rw [hv']; exact (Ext.refl _ _).alloc _
    have hB : BRow v' (⟨some ⟨v.heap.size, 0, none⟩, 1, 1⟩ : Slc) [UInt8.ofNat (48 + m % 10)] := by
      rw [hv']
      exact ⟨rfl, .inr ⟨v.heap.size, _, rfl, (Hn.start v |> fun H => by
        have : Nw v (.cells ([Value.int .u8 (((UInt8.ofNat (48 + m % 10)).toNat : Nat) : Int)] : List Value).toArray 5) fun w2 => Blk w2 v.heap.size ([Value.int .u8 (((UInt8.ofNat (48 + m % 10)).toNat : Nat) : Int)] : List Value).toArray 5 := H.nw fun w2 H => H.get 0 rfl
        unfold Nw at this
        exact this), Nat.le_refl _, rfl, rfl⟩⟩
    refine ⟨_, v', str_row hB, ?_, k - (l.length + 1), by omega, m / 10, UInt8.ofNat (48 + m % 10) :: l, ?_, ?_, ?_, ?_, ?_, ev.tr hE⟩
    · rw [hsz]
      have : (⟨[UInt8.ofNat (48 + m % 10)].toArray⟩ : ByteArray).size = 1 := rfl
      rw [this]
      have : IntKind.i64.max = 9223372036854775807 := by decide
      omega
    · rw [Prod.mk.injEq]
      refine ⟨rfl, bl_inj ?_⟩
      rw [bl_app, bl_ba, bl_ba, bl_ba]
      rfl
    · intro c hc
      rcases List.mem_cons.1 hc with rfl | hc
      · exact hdg
      · exact hd c hc
    · rw [he]
      show m * 10 ^ l.length + dval l = m / 10 * 10 ^ (UInt8.ofNat (48 + m % 10) :: l).length + (((UInt8.ofNat (48 + m % 10)).toNat - 48) * 10 ^ l.length + dval l)
      rw [UInt8.toNat_ofNat', List.length_cons, Nat.pow_succ]
      have e1 : (48 + m % 10) % 2 ^ 8 - 48 = m % 10 := by omega
      rw [e1]
      have e2 : m / 10 * 10 + m % 10 = m := by omega
      have key : ∀ a r p v : Nat, (a * 10 + r) * p + v = a * (p * 10) + (r * p + v) := fun a r p v => by
        rw [Nat.add_mul, Nat.mul_assoc, Nat.mul_comm 10 p]
        omega
      have := key (m / 10) (m % 10) (10 ^ l.length) (dval l)
      rw [e2] at this
      exact this
    · rw [List.length_cons]; omega
    · rw [List.length_cons]
  rw [hsz]
  refine Br.dec (fun q => ?_) fun q => Br.dec (fun q2 => ?_) fun q2 => ?_
  · refine Nw.of (step ?_ _ rfl)
    have h0 : 1 ≤ m := by omega
    have h2 : 10 ^ l.length ≤ n := by
      have : 1 * 10 ^ l.length ≤ m * 10 ^ l.length := Nat.mul_le_mul_right _ h0
      omega
    rcases Nat.lt_or_ge l.length k with h | h
    · exact h
    · have := Nat.pow_le_pow_right (show 0 < 10 by decide) h
      omega
  · exact Nw.of (step (by omega) _ rfl)
  · have h0 : m = 0 := by omega
    subst h0
    rw [bl_ba]
    exact ⟨⟨hd, by omega, by omega, hl⟩, ev⟩
theorem c_textk {n : Int} {k : Nat} (hk1 : 1 ≤ k) (hk6 : k ≤ 6) (h : inW n = true) (lt1 : n.natAbs / 10000 < 10 ^ k) (w : World) : C5 n w fun r w1 => (∃ W P, TkText n (bl r) W P ∧ W.length ≤ k) ∧ Ext (fun _ => False) w w1 := by
  refine T5 _ _ _ ?_
  unfold S5
  refine (c_within n w).mono ?_
  rintro r w1 ⟨rfl, rfl⟩
  rw [h]
  have hw := inW_spec.1 h
  have mx : IntKind.i64.max = 9223372036854775807 := by decide
  have z0 : (⟨#[]⟩ : ByteArray).size = 0 := rfl
  have z5 : (⟨#[45]⟩ : ByteArray).size = 1 := rfl
  have z6 : (⟨#[46]⟩ : ByteArray).size = 1 := rfl
  have z8 : (⟨#[48]⟩ : ByteArray).size = 1 := rfl
  refine Br.f rfl ?_
  have d1 : ∀ a : Nat, Int.tdiv (a : Int) 10000 = ((a / 10000 : Nat) : Int) := fun a => by rw [Int.tdiv_eq_ediv_of_nonneg (by omega)]; omega
  have d2 : ∀ a : Nat, Int.tmod (a : Int) 10000 = ((a % 10000 : Nat) : Int) := fun a => by rw [Int.tmod_eq_emod_of_nonneg (by omega)]; omega
  have lt2 : n.natAbs % 10000 < 10 ^ 4 := by show _ < 10000; omega
  have emp : ∀ (r : ByteArray), (r.toList == (⟨#[]⟩ : ByteArray).toList) = decide (bl r = []) := fun r => eqL r _
  have fin : ∀ {W P T : ByteArray} {sg : ByteArray}, (allDig (bl W) ∧ dval (bl W) = n.natAbs / 10000 ∧ 1 ≤ (bl W).length ∧ (bl W).length ≤ k) → (allDig (bl P) ∧ dval (bl P) = n.natAbs % 10000 ∧ 4 ≤ (bl P).length ∧ (bl P).length ≤ 4) → bl T = frF (bl P) → bl sg = (if n < 0 then [45] else []) →
      ∃ W' P', TkText n (bl (((sg ++ W) ++ (⟨#[46]⟩ : ByteArray)) ++ T)) W' P' ∧ W'.length ≤ k := fun h1 h2 h3 h4 => ⟨_, _, ⟨h1.1, h1.2.2.1, by omega, h1.2.1, h2.1, by omega, h2.2.1, by rw [bl_app, bl_app, bl_app, h3, h4]; simp; rfl⟩, h1.2.2.2⟩
  refine Br.dec (fun hneg => ?_) fun hpos => ?_
  · have hn : IntKind.i64.wrap (0 - n) = ((n.natAbs : Nat) : Int) := by rw [i64_id (by omega)]; omega
    rw [hn, d1, d2, i64_id (n := ((n.natAbs / 10000 : Nat) : Int)) (by omega)]
    refine (c_row (least := 1) (k := k) (by decide) hk1 (by omega) lt1 w1).mono ?_
    rintro W w2 ⟨hW, e2⟩
    refine (c_row (least := 4) (k := 4) (by decide) (by decide) (by decide) lt2 w2).mono ?_
    rintro P w3 ⟨hP, e3⟩
    have pl : P.size = 4 := by rw [← bl_size]; omega
    have wl : W.size ≤ 6 := by rw [← bl_size]; omega
    refine (c_trim0 P (by omega) w3).mono ?_
    rintro T w4 ⟨hT, e4⟩
    have E := (e2.tr e3).tr e4
    rw [emp]
    refine Br.dec (fun q => ?_) fun q => ?_
    · refine ⟨by simp; omega, by simp; omega, by simp; omega, fin hW hP ?_ (by rw [if_pos hneg]), E⟩
      unfold frF
      rw [← hT, if_pos q]
    · have hT' : bl T = frF (bl P) := by unfold frF; rw [← hT, if_neg q]
      have tl : T.size ≤ 4 := by rw [← bl_size, hT']; exact (fr_fill hP.1 (by omega)).2.2.2.2
      exact ⟨by simp; omega, by simp; omega, by simp; omega, fin hW hP hT' (by rw [if_pos hneg]), E⟩
  · have hn : n = ((n.natAbs : Nat) : Int) := by omega
    have z1 : Int.tdiv n 10000 = ((n.natAbs / 10000 : Nat) : Int) := (congrArg (fun x => Int.tdiv x 10000) hn).trans (d1 _)
    have z2 : Int.tmod n 10000 = ((n.natAbs % 10000 : Nat) : Int) := (congrArg (fun x => Int.tmod x 10000) hn).trans (d2 _)
    rw [z1, z2, i64_id (n := ((n.natAbs / 10000 : Nat) : Int)) (by omega)]
    refine (c_row (least := 1) (k := k) (by decide) hk1 (by omega) lt1 w1).mono ?_
    rintro W w2 ⟨hW, e2⟩
    refine (c_row (least := 4) (k := 4) (by decide) (by decide) (by decide) lt2 w2).mono ?_
    rintro P w3 ⟨hP, e3⟩
    have pl : P.size = 4 := by rw [← bl_size]; omega
    have wl : W.size ≤ 6 := by rw [← bl_size]; omega
    refine (c_trim0 P (by omega) w3).mono ?_
    rintro T w4 ⟨hT, e4⟩
    have E := (e2.tr e3).tr e4
    rw [emp]
    refine Br.dec (fun q => ?_) fun q => ?_
    · refine ⟨by simp; omega, by simp; omega, by simp; omega, fin hW hP ?_ (by rw [if_neg hpos]), E⟩
      unfold frF
      rw [← hT, if_pos q]
    · have hT' : bl T = frF (bl P) := by unfold frF; rw [← hT, if_neg q]
      have tl : T.size ≤ 4 := by rw [← bl_size, hT']; exact (fr_fill hP.1 (by omega)).2.2.2.2
      exact ⟨by simp; omega, by simp; omega, by simp; omega, fin hW hP hT' (by rw [if_neg hpos]), E⟩
theorem c_text {n : Int} (h : inW n = true) (w : World) : C5 n w fun r w1 => (∃ W P, TkText n (bl r) W P) ∧ Ext (fun _ => False) w w1 := by
  have hw := inW_spec.1 h
  refine (c_textk (k := 6) (by decide) (by decide) h (by show _ < 1000000; omega) w).mono ?_
  rintro r w1 ⟨⟨W, P, h1, _⟩, e1⟩
  exact ⟨⟨W, P, h1⟩, e1⟩
theorem c_real (n : Int) (w : World) : C6 n w fun r e w1 => ((e = 0 ∧ inW n = true ∧ ∃ W P, TkText n (bl r) W P) ∨ (e = 2 ∧ inW n = false)) ∧ Ext (fun _ => False) w w1 := by
  refine T6 _ _ _ ?_
  unfold S6
  refine Br.dec (fun h => ⟨.inr ⟨rfl, inW_no.2 (by omega)⟩, Ext.refl _ _⟩) fun h => Br.dec (fun h2 => ⟨.inr ⟨rfl, inW_no.2 (by omega)⟩, Ext.refl _ _⟩) fun h2 => ?_
  have hw : inW n = true := inW_spec.2 (by omega)
  refine (c_text hw w).mono ?_
  rintro r w1 ⟨hr, e1⟩
  exact ⟨.inl ⟨rfl, hw, hr⟩, e1⟩
end
end Tk
end Go.Proofs.YtpkadliieplblaaDoor
