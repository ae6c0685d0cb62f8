/- Tokens as text: String and Name walked (plain.write with each closure). Conditions: sizes. -/
import Derived.Test.YtpkadliieplblaaDoorTlA
namespace Go.Proofs.YtpkadliieplblaaDoor
namespace Tl
open Sh Fix Tk Bui Go.Lib
set_option linter.unusedVariables false
set_option linter.unusedSimpArgs false
set_option maxRecDepth 8000
set_option maxHeartbeats 4000000
theorem octv (c : Nat) (k : Int) (m : Nat) (hk : k = (m : Int)) (hm : 1 ≤ m) (hc : c < 256) : IntKind.u8.wrap (48 + Int.tmod (IntKind.u8.wrap (Int.tdiv (c : Int) k)) 8) = ((UInt8.ofNat (48 + c / m % 8)).toNat : Int) := by
  subst hk
  have h1 : Int.tdiv (c : Int) (m : Int) = ((c / m : Nat) : Int) := by rw [Int.tdiv_eq_ediv_of_nonneg (by omega)]; rfl
  have h2 : c / m ≤ c := Nat.div_le_self _ _
  rw [h1]
  generalize c / m = d at h2 ⊢
  rw [u8_id (n := ((d : Nat) : Int)) (by omega), Int.tmod_eq_emod_of_nonneg (by omega), UInt8.toNat_ofNat', u8_id (by omega)]
  omega
section
variable {w0 w : World} {b : Nat} {p : Option Addr} {sl : Slc} {l : By} {s : ByteArray}
attribute [local irreducible] Ld Sh.St Nw Nn Lt LdS
theorem c_grow {w : World} {n : Nat} (hb : Blk w b #[.pointer none, Slc.v ⟨none, 0, 0⟩] 60) (h1 : w0.heap.size ≤ b) (h2 : w0.heap.size ≤ w.heap.size) (hn : n ≤ 5000000) :
    C38 (some ⟨b, 0, none⟩) (n : Int) w (fun w' => ∃ sl, Bu w0 w' b (some ⟨b, 0, none⟩) sl [] ∧ Ext (fun j => w0.heap.size ≤ j) w w') fun _ _ => False := by
  refine (Tryd.Builder_Grow_fresh w0.heap.size b n w h1 hb h2 (by omega)).mono ?_
  rintro e w' ⟨he, hB, hw⟩
  refine .inl ⟨he, ?_⟩
  obtain ⟨hlo, v, hb', hown, hne⟩ := hB
  obtain ⟨sl', rfl⟩ : ∃ sl', v = Slc.v sl' := by
    rcases hown.2 with ⟨rfl, _⟩ | ⟨g, cap, cur, rfl, _⟩
    · exact ⟨⟨none, 0, 0⟩, rfl⟩
    · exact ⟨⟨some ⟨g, 0, none⟩, _, cap⟩, rfl⟩
  exact ⟨sl', ⟨hlo, .inr rfl, hb', hown⟩, ext_below hw⟩
theorem c_two {d c : UInt8} (h : Bu w0 w b p sl l) (hs : l.length + 4 ≤ 1099511627776) {R : World → Prop} (k : ∀ sl' w', Bu w0 w' b (some ⟨b, 0, none⟩) sl' (l ++ [d, c]) → Wr w0 w w' → R w') :
    C21 (some ⟨b, 0, none⟩) (d.toNat : Int) w fun r3 vw4 => C21 (some ⟨b, 0, none⟩) (c.toNat : Int) vw4 fun r5 vw6 => R vw6 := by
  refine (c_byte h (by omega)).mono ?_
  rintro r w1 ⟨sl1, h1, k1⟩
  refine (c_byte h1 (by simp; omega)).mono ?_
  rintro r w2 ⟨sl2, h2, k2⟩
  rw [List.append_assoc] at h2
  exact k _ _ h2 (k1.tr k2)
theorem oct_at {i : Nat} (hi : i < 3) (c : UInt8) : ∃ x : Int, (#[.int .u8 64, .int .u8 8, .int .u8 1] : Array Value)[((i : Nat) : Int).toNat * 1]? = some (.int .u8 x) ∧ x ≠ 0 ∧ IntKind.u8.wrap (48 + Int.tmod (IntKind.u8.wrap (Int.tdiv (c.toNat : Int) x)) 8) = (((oct3 c).getD i 0).toNat : Int) := by
  have hc := byte_lt c
  match i, hi with
  | 0, _ => exact ⟨64, rfl, by decide, octv _ _ 64 rfl (by decide) hc⟩
  | 1, _ => exact ⟨8, rfl, by decide, octv _ _ 8 rfl (by decide) hc⟩
  | 2, _ => exact ⟨1, rfl, by decide, octv _ _ 1 rfl (by decide) hc⟩
theorem oct_take {i : Nat} (hi : i < 3) (c : UInt8) : (oct3 c).take (i + 1) = (oct3 c).take i ++ [(oct3 c).getD i 0] := by
  match i, hi with
  | 0, _ => rfl
  | 1, _ => rfl
  | 2, _ => rfl
/-- What the two loops ask of a round. -/
theorem oct_round {c : UInt8} {i : Nat} (hi : i < 3) (h : Bu w0 w b p sl (l ++ 92 :: (oct3 c).take i)) (hs : l.length + 4 ≤ 1099511627776) {R : Int → World → Prop} (k : ∀ sl' w', Bu w0 w' b (some ⟨b, 0, none⟩) sl' (l ++ 92 :: (oct3 c).take (i + 1)) → Wr w0 w w' → R ((i + 1 : Nat) : Int) w') :
    0 ≤ ((i : Nat) : Int) ∧ ((i : Nat) : Int) < (3 : Nat) ∧ ∃ x20 : Int, (#[.int .u8 64, .int .u8 8, .int .u8 1] : Array Value)[((i : Nat) : Int).toNat * 1]? = some (.int .u8 x20) ∧ x20 ≠ 0 ∧ C21 (some ⟨b, 0, none⟩) (IntKind.u8.wrap (48 + (Int.tmod (IntKind.u8.wrap (Int.tdiv (c.toNat : Int) x20)) 8))) w fun r21 vw22 => R (IntKind.i64.wrap (((i : Nat) : Int) + 1)) vw22 := by
  obtain ⟨x, h1, h2, h3⟩ := oct_at hi c
  refine ⟨by omega, by omega, x, h1, h2, ?_⟩
  rw [h3]
  refine (c_byte h (by rw [List.length_append, List.length_cons, List.length_take]; omega)).mono ?_
  rintro r w2 ⟨sl2, hB, hW⟩
  rw [i64_id (by omega)]
  refine k sl2 w2 ?_ hW
  rw [oct_take hi]
  simpa using hB
theorem c_escS (c : UInt8) (h : Bu w0 w b (some ⟨b, 0, none⟩) sl l) (hs : l.length + 4 ≤ 1099511627776) : C20 (some ⟨b, 0, none⟩) (c.toNat : Int) w fun w' => ∃ sl', Bu w0 w' b (some ⟨b, 0, none⟩) sl' (l ++ escS c) ∧ Wr w0 w w' := by
  refine T20 _ _ _ _ ?_
  unfold S20
  have e : ∀ d : UInt8, (c.toNat : Int) = (d.toNat : Int) → c = d := fun d h => UInt8.toNat_inj.1 (by omega)
  have two : c = 40 ∨ c = 41 ∨ c = 92 → C21 (some ⟨b, 0, none⟩) ((92 : UInt8).toNat : Int) w fun r3 vw4 => C21 (some ⟨b, 0, none⟩) (c.toNat : Int) vw4 fun r5 vw6 => ∃ sl', Bu w0 vw6 b (some ⟨b, 0, none⟩) sl' (l ++ escS c) ∧ Wr w0 w vw6 := fun hc =>
    c_two h hs fun sl' w' hB hW => ⟨sl', by unfold escS; rw [if_pos hc]; exact hB, hW⟩
  refine Br.eq (fun q => two (.inl (e 40 q))) fun q1 => Br.eq (fun q => two (.inr (.inl (e 41 q)))) fun q2 => Br.eq (fun q => two (.inr (.inr (e 92 q)))) fun q3 => ?_
  have hn : ¬ (c = 40 ∨ c = 41 ∨ c = 92) := by
    rintro (h | h | h)
    · exact q1 (by rw [h]; rfl)
    · exact q2 (by rw [h]; rfl)
    · exact q3 (by rw [h]; rfl)
  have lit : escS c = [92] ++ oct3 c → C21 (some ⟨b, 0, none⟩) ((92 : UInt8).toNat : Int) w fun r15 vw16 => ∀ (B : (Int → World → Prop) → Int → World → Prop), (∀ (I : Int → World → Prop) (i : Int) (v : World), (i < 3 → 0 ≤ i ∧ i < (3 : Nat) ∧ ∃ x20 : Int, (#[.int .u8 64, .int .u8 8, .int .u8 1] : Array Value)[i.toNat * 1]? = some (.int .u8 x20) ∧ x20 ≠ 0 ∧ C21 (some ⟨b, 0, none⟩) (IntKind.u8.wrap (48 + (Int.tmod (IntKind.u8.wrap (Int.tdiv (c.toNat : Int) x20)) 8))) v fun r21 vw22 => I (IntKind.i64.wrap (i + 1)) vw22) → (¬ i < 3 → ∃ sl', Bu w0 v b (some ⟨b, 0, none⟩) sl' (l ++ escS c) ∧ Wr w0 w v) → B I i v) → Lp (σ := Int) B 0 vw16 := by
    intro he
    refine (c_byte h (by omega)).mono ?_
    rintro r w1 ⟨sl1, h1, k1⟩
    intro B hBd
    refine ⟨fun n st v => ∃ (i : Nat) (sl : Slc), st = (i : Int) ∧ i ≤ 3 ∧ n = 3 - i ∧ Bu w0 v b (some ⟨b, 0, none⟩) sl (l ++ 92 :: (oct3 c).take i) ∧ Wr w0 w v, 3, ⟨0, sl1, rfl, by omega, rfl, h1, k1⟩, ?_⟩
    rintro n st v ⟨i, sl, rfl, hi, rfl, hB, hW⟩
    refine hBd _ _ _ (fun q => ?_) fun q => ?_
    · exact oct_round (R := fun st w' => ∃ n', n' < 3 - i ∧ ∃ (i : Nat) (sl : Slc), st = (i : Int) ∧ i ≤ 3 ∧ n' = 3 - i ∧ Bu w0 w' b (some ⟨b, 0, none⟩) sl (l ++ 92 :: (oct3 c).take i) ∧ Wr w0 w w') (by omega) hB hs fun sl' w' hB' hW' => ⟨3 - (i + 1), by omega, i + 1, sl', rfl, by omega, rfl, hB', hW.tr hW'⟩
    · have : i = 3 := by omega
      subst this
      exact ⟨sl, by rw [he]; exact hB, hW⟩
  refine Br.dec (fun q => ?_) fun q4 => Br.dec (fun q => ?_) fun q5 => ?_
  · refine (lit (by unfold escS; rw [if_neg hn, if_pos (.inl (by omega))]; rfl)).mono ?_
    intro r w' hh
    exact hh _ fun I i v h1 h2 => Br.dec h1 h2
  · refine (lit (by unfold escS; rw [if_neg hn, if_pos (.inr (by omega))]; rfl)).mono ?_
    intro r w' hh
    exact hh _ fun I i v h1 h2 => Br.dec h1 h2
  · refine (c_byte h (by omega)).mono ?_
    rintro r w1 ⟨sl1, h1, k1⟩
    refine ⟨sl1, ?_, k1⟩
    unfold escS
    rw [if_neg hn, if_neg (by omega)]
    exact h1
theorem c_escN (c : UInt8) (h : Bu w0 w b (some ⟨b, 0, none⟩) sl l) (hs : l.length + 4 ≤ 1099511627776) : C23 (some ⟨b, 0, none⟩) (c.toNat : Int) w fun w' => ∃ sl', Bu w0 w' b (some ⟨b, 0, none⟩) sl' (l ++ escN c) ∧ Wr w0 w w' := by
  refine T23 _ _ _ _ ?_
  unfold S23
  have mx : IntKind.i64.max = 9223372036854775807 := by decide
  have tail : ∀ v : World, Bu w0 v b (some ⟨b, 0, none⟩) sl l → Wr w0 w v → escN c = 35 :: hx2 c → Nw v (.cells #[.int .u8 (c.toNat : Int)] 5) fun vw11 =>
            Rn Tryd.prog (convert 56 9 (Slc.v ((⟨some ⟨v.heap.size, 0, none⟩, 1, 1⟩ : Slc)))) vw11 Value.string fun (x12 : ByteArray) vw13 =>
            C26 x12 vw13 fun r14 vw15 =>
              ((((⟨#[35]⟩ : ByteArray)).size + (r14).size : Nat) : Int) ≤ IntKind.i64.max ∧ C25 (some ⟨b, 0, none⟩) ((⟨#[35]⟩ : ByteArray) ++ r14) vw15 fun r16 r17 vw18 =>
                ∃ sl', Bu w0 vw18 b (some ⟨b, 0, none⟩) sl' (l ++ escN c) ∧ Wr w0 w vw18 := by
    intro v hB hW he
    refine Nw.of ?_
    have e1 : Ext (fun _ => False) v (v.alloc (.cells (bcs [c]).toArray 5)) := (Ext.refl _ _).alloc _
    have R1 : BRow (v.alloc (.cells (bcs [c]).toArray 5)) ⟨some ⟨v.heap.size, 0, none⟩, 1, 1⟩ [c] := Row.new v (bcs [c]).toArray 5 1 1 rfl
    refine ⟨_, _, str_row R1, ?_⟩
    refine (c_hex (s := ⟨[c].toArray⟩) (by show 1 ≤ _; omega) _).mono ?_
    rintro r v2 ⟨hr, e2⟩
    have hr2 : bl r = hx2 c := by rw [hr]; simp [hexL, bl]
    have hrs : r.size = 2 := by rw [← bl_size, hr2]; rfl
    have z : (⟨#[35]⟩ : ByteArray).size = 1 := rfl
    refine ⟨by omega, (c_str (hB.keep (e1.tr e2)) (by simp only [ByteArray.size_append]; omega)).mono ?_⟩
    rintro r16 r17 v3 ⟨sl3, hB3, hW3⟩
    refine ⟨sl3, ?_, (hW.tr (Wr.of (e1.tr e2))).tr hW3⟩
    rw [he]
    have : ((⟨#[35]⟩ : ByteArray) ++ r).data.toList = 35 :: hx2 c := by
      show bl _ = _
      rw [bl_app, hr2]
      rfl
    rw [this] at hB3
    exact hB3
  have hw := Wr.refl w0 w
  refine Br.dec (fun q1 => Br.dec (fun q2 => Br.ne (fun q3 => ?_) fun q3 => ?_) fun q2 => ?_) fun q1 => ?_
  · refine (c_delim c w).mono ?_
    rintro r v ⟨rfl, rfl⟩
    have h35 : c ≠ 35 := fun e => q3 (by rw [e]; rfl)
    cases hd : dlB c with
    | false =>
      refine Br.t rfl ((c_byte h (by omega)).mono ?_)
      rintro r w1 ⟨sl1, h1, k1⟩
      refine ⟨sl1, ?_, k1⟩
      unfold escN
      rw [if_pos ⟨by omega, by omega, h35, hd⟩]
      exact h1
    | true => exact Br.f rfl (tail _ h hw (by unfold escN; rw [if_neg (fun hh => by rw [hd] at hh; cases hh.2.2.2)]))
  · exact tail _ h hw (by unfold escN; rw [if_neg (fun hh => hh.2.2.1 (UInt8.toNat_inj.1 (by have : ((35 : UInt8).toNat : Int) = 35 := rfl; omega)))])
  · exact tail _ h hw (by unfold escN; rw [if_neg (fun hh => by omega)])
  · exact tail _ h hw (by unfold escN; rw [if_neg (fun hh => by omega)])
theorem c_writeescS {op en : ByteArray} (ho : op.size ≤ 10) (he : en.size ≤ 10) (hs : s.size ≤ 1000000) (w : World) : C19 op s en (.func (.func 20) #[] #[]) w (fun r w1 => bl r = bl op ++ ((bl s).flatMap escS ++ bl en) ∧ Ext (fun _ => False) w w1) fun _ _ => False := by
  refine T19_F20 _ _ _ _ _ _ ?_
  unfold S19_F20
  have hbs := bl_size s
  have hbo := bl_size op
  have hbe := bl_size en
  refine Nw.of (Lt.of ?_)
  have e0 : Ext (fun _ => False) w (w.alloc (.cells #[.pointer none, Slc.v ⟨none, 0, 0⟩] 60)) := (Ext.refl _ _).alloc _
  have hb0 := Blk.new w #[.pointer none, Slc.v ⟨none, 0, 0⟩] 60
  generalize w.alloc (.cells #[.pointer none, Slc.v ⟨none, 0, 0⟩] 60) = w1 at e0 hb0 ⊢
  have z1 := e0.size
  rw [i64_id (n := ((op.size : Nat) : Int) + ((s.size : Nat) : Int)) (by omega), show IntKind.i64.wrap (((op.size : Nat) : Int) + ((s.size : Nat) : Int) + ((en.size : Nat) : Int)) = ((op.size + s.size + en.size : Nat) : Int) by rw [i64_id (by omega)]; omega]
  refine (c_grow (w0 := w) (n := op.size + s.size + en.size) hb0 (Nat.le_refl _) z1 (by omega)).mono ?_ fun _ _ h => h
  rintro w2 ⟨sl, hB, hW2⟩
  refine (c_str hB (by simp; omega)).mono ?_
  rintro r8 r9 w3 ⟨sl3, hB3, hW3⟩
  refine ⟨fun n st v => ∃ (i : Nat) (sl : Slc), st = (i : Int) ∧ i ≤ s.size ∧ n = s.size - i ∧ Bu w v w.heap.size (some ⟨w.heap.size, 0, none⟩) sl (bl op ++ ((bl s).take i).flatMap escS) ∧ Ext (fun j => w.heap.size ≤ j) w1 v, s.size, ⟨0, sl3, rfl, by omega, rfl, by simpa using hB3, hW2.tr hW3.ext⟩, ?_⟩
  rintro n st v ⟨i, sl, rfl, hi, rfl, hB, hE⟩
  unfold S19_F20L1
  have hl := flat_len escS_len ((bl s).take i)
  rw [List.length_take] at hl
  have hlo : (bl op ++ ((bl s).take i).flatMap escS).length ≤ 5000000 := by rw [List.length_append]; omega
  refine Br.dec (fun q => ?_) fun q => ?_
  · have hc := Tk.byte_at (t := bl s) (i := i) (by omega)
    generalize (bl s).getD i 0 = c at hc
    rw [bAt_bl hc]
    refine ⟨by omega, by omega, (c_escS c hB (by omega)).mono ?_⟩
    rintro v2 ⟨sl2, hB2, hW⟩
    refine ⟨s.size - (i + 1), by omega, i + 1, sl2, by rw [i64_id (by omega)]; rfl, by omega, rfl, ?_, hE.tr hW.ext⟩
    rw [take_c hc, List.flatMap_append, ← List.append_assoc]
    simpa using hB2
  · have hi2 : i = (bl s).length := by omega
    rw [hi2, List.take_length] at hB
    have hl := flat_len escS_len (bl s)
    refine (c_str hB (by rw [List.length_append]; omega)).mono ?_
    rintro r19 r20 v2 ⟨sl2, hB2, hW⟩
    refine (c_bstr hB2 (by have := hE.size; have := hW.ext.size; omega)).mono ?_
    rintro r v3 ⟨rfl, hb⟩
    refine ⟨?_, Ext.new' e0 (((hE.tr hW.ext)).tr (ext_below hb)) fun _ h => h⟩
    rw [bl_ba]
    simp
theorem c_writeescN {op en : ByteArray} (ho : op.size ≤ 10) (he : en.size ≤ 10) (hs : s.size ≤ 1000000) (w : World) : C19 op s en (.func (.func 23) #[] #[]) w (fun r w1 => bl r = bl op ++ ((bl s).flatMap escN ++ bl en) ∧ Ext (fun _ => False) w w1) fun _ _ => False := by
  refine T19_F23 _ _ _ _ _ _ ?_
  unfold S19_F23
  have hbs := bl_size s
  have hbo := bl_size op
  have hbe := bl_size en
  refine Nw.of (Lt.of ?_)
  have e0 : Ext (fun _ => False) w (w.alloc (.cells #[.pointer none, Slc.v ⟨none, 0, 0⟩] 60)) := (Ext.refl _ _).alloc _
  have hb0 := Blk.new w #[.pointer none, Slc.v ⟨none, 0, 0⟩] 60
  generalize w.alloc (.cells #[.pointer none, Slc.v ⟨none, 0, 0⟩] 60) = w1 at e0 hb0 ⊢
  have z1 := e0.size
  rw [i64_id (n := ((op.size : Nat) : Int) + ((s.size : Nat) : Int)) (by omega), show IntKind.i64.wrap (((op.size : Nat) : Int) + ((s.size : Nat) : Int) + ((en.size : Nat) : Int)) = ((op.size + s.size + en.size : Nat) : Int) by rw [i64_id (by omega)]; omega]
  refine (c_grow (w0 := w) (n := op.size + s.size + en.size) hb0 (Nat.le_refl _) z1 (by omega)).mono ?_ fun _ _ h => h
  rintro w2 ⟨sl, hB, hW2⟩
  refine (c_str hB (by simp; omega)).mono ?_
  rintro r8 r9 w3 ⟨sl3, hB3, hW3⟩
  refine ⟨fun n st v => ∃ (i : Nat) (sl : Slc), st = (i : Int) ∧ i ≤ s.size ∧ n = s.size - i ∧ Bu w v w.heap.size (some ⟨w.heap.size, 0, none⟩) sl (bl op ++ ((bl s).take i).flatMap escN) ∧ Ext (fun j => w.heap.size ≤ j) w1 v, s.size, ⟨0, sl3, rfl, by omega, rfl, by simpa using hB3, hW2.tr hW3.ext⟩, ?_⟩
  rintro n st v ⟨i, sl, rfl, hi, rfl, hB, hE⟩
  unfold S19_F23L1
  have hl := flat_len escN_len ((bl s).take i)
  rw [List.length_take] at hl
  have hlo : (bl op ++ ((bl s).take i).flatMap escN).length ≤ 5000000 := by rw [List.length_append]; omega
  refine Br.dec (fun q => ?_) fun q => ?_
  · have hc := Tk.byte_at (t := bl s) (i := i) (by omega)
    generalize (bl s).getD i 0 = c at hc
    rw [bAt_bl hc]
    refine ⟨by omega, by omega, (c_escN c hB (by omega)).mono ?_⟩
    rintro v2 ⟨sl2, hB2, hW⟩
    refine ⟨s.size - (i + 1), by omega, i + 1, sl2, by rw [i64_id (by omega)]; rfl, by omega, rfl, ?_, hE.tr hW.ext⟩
    rw [take_c hc, List.flatMap_append, ← List.append_assoc]
    simpa using hB2
  · have hi2 : i = (bl s).length := by omega
    rw [hi2, List.take_length] at hB
    have hl := flat_len escN_len (bl s)
    refine (c_str hB (by rw [List.length_append]; omega)).mono ?_
    rintro r19 r20 v2 ⟨sl2, hB2, hW⟩
    refine (c_bstr hB2 (by have := hE.size; have := hW.ext.size; omega)).mono ?_
    rintro r v3 ⟨rfl, hb⟩
    refine ⟨?_, Ext.new' e0 (((hE.tr hW.ext)).tr (ext_below hb)) fun _ h => h⟩
    rw [bl_ba]
    simp
theorem c_string (hs : s.size ≤ 1000) (w : World) : C9 s w (fun r e w1 => e = 0 ∧ bl r = strF (bl s) ∧ Ext (fun _ => False) w w1) fun _ _ => False := by
  refine T9 _ _ _ _ ?_
  unfold S9
  refine Br.dec (fun q => by omega) fun _ => (c_writeescS (by decide) (by decide) (by omega) w).mono ?_ fun _ _ h => h
  rintro r w1 ⟨hr, he⟩
  exact ⟨rfl, hr, he⟩
theorem c_name (hs : s.size ≤ 100) (w : World) : C10 s w (fun r e w1 => ((e = 0 ∧ 0 ∉ bl s ∧ bl r = nameF (bl s)) ∨ (e = 3 ∧ 0 ∈ bl s)) ∧ Ext (fun _ => False) w w1) fun _ _ => False := by
  refine T10 _ _ _ _ ?_
  unfold S10
  refine Br.dec (fun q => by omega) fun _ => (c_ixb s 0 w).mono ?_
  rintro r w1 ⟨rfl, rfl⟩
  rw [ix_contains]
  cases hz : (bl s).contains 0 with
  | true => exact Br.t rfl ⟨.inr ⟨rfl, List.contains_iff_mem.1 hz⟩, Ext.refl _ _⟩
  | false =>
    refine Br.f rfl ((c_writeescN (by decide) (by decide) (by omega) _).mono ?_ fun _ _ h => h)
    rintro r w2 ⟨hr, he⟩
    refine ⟨.inl ⟨rfl, fun hm => ?_, ?_⟩, he⟩
    · rw [List.contains_iff_mem.2 hm] at hz
      cases hz
    · rw [hr]
      show 47 :: (_ ++ []) = _
      rw [List.append_nil]
      rfl
end
end Tl
end Go.Proofs.YtpkadliieplblaaDoor
