/- What Encode and Decode of package predict answer. No condition. -/
import Derived.Test.YtahdpfjikmechaaPreW
namespace Go.Proofs.Ytahdpfjikmechaa
namespace Pre
open Sh
set_option linter.unusedVariables false
set_option linter.unusedSimpArgs false

/-- The tag of a row. -/
def tagE (pred : Int) (prev row : List UInt8) (colors : Nat) : Int := if pred = 15 then ((best prev row colors : Nat) : Int) else pred - 10
def encRow (pred : Int) (prev row : List UInt8) (colors : Nat) : List UInt8 :=
  if pred = 2 then less 1 prev row colors else UInt8.ofNat (tagE pred prev row colors).toNat :: less (tagE pred prev row colors) prev row colors
/-- k rows of n bytes, encoded. -/
def encN (pred : Int) (n colors : Nat) : Nat → List UInt8 → List UInt8 → List UInt8
  | 0, _, _ => []
  | k + 1, prev, s => encRow pred prev (s.take n) colors ++ encN pred n colors k (s.take n) (s.drop n)
/-- One byte or more in a row. -/
def rowN (p : Int × Int × Int) : Nat := if okP p = true then (p.2.1 * p.2.2).toNat else 1
theorem rowN_spec (p : Int × Int × Int) : (if 1 > rowP p then 1 else rowP p) = ((rowN p : Nat) : Int) ∧ 1 ≤ rowN p ∧ rowN p ≤ 8192 := by
  unfold rowN rowP
  by_cases h : okP p = true
  · have h2 := okP_spec h
    have : 1 * 1 ≤ p.2.1 * p.2.2 := Int.mul_le_mul h2.2.1 h2.2.2.1 (by omega) (by omega)
    simp only [if_pos h]
    rw [if_neg (by omega)]
    omega
  · simp only [if_neg h]
    refine ⟨rfl, by omega, by omega⟩
/-- What Encode answers: the bytes, the error. -/
def encP (p : Int × Int × Int) (s : List UInt8) : List UInt8 × Int :=
  if refuseP p s.length (rowN p) ≠ 0 then ([], refuseP p s.length (rowN p))
  else if p.1 = 1 then (s, 0)
  else if 10 ≤ p.1 ∧ 1048576 < s.length + s.length / rowN p then ([], 5)
  else (encN p.1 (rowN p) p.2.1.toNat (s.length / rowN p) [] s, 0)
theorem refuse_ok {p : Int × Int × Int} {n m : Int} (h : refuseP p n m = 0) : okP p = true ∧ n ≤ 1048576 ∧ (p.1 ≠ 1 → Int.tmod n m = 0) := by
  unfold refuseP at h
  by_cases h1 : okP p = false
  · rw [if_pos h1] at h; cases h
  · rw [if_neg h1] at h
    by_cases h2 : 1048576 < n
    · rw [if_pos h2] at h; cases h
    · rw [if_neg h2] at h
      by_cases h3 : p.1 ≠ 1 ∧ Int.tmod n m ≠ 0
      · rw [if_pos h3] at h; cases h
      · refine ⟨by simpa using h1, by omega, fun h4 => ?_⟩
        refine Decidable.byContradiction fun h5 => h3 ⟨h4, h5⟩
theorem best_le (prev row : List UInt8) (colors : Nat) : best prev row colors ≤ 4 := by
  unfold best
  simp only [bestK]
  repeat (first | omega | split | (simp only []; omega))
theorem encRow_len (pred : Int) (prev row : List UInt8) (colors : Nat) : (encRow pred prev row colors).length ≤ row.length + 1 := by
  unfold encRow
  split
  · rw [less_len]; omega
  · rw [List.length_cons, less_len]; omega
section
variable {w : World}
/-- What the loop of Encode knows. -/
def EncI (w : World) (p : Int × Int × Int) (b : Nat) (total : List UInt8) (k : Nat) (st : ByteArray × Slc) (w4 : World) : Prop :=
  ∃ (prev acc : List UInt8) (s1 s2 : Slc), st.1.data.toList.length = k * rowN p ∧ acc ++ encN p.1 (rowN p) p.2.1.toNat k prev st.1.data.toList = total ∧ acc.length + 2 * st.1.data.toList.length ≤ 4194304 ∧
    Hx w (fun _ => False) w4 [(w.heap.size, #[.int .i64 p.1, .int .i64 p.2.1, .int .i64 p.2.2], 50), (b, #[Slc.v s1, Slc.v s2, .int .i64 p.2.1], 108)] ∧
    RRow w4 s2 prev ∧ BRow w4 st.2 acc ∧ (∀ j, st.2.own j → w.heap.size < j ∧ j ≠ b ∧ ¬ s2.own j) ∧ (∀ j, s2.own j → w.heap.size < j ∧ j ≠ b)
theorem c_encode (p : Int × Int × Int) (s : ByteArray) (w : World) : C46 p s w fun r e w1 => (r.data.toList, e) = encP p s.data.toList ∧ Ext (fun _ => False) w w1 := by
  refine T46 _ _ _ _ ?_
  unfold S46
  obtain ⟨hn, hn1, hn2⟩ := rowN_spec p
  refine (Hx.start w (fun _ => False)).nw' fun w2 H he2 => H.ld 0 rfl rfl (H.ld 0 rfl rfl (H.ld 0 rfl rfl ((c_row p _).mono ?_)))
  rintro r w3 ⟨rfl, he⟩
  have H := H.keep he
  have hsl := size_list s
  rw [hn]
  refine H.ld 0 rfl rfl (H.ld 0 rfl rfl (H.ld 0 rfl rfl ((c_refuse p _ (by omega) _).mono ?_)))
  rintro r w4 ⟨rfl, he⟩
  have H := H.keep he
  rw [hsl]
  unfold encP
  refine Br.ne (fun e => ?_) fun e => ?_
  · rw [if_pos e]; exact ⟨rfl, H.ext⟩
  rw [if_neg (by rw [e]; simp)]
  obtain ⟨hok, hlen, hmod⟩ := refuse_ok e
  have hspec := okP_spec hok
  have hdiv : Int.tdiv (s.data.toList.length : Int) ((rowN p : Nat) : Int) = ((s.data.toList.length / rowN p : Nat) : Int) := by rw [tdiv_id (by omega)]; rfl
  have hdle : s.data.toList.length / rowN p ≤ s.data.toList.length := Nat.div_le_self _ _
  have hk0 : p.1 ≠ 1 → s.data.toList.length = s.data.toList.length / rowN p * rowN p := fun e1 => by
    have := hmod e1
    rw [tmod_id (by omega)] at this
    have h2 : s.data.toList.length % rowN p = 0 := by omega
    exact (Nat.div_mul_cancel (Nat.dvd_of_mod_eq_zero h2)).symm
  generalize hq : s.data.toList.length / rowN p = q at hdiv hdle hk0 ⊢
  rw [hdiv, i64_id (n := ((q : Nat) : Int)) (by omega), i64_id (by omega)]
  refine ⟨fun _ w5 => Hx w (fun _ => False) w5 [(w.heap.size, #[.int .i64 p.1, .int .i64 p.2.1, .int .i64 p.2.2], 50)] ∧ p.1 ≠ 1 ∧ ¬ (10 ≤ p.1 ∧ 1048576 < s.data.toList.length + q), ?_, ?_⟩
  case refine_2 =>
    refine H.ld 0 rfl rfl (Br.eq (fun e1 => ?_) fun e1 => H.ld 0 rfl rfl (Br.dec (fun e2 => ⟨by omega, Lt.of (Br.dec (fun e3 => ?_) fun e3 => ?_)⟩) fun e2 => ?_))
    · rw [if_pos e1]; exact ⟨rfl, H.ext⟩
    · rw [if_neg e1, if_pos ⟨e2, by omega⟩]; exact ⟨rfl, H.ext⟩
    · exact ⟨H, e1, by omega⟩
    · exact ⟨H, e1, by omega⟩
  rintro _ w5 ⟨H, e1, e2⟩
  rw [if_neg e1, if_neg e2]
  have hk := hk0 e1
  unfold S46J2
  rw [hn, hsl, hdiv, i64_id (n := ((q : Nat) : Int)) (by omega), i64_id (by omega)]
  refine ⟨by omega, Lt.of ?_⟩
  obtain ⟨x25, w6, hrun, hrow, he6, hnew⟩ := bytes_make w5 0 (s.data.toList.length + q) (by omega) (by omega)
  have hlt5 := (H.get 0 rfl).lt
  have H := H.keep he6
  refine ⟨x25, w6, by simpa using hrun, H.ld 0 rfl rfl (H.nw' fun w7 H he7 => ?_)⟩
  have hown6 : ∀ j, x25.own j → j < w6.heap.size := fun j hj => hrow.own_lt hj
  have hrow := hrow.keep he7 fun _ _ h => h
  refine H.st' 1 rfl (by simp) (.inr (by have := he6.size; omega)) fun w8 H he8 => ?_
  have hrow := hrow.keep he8 fun j hj h => by have := hown6 j hj; omega
  rw [add_lit, add_lit]
  refine H.st' 1 rfl (by simp) (.inr (by have := he6.size; omega)) fun w9 H he9 => ?_
  have hrow := hrow.keep he9 fun j hj h => by have := hown6 j hj; omega
  refine H.st' 1 rfl (by simp) (.inr (by have := he6.size; omega)) fun w10 H he10 => ?_
  have hrow := hrow.keep he10 fun j hj h => by have := hown6 j hj; omega
  refine ⟨EncI w p w6.heap.size (encN p.1 (rowN p) p.2.1.toNat (q) [] s.data.toList), _, ⟨[], [], ⟨none, 0, 0⟩, ⟨none, 0, 0⟩, hk, rfl, by simp only [List.length_nil]; omega, H, RRow.nil _, hrow, fun j hj => ⟨by have := hnew j hj; omega, fun h => by have := hown6 j hj; omega, by rintro ⟨a, ha, _⟩; cases ha⟩, by rintro j ⟨a, ha, _⟩; cases ha⟩, ?_⟩
  generalize encN p.1 (rowN p) p.2.1.toNat (q) [] s.data.toList = total
  rintro k ⟨st1, out⟩ w11 ⟨prev, acc, s1, s2, hl, htot, hb, H, hr2, hrow, ho1, ho2⟩
  unfold S46L1
  simp only at hl htot hb hr2 hrow ho1 ho2 ⊢
  rw [hn]
  have hsz := size_list st1
  refine Br.dec (fun e3 => ?_) fun e3 => ?_
  case refine_2 =>
    have h0 : st1.data.toList.length = 0 := by omega
    have hk0 : k = 0 := by
      rw [h0] at hl
      rcases Nat.mul_eq_zero.1 hl.symm with h | h
      · exact h
      · omega
    subst hk0
    refine ⟨_, w11, str_row hrow, ?_, H.ext⟩
    rw [← htot]
    simp [encN]
  have hk0 : k ≠ 0 := fun h => by subst h; rw [Nat.zero_mul] at hl; omega
  obtain ⟨k, rfl⟩ : ∃ k', k = k' + 1 := ⟨k - 1, by omega⟩
  have hN : rowN p ≤ st1.data.toList.length := by rw [hl]; exact Nat.le_mul_of_pos_left _ (by omega)
  have htk : (st1.data.toList.take (rowN p)).length = rowN p := by rw [List.length_take]; omega
  refine ⟨fun _ w12 => ∃ s3 : Slc, Hx w (fun _ => False) w12 [(w.heap.size, #[.int .i64 p.1, .int .i64 p.2.1, .int .i64 p.2.2], 50), (w6.heap.size, #[Slc.v s2, Slc.v s3, .int .i64 p.2.1], 108)] ∧
    RRow w12 s2 prev ∧ RRow w12 s3 (st1.data.toList.take (rowN p)) ∧ BRow w12 out acc ∧ (∀ j, out.own j → ¬ s3.own j) ∧ (∀ j, s3.own j → w.heap.size < j ∧ j ≠ w6.heap.size), ?_, ?_⟩
  case refine_2 =>
    have HD := H.drew
    have hlt6 := (H.get 1 rfl).lt
    have hr2D := hr2.keep (Ext.refl (fun _ => False) w11).drew fun _ _ h => h
    have hrowD := hrow.keep (Ext.refl (fun _ => False) w11).drew fun _ _ h => h
    refine ⟨fun w12 => Ext (fun _ => False) w11.drew w12, Ext.refl _ _, LdS.of (fun w12 he => (HD.keep he).get 1 rfl) rfl ⟨by omega, by omega, ?_, ?_⟩⟩
    · obtain ⟨x, w12, hrun, hx, he, hnew⟩ := bytes_str w11.drew (st1.extract 0 (((rowN p : Nat) : Int)).toNat)
      refine ⟨x, w12, hrun, he, ?_⟩
      have H12 := HD.keep he
      have hxl : ∀ j, x.own j → w6.heap.size < j := fun j hj => by have := hnew j hj; simp at this; omega
      refine H12.st' 1 rfl (by simp) (.inr (by have := he6.size; omega)) fun w13 H13 he13 => ?_
      rw [add_lit]
      refine H13.st' 1 rfl (by simp) (.inr (by have := he6.size; omega)) fun w14 H14 he14 => ?_
      have hb' : ∀ j, x.own j → ¬ j = w6.heap.size := fun j hj h => by have := hxl j hj; omega
      refine ⟨x, H14, ((hr2D.keep he fun _ _ h => h).keep he13 fun j hj => (ho2 j hj).2).keep he14 fun j hj => (ho2 j hj).2, ?_, ((hrowD.keep he fun _ _ h => h).keep he13 fun j hj => (ho1 j hj).2.1).keep he14 fun j hj => (ho1 j hj).2.1, fun j hj h => ?_, fun j hj => ⟨?_, hb' j hj⟩⟩
      · have := (hx.keep he13 hb').keep he14 hb'
        rw [extract_list, List.drop_zero, Nat.sub_zero, Int.toNat_natCast] at this
        exact this
      · have h1 := hrow.own_lt hj
        have h2 := hnew j h
        simp at h2
        omega
      · have := hxl j hj; have := he6.size; omega
    · refine HD.st' 1 rfl (by simp) (.inr (by have := he6.size; omega)) fun w13 H13 he13 => ?_
      obtain ⟨x, w12, hrun, hx, he, hnew⟩ := bytes_str w13 (st1.extract 0 (((rowN p : Nat) : Int)).toNat)
      refine ⟨x, w12, hrun, ?_⟩
      have H12 := H13.keep he
      have hs13 := he13.size
      simp at hs13
      have hxl : ∀ j, x.own j → w6.heap.size < j := fun j hj => by have := hnew j hj; omega
      rw [add_lit]
      refine H12.st' 1 rfl (by simp) (.inr (by have := he6.size; omega)) fun w14 H14 he14 => ?_
      have hb' : ∀ j, x.own j → ¬ j = w6.heap.size := fun j hj h => by have := hxl j hj; omega
      refine ⟨x, H14, ((hr2D.keep he13 fun j hj => (ho2 j hj).2).keep he fun _ _ h => h).keep he14 fun j hj => (ho2 j hj).2, ?_, ((hrowD.keep he13 fun j hj => (ho1 j hj).2.1).keep he fun _ _ h => h).keep he14 fun j hj => (ho1 j hj).2.1, fun j hj h => ?_, fun j hj => ⟨?_, hb' j hj⟩⟩
      · have := hx.keep he14 hb'
        rw [extract_list, List.drop_zero, Nat.sub_zero, Int.toNat_natCast] at this
        exact this
      · have h1 := hrow.own_lt hj
        have h2 := hnew j h
        omega
      · have := hxl j hj; have := he6.size; omega
  rintro _ w12 ⟨s3, H, hr2, hr3, hrow, ho3, ho4⟩
  unfold S46J1
  simp only
  rw [hn]
  have hc : ((p.2.1.toNat : Nat) : Int) = p.2.1 := by omega
  have hcb : p.2.1.toNat ≤ 9223372036854775807 := by
    have : p.2.1 * 1 ≤ p.2.1 * p.2.2 := Int.mul_le_mul_of_nonneg_left hspec.2.2.1 (by omega)
    omega
  have fin : ∀ (x : Slc) (w13 : World), BRow w13 x (acc ++ encRow p.1 prev (st1.data.toList.take (rowN p)) p.2.1.toNat) → Hx w (fun _ => False) w13 [(w.heap.size, #[.int .i64 p.1, .int .i64 p.2.1, .int .i64 p.2.2], 50), (w6.heap.size, #[Slc.v s2, Slc.v s3, .int .i64 p.2.1], 108)] →
      RRow w13 s3 (st1.data.toList.take (rowN p)) → (∀ j, x.own j → out.own j ∨ w12.heap.size ≤ j) →
      0 ≤ ((rowN p : Nat) : Int) ∧ ((rowN p : Nat) : Int) ≤ ((st1.size : Nat) : Int) ∧ ∃ n', n' < k + 1 ∧ EncI w p w6.heap.size total n' (st1.extract (((rowN p : Nat) : Int)).toNat st1.size, x) w13 := fun x w13 hx H13 hr hown => by
    have hd : (st1.extract (((rowN p : Nat) : Int)).toNat st1.size).data.toList = st1.data.toList.drop (rowN p) := by rw [Int.toNat_natCast, extract_drop]
    have hlr := encRow_len p.1 prev (st1.data.toList.take (rowN p)) p.2.1.toNat
    refine ⟨by omega, by omega, k, by omega, st1.data.toList.take (rowN p), _, s2, s3, ?_, ?_, ?_, H13, hr, hx, ?_, ho4⟩
    · rw [hd, List.length_drop, hl, Nat.add_mul, Nat.one_mul, Nat.add_sub_cancel]
    · rw [hd, List.append_assoc]
      exact htot
    · rw [hd, List.length_append, List.length_drop]
      omega
    · intro j hj
      rcases hown j hj with h | h
      · exact ⟨(ho1 j h).1, (ho1 j h).2.1, ho3 j h⟩
      · have h1 := (H.get 0 rfl).lt
        have h2 := (H.get 1 rfl).lt
        exact ⟨by omega, by omega, fun h3 => by have := hr3.own_lt h3; omega⟩
  have tagged : p.1 ≠ 2 → ∀ (t : Int) (w13 : World), Ext (fun _ => False) w12 w13 → tagE p.1 prev (st1.data.toList.take (rowN p)) p.2.1.toNat = t → 0 ≤ t → t ≤ 4 →
      ∃ vS74 : World → Prop, vS74 w13.drew ∧ LdS vS74 (⟨w6.heap.size, 0, none⟩ : Addr) Slc.v fun (x75 : Slc) =>
        LdS vS74 ((⟨w6.heap.size, 0, none⟩ : Addr).add 1) Slc.v fun (x76 : Slc) =>
        LdS vS74 ((⟨w6.heap.size, 0, none⟩ : Addr).add 2) (Value.int .i64) fun (x77 : Int) =>
        Nw w13.drew (.cells #[.int .u8 (IntKind.u8.wrap t)] 5) fun vw78 =>
        vS74 vw78 ∧ Rn Try.prog (Builtin.append_ #[97, 97] 97 #[Slc.v out, Slc.v ((⟨some ⟨w13.drew.heap.size, 0, none⟩, 1, 1⟩ : Slc))]) vw78 Slc.v fun (x79 : Slc) vw80 =>
        vS74 vw80 ∧ C89 (x75, x76, x77) t vw80 fun r81 vw82 =>
          Rn Try.prog (Builtin.append_ #[97, 97] 97 #[Slc.v x79, Slc.v r81]) vw82 Slc.v fun (x83 : Slc) vw84 =>
          0 ≤ ((rowN p : Nat) : Int) ∧ ((rowN p : Nat) : Int) ≤ ((st1.size : Nat) : Int) ∧ ∃ n', n' < k + 1 ∧ EncI w p w6.heap.size total n' (st1.extract (((rowN p : Nat) : Int)).toNat st1.size, x83) vw84 := by
    intro e4 t w13 he ht ht0 ht4
    have HD := (H.keep he).drew
    have hrowD := (hrow.keep he fun _ _ h => h).keep (Ext.refl (fun _ => False) w13).drew fun _ _ h => h
    have hr2D := (hr2.keep he fun _ _ h => h).keep (Ext.refl (fun _ => False) w13).drew fun _ _ h => h
    have hr3D := (hr3.keep he fun _ _ h => h).keep (Ext.refl (fun _ => False) w13).drew fun _ _ h => h
    have hS : ∀ w3, Ext out.own w13.drew w3 → Blk w3 w6.heap.size #[Slc.v s2, Slc.v s3, .int .i64 p.2.1] 108 := fun w3 h => h.blk (HD.get 1 rfl) fun h => (ho1 _ h).2.1 rfl
    refine ⟨fun w3 => Ext out.own w13.drew w3, Ext.refl _ _, LdS.of hS rfl (LdS.of hS rfl (LdS.of hS rfl (HD.nw' fun w14 H14 he14 => ⟨he14.mono fun _ _ h => h.elim, ?_⟩)))⟩
    have hu : IntKind.u8.wrap t = (((UInt8.ofNat t.toNat).toNat : Nat) : Int) := by rw [u8_id (by omega), UInt8.toNat_ofNat_of_lt' (by show t.toNat < 256; omega)]; omega
    have hblk := H14.get 2 rfl
    rw [hu] at hblk
    obtain ⟨x, w15, hrun, hx, he15, hown⟩ := app_one (ty := 97) (hrowD.keep he14 fun _ _ h => h) hblk (by omega)
    have hlt13 : ∀ j, out.own j → j < w13.drew.heap.size := fun j hj => hrowD.own_lt hj
    have H15 := H14.other he15 (fun j hj hm => by
      have h1 := ho1 j hj
      have h2 := hlt13 j hj
      simp at hm h2
      omega) fun j hj => .inr (by have := (ho1 j hj).1; omega)
    refine ⟨x, w15, hrun, (he14.mono fun _ _ h => h.elim).tr he15, ?_⟩
    have hless := c_less ((hr2D.keep he14 fun _ _ h => h).keep he15 fun j hj h => (ho1 j h).2.2 hj) ((hr3D.keep he14 fun _ _ h => h).keep he15 fun j hj h => ho3 j h hj) t (colors := p.2.1.toNat) (by omega) hcb
    rw [hc] at hless
    refine hless.mono ?_
    rintro r w16 ⟨hr, he16, hnewr⟩
    obtain ⟨x2, w17, hrun2, hx2, he17, hown2⟩ := app_row (ty := 97) (hx.keep he16 fun _ _ h => h) hr (by rw [less_len, List.length_append, List.length_singleton]; omega)
    have hxo : ∀ j, x.own j → w.heap.size < j ∧ j ≠ w6.heap.size ∧ ¬ s3.own j := fun j hj => by
      rcases hown j hj with h | h
      · exact ⟨(ho1 j h).1, (ho1 j h).2.1, ho3 j h⟩
      · have h1 := (HD.get 0 rfl).lt
        have h2 := (HD.get 1 rfl).lt
        have h3 := he14.size
        exact ⟨by omega, by omega, fun h5 => by have := hr3D.own_lt h5; omega⟩
    refine ⟨x2, w17, hrun2, fin x2 w17 ?_ (((H15.keep he16).left (L := [_, _]) (M := [_])).other he17 (fun j hj hm => ?_) fun j hj => .inr (by have := (hxo j hj).1; omega)) ((((hr3D.keep he14 fun _ _ h => h).keep he15 fun j hj h => ho3 j h hj).keep he16 fun _ _ h => h).keep he17 fun j hj h => (hxo j h).2.2 hj) fun j hj => ?_⟩
    · unfold encRow
      rw [if_neg e4, ht]
      rw [List.append_assoc] at hx2
      exact hx2
    · have := hxo j hj
      simp at hm
      omega
    · have g1 := he.size
      have g2 := he14.size
      have g3 := he15.size
      have g4 := he16.size
      simp at g2
      rcases hown2 j hj with h | h
      · rcases hown j h with h | h
        · exact .inl h
        · exact .inr (by omega)
      · exact .inr (by omega)
  refine H.ld 0 rfl rfl (H.ld 0 rfl rfl (Br.eq (fun e4 => ?_) fun e4 => Br.eq (fun e5 => ?_) fun e5 => ?_))
  · refine H.ld 1 rfl rfl (H.ld 1 rfl rfl (H.ld 1 rfl rfl ?_))
    have hless := c_less hr2 hr3 1 (colors := p.2.1.toNat) (by omega) hcb
    rw [hc] at hless
    refine hless.mono ?_
    rintro r w13 ⟨hr, he, hnewr⟩
    obtain ⟨x, w14, hrun, hx, he14, hown⟩ := app_row (ty := 97) (hrow.keep he fun _ _ h => h) hr (by rw [less_len]; omega)
    refine ⟨x, w14, hrun, fin x w14 (by unfold encRow; rw [if_pos e4]; exact hx) ((H.keep he).other he14 (fun j hj hm => ?_) fun j hj => .inr (by have := (ho1 j hj).1; omega)) ((hr3.keep he fun _ _ h => h).keep he14 fun j hj h => ho3 j h hj) fun j hj => (hown j hj).imp id fun h => Nat.le_trans he.size h⟩
    have := ho1 j hj
    simp at hm
    omega
  · refine H.ld 1 rfl rfl (H.ld 1 rfl rfl (H.ld 1 rfl rfl ?_))
    have hbest := c_best hr2 hr3 (colors := p.2.1.toNat) (by omega) hcb
    rw [hc] at hbest
    refine hbest.mono ?_
    rintro r w13 ⟨rfl, he⟩
    have ht : tagE p.1 prev (st1.data.toList.take (rowN p)) p.2.1.toNat = ((best prev (st1.data.toList.take (rowN p)) p.2.1.toNat : Nat) : Int) := by unfold tagE; rw [if_pos e5]
    have ht4 : ((best prev (st1.data.toList.take (rowN p)) p.2.1.toNat : Nat) : Int) ≤ 4 := by have := best_le prev (st1.data.toList.take (rowN p)) p.2.1.toNat; omega
    have ht0 : 0 ≤ ((best prev (st1.data.toList.take (rowN p)) p.2.1.toNat : Nat) : Int) := by omega
    exact tagged e4 _ w13 he ht ht0 ht4
  · have ht : tagE p.1 prev (st1.data.toList.take (rowN p)) p.2.1.toNat = p.1 - 10 := by unfold tagE; rw [if_neg e5]
    rw [i64_id (n := p.1 - 10) (by omega)]
    exact tagged e4 _ w12 (Ext.refl _ _) ht (by omega) (by omega)

/-- The byte of the tag in front of a row. -/
def headN (p : Int × Int × Int) : Nat := if 10 ≤ p.1 then 1 else 0
def tagD (h : Nat) (s : List UInt8) : Nat := if h = 1 then (s.getD 0 0).toNat else 1
/-- k rows, decoded. -/
def decN (h n colors : Nat) : Nat → List UInt8 → List UInt8 → Option (List UInt8)
  | 0, _, _ => some []
  | k + 1, prev, s => if 5 ≤ tagD h s then none else (decN h n colors k (dec (tagD h s) prev ((s.drop h).take n) colors n) (s.drop (n + h))).map fun l => dec (tagD h s) prev ((s.drop h).take n) colors n ++ l
/-- What Decode answers: the bytes, the error. -/
def decP (p : Int × Int × Int) (s : List UInt8) : List UInt8 × Int :=
  if refuseP p s.length ((rowN p + headN p : Nat) : Int) ≠ 0 then ([], refuseP p s.length ((rowN p + headN p : Nat) : Int))
  else if p.1 = 1 then (s, 0)
  else match decN (headN p) (rowN p) p.2.1.toNat (s.length / (rowN p + headN p)) [] s with
    | none => ([], 3)
    | some l => (l, 0)
/-- What the loop of Decode knows. -/
def DecI (w : World) (p : Int × Int × Int) (b : Nat) (total : Option (List UInt8)) (k : Nat) (st : ByteArray × Slc) (w4 : World) : Prop :=
  ∃ (prev acc : List UInt8) (s1 s2 : Slc), st.1.data.toList.length = k * (rowN p + headN p) ∧ (decN (headN p) (rowN p) p.2.1.toNat k prev st.1.data.toList).map (fun l => acc ++ l) = total ∧ acc.length + st.1.data.toList.length ≤ 4194304 ∧
    Hx w (fun _ => False) w4 [(w.heap.size, #[.int .i64 p.1, .int .i64 p.2.1, .int .i64 p.2.2], 50), (b, #[Slc.v s1, Slc.v s2, .int .i64 p.2.1], 108)] ∧
    RRow w4 s2 prev ∧ BRow w4 st.2 acc ∧ (∀ j, st.2.own j → w.heap.size < j ∧ j ≠ b ∧ ¬ s2.own j) ∧ (∀ j, s2.own j → w.heap.size < j ∧ j ≠ b)
theorem c_decode (p : Int × Int × Int) (s : ByteArray) (w : World) : C48 p s w fun r e w1 => (r.data.toList, e) = decP p s.data.toList ∧ Ext (fun _ => False) w w1 := by
  refine T48 _ _ _ _ ?_
  unfold S48
  obtain ⟨hn, hn1, hn2⟩ := rowN_spec p
  have hh : headN p = 0 ∨ headN p = 1 := by unfold headN; split <;> simp
  refine (Hx.start w (fun _ => False)).nw' fun w2 H he2 => H.ld 0 rfl rfl (H.ld 0 rfl rfl (H.ld 0 rfl rfl ((c_row p _).mono ?_)))
  rintro r w3 ⟨rfl, he⟩
  have H := H.keep he
  have hsl := size_list s
  refine ⟨fun h w4 => h = ((headN p : Nat) : Int) ∧ Hx w (fun _ => False) w4 [(w.heap.size, #[.int .i64 p.1, .int .i64 p.2.1, .int .i64 p.2.2], 50)], ?_, H.ld 0 rfl rfl (Br.dec (fun e => ⟨?_, H⟩) fun e => ⟨?_, H⟩)⟩
  case refine_2 => unfold headN; rw [if_pos e]; rfl
  case refine_3 => unfold headN; rw [if_neg e]; rfl
  rintro _ w4 ⟨rfl, H⟩
  unfold S48J2
  have hm : IntKind.i64.wrap (((rowN p : Nat) : Int) + ((headN p : Nat) : Int)) = ((rowN p + headN p : Nat) : Int) := by rw [i64_id (by omega)]; omega
  rw [hn, hm]
  refine H.ld 0 rfl rfl (H.ld 0 rfl rfl (H.ld 0 rfl rfl ((c_refuse p _ (by omega) _).mono ?_)))
  rintro r w5 ⟨rfl, he⟩
  have H := H.keep he
  rw [hsl]
  unfold decP
  refine Br.ne (fun e => ?_) fun e => ?_
  · rw [if_pos e]; exact ⟨rfl, H.ext⟩
  rw [if_neg (by rw [e]; simp)]
  obtain ⟨hok, hlen, hmod⟩ := refuse_ok e
  have hspec := okP_spec hok
  refine H.ld 0 rfl rfl (Br.eq (fun e1 => ?_) fun e1 => H.ld 0 rfl rfl ?_)
  · rw [if_pos e1]; exact ⟨rfl, H.ext⟩
  rw [if_neg e1]
  have hc : ((p.2.1.toNat : Nat) : Int) = p.2.1 := by omega
  have hcb : p.2.1.toNat ≤ 9223372036854775807 := by
    have : p.2.1 * 1 ≤ p.2.1 * p.2.2 := Int.mul_le_mul_of_nonneg_left hspec.2.2.1 (by omega)
    omega
  have hk : s.data.toList.length = s.data.toList.length / (rowN p + headN p) * (rowN p + headN p) := by
    have := hmod e1
    rw [tmod_id (by omega)] at this
    have h2 : s.data.toList.length % (rowN p + headN p) = 0 := by omega
    exact (Nat.div_mul_cancel (Nat.dvd_of_mod_eq_zero h2)).symm
  have hlt5 := (H.get 0 rfl).lt
  generalize hq : s.data.toList.length / (rowN p + headN p) = q at hk ⊢
  refine H.nw' fun w7 H he7 => H.st' 1 rfl (by simp) (.inr (by omega)) fun w8 H he8 => ?_
  rw [add_lit, add_lit]
  refine H.st' 1 rfl (by simp) (.inr (by omega)) fun w9 H he9 => H.st' 1 rfl (by simp) (.inr (by omega)) fun w10 H he10 => ?_
  refine ⟨DecI w p w5.heap.size (decN (headN p) (rowN p) p.2.1.toNat q [] s.data.toList), _, ⟨[], [], ⟨none, 0, 0⟩, ⟨none, 0, 0⟩, hk, by simp, by simp only [List.length_nil]; omega, H, RRow.nil _, BRow.nil _, (by rintro j ⟨a, ha, _⟩; cases ha), (by rintro j ⟨a, ha, _⟩; cases ha)⟩, ?_⟩
  generalize decN (headN p) (rowN p) p.2.1.toNat q [] s.data.toList = total
  rintro k ⟨st1, out⟩ w11 ⟨prev, acc, s1, s2, hl, htot, hb, H, hr2, hrow, ho1, ho2⟩
  unfold S48L1
  simp only at hl htot hb hr2 hrow ho1 ho2 ⊢
  have hsz := size_list st1
  refine Br.dec (fun e3 => ?_) fun e3 => ?_
  case refine_2 =>
    have h0 : st1.data.toList.length = 0 := by omega
    have hk0 : k = 0 := by
      rw [h0] at hl
      rcases Nat.mul_eq_zero.1 hl.symm with h | h
      · exact h
      · omega
    subst hk0
    refine ⟨_, w11, str_row hrow, ?_, H.ext⟩
    rw [← htot]
    simp [decN]
  have hk0 : k ≠ 0 := fun h => by subst h; rw [Nat.zero_mul] at hl; omega
  obtain ⟨k, rfl⟩ : ∃ k', k = k' + 1 := ⟨k - 1, by omega⟩
  have hN : rowN p + headN p ≤ st1.data.toList.length := by rw [hl]; exact Nat.le_mul_of_pos_left _ (by omega)
  have hraw : ((st1.data.toList.drop (headN p)).take (rowN p)).length = rowN p := by rw [List.length_take, List.length_drop]; omega
  refine ⟨fun t w12 => t = ((tagD (headN p) st1.data.toList : Nat) : Int) ∧ w12 = w11, ?_, ?_⟩
  case refine_2 =>
    refine Br.eq (fun e4 => ⟨by omega, by omega, ?_, rfl⟩) fun e4 => ⟨?_, rfl⟩
    · unfold tagD
      rw [if_pos (by omega), show (0 : Int) = ((0 : Nat) : Int) from rfl, bAt_list]
      have := (st1.data.toList.getD 0 0).toNat_lt
      rw [i64_id (by omega)]
    · unfold tagD
      rw [if_neg (by omega)]
      rfl
  rintro _ w12 ⟨rfl, rfl⟩
  unfold S48J1
  dsimp only
  simp only [decN] at htot
  rw [hn, hm]
  refine Br.dec (fun e4 => ?_) fun e4 => ?_
  · rw [if_pos (by omega)] at htot
    rw [← htot]
    exact ⟨rfl, H.ext⟩
  rw [if_neg (by omega)] at htot
  generalize htag : tagD (headN p) st1.data.toList = tag at htot e4 ⊢
  have tail : ∀ (x : Slc) (w5' : World), Hx w (fun _ => False) w5' [(w.heap.size, #[.int .i64 p.1, .int .i64 p.2.1, .int .i64 p.2.2], 50), (w5.heap.size, #[Slc.v s2, Slc.v x, .int .i64 p.2.1], 108)] →
      RRow w5' s2 prev → RRow w5' x ((st1.data.toList.drop (headN p)).take (rowN p)) → BRow w5' out acc → (∀ j, x.own j → w.heap.size < j ∧ j ≠ w5.heap.size ∧ ¬ s2.own j ∧ ¬ out.own j) →
      Ld w5' (⟨w5.heap.size, 0, none⟩ : Addr) Slc.v fun (x50 : Slc) =>
      Ld w5' ((⟨w5.heap.size, 0, none⟩ : Addr).add 1) Slc.v fun (x51 : Slc) =>
      Ld w5' ((⟨w5.heap.size, 0, none⟩ : Addr).add 2) (Value.int .i64) fun (x52 : Int) =>
      C93 (x50, x51, x52) ((tag : Nat) : Int) w5' fun vw53 =>
        Ld vw53 ((⟨w5.heap.size, 0, none⟩ : Addr).add 1) Slc.v fun (x54 : Slc) =>
        Rn Try.prog (Builtin.append_ #[97, 97] 97 #[Slc.v out, Slc.v x54]) vw53 Slc.v fun (x55 : Slc) vw56 =>
        0 ≤ ((rowN p + headN p : Nat) : Int) ∧ ((rowN p + headN p : Nat) : Int) ≤ ((st1.size : Nat) : Int) ∧ ∃ n', n' < k + 1 ∧ DecI w p w5.heap.size total n' (st1.extract (((rowN p + headN p : Nat) : Int)).toNat st1.size, x55) vw56 := by
    intro x w13 H hr2 hr3 hrow hx
    refine H.ld 1 rfl rfl (H.ld 1 rfl rfl (H.ld 1 rfl rfl ?_))
    have hmore := c_more hr2 hr3 (fun j hj h => (hx j h).2.2.1 hj) ((tag : Nat) : Int) (colors := p.2.1.toNat) (by omega) (by omega) hcb
    rw [hc, hraw] at hmore
    refine hmore.mono ?_
    rintro w14 ⟨hr3, he14⟩
    have H := H.other he14 (fun j hj hm => by
      have := hx j hj
      simp at hm
      omega) fun j hj => .inr (by have := (hx j hj).1; omega)
    have hrow := hrow.keep he14 fun j hj h => (hx j h).2.2.2 hj
    have hdl := dec_len ((tag : Nat) : Int) prev ((st1.data.toList.drop (headN p)).take (rowN p)) p.2.1.toNat (rowN p)
    obtain ⟨y, w15, hrun, hy, he15, hown⟩ := app_rrow (ty := 97) hrow hr3 (by omega)
    refine H.ld 1 rfl rfl ⟨y, w15, hrun, by omega, by omega, k, by omega, dec ((tag : Nat) : Int) prev ((st1.data.toList.drop (headN p)).take (rowN p)) p.2.1.toNat (rowN p), _, s2, x, ?_, ?_, ?_, H.other he15 (fun j hj hm => ?_) fun j hj => .inr (by have := (ho1 j hj).1; omega), hr3.keep he15 fun j hj h => (hx j hj).2.2.2 h, hy, ?_, fun j hj => ⟨(hx j hj).1, (hx j hj).2.1⟩⟩
    · rw [Int.toNat_natCast, extract_drop, List.length_drop, hl, Nat.add_mul, Nat.one_mul, Nat.add_sub_cancel]
    · rw [Int.toNat_natCast, extract_drop, ← htot, Option.map_map]
      refine congrArg (fun f => Option.map f _) (funext fun l => ?_)
      exact List.append_assoc _ _ _
    · rw [Int.toNat_natCast, extract_drop, List.length_append, List.length_drop]
      omega
    · have := ho1 j hj
      simp at hm
      omega
    · intro j hj
      rcases hown j hj with h | h
      · exact ⟨(ho1 j h).1, (ho1 j h).2.1, fun h2 => (hx j h2).2.2.2 h⟩
      · have h1 := (H.get 0 rfl).lt
        have h2 := (H.get 1 rfl).lt
        exact ⟨by omega, by omega, fun h3 => by have := hr3.own_lt h3; omega⟩
  have HD := H.drew
  have hlt6 := (H.get 1 rfl).lt
  have hr2D := hr2.keep (Ext.refl (fun _ => False) w12).drew fun _ _ h => h
  have hrowD := hrow.keep (Ext.refl (fun _ => False) w12).drew fun _ _ h => h
  have hex : (st1.extract (((headN p : Nat) : Int)).toNat (((rowN p + headN p : Nat) : Int)).toNat).data.toList = (st1.data.toList.drop (headN p)).take (rowN p) := by
    rw [extract_list, Int.toNat_natCast, Int.toNat_natCast, Nat.add_sub_cancel]
  refine ⟨fun w13 => Ext (fun _ => False) w12.drew w13, Ext.refl _ _, LdS.of (fun w13 he => (HD.keep he).get 1 rfl) rfl ⟨by omega, by omega, by omega, by rw [Int.toNat_natCast]; omega, ?_, ?_⟩⟩
  · obtain ⟨x, w13, hrun, hx, he, hnew⟩ := bytes_str w12.drew (st1.extract (((headN p : Nat) : Int)).toNat (((rowN p + headN p : Nat) : Int)).toNat)
    rw [hex] at hx
    refine ⟨x, w13, hrun, he, ?_⟩
    have H13 := HD.keep he
    have hxl : ∀ j, x.own j → w5.heap.size < j := fun j hj => by have := hnew j hj; simp at this; omega
    have hb' : ∀ j, x.own j → ¬ j = w5.heap.size := fun j hj h => by have := hxl j hj; omega
    refine H13.st' 1 rfl (by simp) (.inr (by omega)) fun w14 H14 he14 => ?_
    rw [add_lit]
    refine H14.st' 1 rfl (by simp) (.inr (by omega)) fun w15 H15 he15 => ?_
    exact tail x w15 H15 (((hr2D.keep he fun _ _ h => h).keep he14 fun j hj => (ho2 j hj).2).keep he15 fun j hj => (ho2 j hj).2) ((hx.keep he14 hb').keep he15 hb') (((hrowD.keep he fun _ _ h => h).keep he14 fun j hj => (ho1 j hj).2.1).keep he15 fun j hj => (ho1 j hj).2.1)
      fun j hj => ⟨by have := hxl j hj; omega, hb' j hj, fun h => by have h1 := hr2D.own_lt h; have h2 := hnew j hj; omega, fun h => by have h1 := hrowD.own_lt h; have h2 := hnew j hj; omega⟩
  · refine HD.st' 1 rfl (by simp) (.inr (by omega)) fun w13 H13 he13 => ?_
    obtain ⟨x, w14, hrun, hx, he, hnew⟩ := bytes_str w13 (st1.extract (((headN p : Nat) : Int)).toNat (((rowN p + headN p : Nat) : Int)).toNat)
    rw [hex] at hx
    refine ⟨x, w14, hrun, ?_⟩
    have H14 := H13.keep he
    have hs13 := he13.size
    simp at hs13
    have hxl : ∀ j, x.own j → w5.heap.size < j := fun j hj => by have := hnew j hj; omega
    have hb' : ∀ j, x.own j → ¬ j = w5.heap.size := fun j hj h => by have := hxl j hj; omega
    rw [add_lit]
    refine H14.st' 1 rfl (by simp) (.inr (by omega)) fun w15 H15 he15 => ?_
    have hr2E := hr2D.keep he13 fun j hj => (ho2 j hj).2
    have hrowE := hrowD.keep he13 fun j hj => (ho1 j hj).2.1
    exact tail x w15 H15 ((hr2E.keep he fun _ _ h => h).keep he15 fun j hj => (ho2 j hj).2) (hx.keep he15 hb') ((hrowE.keep he fun _ _ h => h).keep he15 fun j hj => (ho1 j hj).2.1)
      fun j hj => ⟨by have := hxl j hj; omega, hb' j hj, fun h => by have h1 := hr2E.own_lt h; have h2 := hnew j hj; omega, fun h => by have h1 := hrowE.own_lt h; have h2 := hnew j hj; omega⟩
end
end Pre
end Go.Proofs.Ytahdpfjikmechaa
