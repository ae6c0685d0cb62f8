/- The lexer: a name, an integer, a word. Conditions: sizes. -/
import Derived.Test.YtpkadliieplblaaDoorTlD
namespace Go.Proofs.YtpkadliieplblaaDoor
namespace Tl
open Sh Fix Tk Bui Go.Lib
set_option linter.unusedVariables false
set_option linter.unusedSimpArgs false
set_option maxRecDepth 8000
set_option maxHeartbeats 4000000
theorem escN_reg (c : UInt8) : ∀ x ∈ escN c, regB x = true := by
  intro x hx'
  have hlt := byte_lt c
  unfold escN at hx'
  split at hx'
  · rename_i h
    rw [List.mem_singleton.1 hx']
    unfold regB
    have : whB c = false := by
      rw [← Bool.not_eq_true]
      intro hw
      unfold whB at hw
      rw [List.contains_iff_mem] at hw
      simp only [List.mem_cons, List.not_mem_nil, or_false] at hw
      have h1 := h.1
      rcases hw with rfl | rfl | rfl | rfl | rfl | rfl <;> exact absurd h1 (by decide)
    rw [this, h.2.2.2]
    rfl
  · rcases List.mem_cons.1 hx' with rfl | hx'
    · rfl
    · simp only [hx2, List.mem_cons, List.not_mem_nil, or_false] at hx'
      rcases hx' with rfl | rfl
      · exact (hx_reg (by omega)).1
      · exact (hx_reg (by omega)).1
theorem names_reg (l : By) : ∀ x ∈ l.flatMap escN, regB x = true := fun x hx => by
  obtain ⟨c, _, h⟩ := List.mem_flatMap.1 hx
  exact escN_reg c x h
theorem IntT.reg {n : Int} {t D : By} (h : IntT n t D) : ∀ c ∈ t, regB c = true := by
  intro c hc
  rw [h.t] at hc
  rcases List.mem_append.1 hc with hc | hc
  · split at hc
    · rw [List.mem_singleton.1 hc]; rfl
    · cases hc
  · exact reg_dig (h.d c hc)
theorem IntT.len {n : Int} {t D : By} (h : IntT n t D) : t.length = (if n < 0 then 1 else 0) + D.length := by
  rw [h.t, List.length_append]
  split <;> rfl
theorem IntT.trim {n : Int} {t D : By} (h : IntT n t D) : trimLeftS t [43, 45] = D := by
  have d1 := h.d1
  have hd : trimLeftS D [43, 45] = D := by
    cases D with
    | nil => simp at d1
    | cons c0 D' =>
      have hc0 := h.d c0 (List.mem_cons_self ..)
      unfold trimLeftS
      rw [List.dropWhile_cons, if_neg]
      have : ([43, 45] : By).contains c0 = false := by
        rw [← Bool.not_eq_true, List.contains_iff_mem]
        intro hm
        simp only [List.mem_cons, List.not_mem_nil, or_false] at hm
        rcases hm with rfl | rfl
        · exact absurd hc0.1 (by decide)
        · exact absurd hc0.1 (by decide)
      rw [this]
      decide
  rw [h.t]
  split
  · show trimLeftS (45 :: D) [43, 45] = _
    unfold trimLeftS at hd ⊢
    rw [List.dropWhile_cons, if_pos (by decide)]
    exact hd
  · exact hd
section
variable {w0 w : World} {s t : ByteArray}
attribute [local irreducible] Ld Sh.St Nw Nn Lt LdS
/-- A name is read. -/
theorem c_namel {b : Nat} {l rest : By} (hd : (bl s).drop b = nameF l ++ rest) (hr : ∀ c, rest.head? = some c → regB c = false) (hb : b ≤ s.size) (hs : s.size ≤ 1099511627776) (hl : l.length ≤ 100) (h0 : 0 ∉ l) (w : World) :
    C50 (s, (b : Int)) w fun r e w1 => r = (4, (b : Int), ((b + (nameF l).length : Nat) : Int), 0, ba l) ∧ e = 0 ∧ Ext (fun _ => False) w w1 := by
  refine T50 (s, (b : Int)) _ _ ?_
  unfold S50
  have hbs := bl_size s
  have hba : (ba l).size = l.length := by rw [← bl_size, bl_ba]
  have hF : (nameF l).length = (l.flatMap escN).length + 1 := by unfold nameF; rw [List.length_cons]
  have hsz : b + (nameF l).length ≤ s.size := by
    have := congrArg List.length hd
    rw [List.length_drop, List.length_append, bl_size] at this
    omega
  have hd1 : (bl s).drop (b + 1) = l.flatMap escN ++ rest := by
    rw [← List.drop_drop, hd]
    rfl
  refine (Hn.start w).nw (cs := [.string s, .int .i64 (b : Int)]) fun w2 H => ?_
  refine H.nw (cs := [.int .i64 0, .int .i64 0, .int .i64 0, .int .i64 0, .string ⟨#[]⟩]) fun w3 H => ?_
  simp only [List.cons_append, List.nil_append, add_lit, Nat.zero_add] at H ⊢
  have h23 : w2.heap.size < w3.heap.size := H.lt 1 rfl
  have h13 : w.heap.size < w3.heap.size := H.lt 0 rfl
  iterate 3 refine H.ld 0 rfl rfl ?_
  have ib : IntKind.i64.wrap (((b : Nat) : Int) + 1) = ((b + 1 : Nat) : Int) := by rw [i64_id (by omega)]; rfl
  rw [ib]
  refine (c_run s _ (a := b + 1) (by omega) hs w3).mono ?_
  rintro r w4 ⟨hr4, e4⟩
  rw [hd1, runL_app (names_reg l) hr] at hr4
  subst hr4
  have z4 := e4.size
  have H := H.keep e4
  refine H.ld 0 rfl rfl ?_
  rw [ib]
  refine ⟨fun n st v => ∃ (k : Nat) (sl : Slc), st = (sl, ((b + 1 + ((l.take k).flatMap escN).length : Nat) : Int)) ∧ k ≤ l.length ∧ n = l.length - k ∧ BRow v sl (l.take k) ∧ (∀ j, sl.own j → w3.heap.size ≤ j) ∧ Hn w v [(w.heap.size, [.string s, .int .i64 (b : Int)], 81), (w2.heap.size, [.int .i64 0, .int .i64 0, .int .i64 0, .int .i64 0, .string ⟨#[]⟩], 32)] ∧ w3.heap.size ≤ v.heap.size, l.length,
    ⟨0, ⟨none, 0, 0⟩, rfl, by omega, rfl, BRow.nil _, (fun j hj => by obtain ⟨a, ha, _⟩ := hj; cases ha), H, z4⟩, ?_⟩
  rintro n st v ⟨k, sl, rfl, hk, rfl, hR, ho, H, hz3⟩
  unfold S50L1
  by_cases hkl : k < l.length
  · have hc := List.getElem?_eq_getElem hkl
    generalize l[k] = c at hc
    have hlt := byte_lt c
    have hfd := flat_drop (f := escN) l rest k
    rw [drop_c hc, List.flatMap_cons] at hfd
    have htk : (l.take (k + 1)).flatMap escN = (l.take k).flatMap escN ++ escN c := by rw [take_c hc, List.flatMap_append]; simp
    have hle : ((l.take (k + 1)).flatMap escN).length ≤ (l.flatMap escN).length := by
      have : l.flatMap escN = (l.take (k + 1)).flatMap escN ++ (l.drop (k + 1)).flatMap escN := by rw [← List.flatMap_append, List.take_append_drop]
      rw [this, List.length_append]
      omega
    have hle2 := hle
    rw [htk, List.length_append] at hle2
    have hdr : (bl s).drop (b + 1 + ((l.take k).flatMap escN).length) = escN c ++ ((l.drop (k + 1)).flatMap escN ++ rest) := by
      rw [← List.drop_drop, hd1, hfd, List.append_assoc]
    -- one byte more
    have more : ∀ (u : World), Ext (fun _ => False) v u → ∀ (st2 : Int), st2 = ((b + 1 + ((l.take (k + 1)).flatMap escN).length : Nat) : Int) → Nw u (.cells #[.int .u8 (c.toNat : Int)] 5) fun vw120 =>
              Rn Tryd.prog (Builtin.append_ #[56, 56] 56 #[Slc.v sl, Slc.v ((⟨some ⟨u.heap.size, 0, none⟩, 1, 1⟩ : Slc))]) vw120 Slc.v fun (x121 : Slc) vw122 =>
              ∃ m, m < l.length - k ∧ ∃ (k : Nat) (sl : Slc), (x121, st2) = (sl, ((b + 1 + ((l.take k).flatMap escN).length : Nat) : Int)) ∧ k ≤ l.length ∧ m = l.length - k ∧ BRow vw122 sl (l.take k) ∧ (∀ j, sl.own j → w3.heap.size ≤ j) ∧ Hn w vw122 [(w.heap.size, [.string s, .int .i64 (b : Int)], 81), (w2.heap.size, [.int .i64 0, .int .i64 0, .int .i64 0, .int .i64 0, .string ⟨#[]⟩], 32)] ∧ w3.heap.size ≤ vw122.heap.size := by
      rintro u eu st2 rfl
      have hR := hR.keep eu fun _ _ h => h
      have H := H.keep eu
      have zu := eu.size
      refine Nw.of ?_
      have e1 : Ext (fun _ => False) u (u.alloc (.cells (bcs [c]).toArray 5)) := (Ext.refl _ _).alloc _
      obtain ⟨sl', v', hrun, hR', he', ho'⟩ := app_one (ty := 56) (b := c) (hR.keep e1 fun _ _ h => h) (Blk.new u (bcs [c]).toArray 5) (by rw [List.length_take]; omega)
      refine ⟨sl', v', hrun, l.length - (k + 1), by omega, k + 1, sl', rfl, by omega, rfl, by rw [take_c hc]; exact hR', ?_, ?_, ?_⟩
      · intro j hj
        rcases ho' j hj with h | h
        · exact ho j h
        · have := e1.size; omega
      · refine (H.keep e1).other he' fun j hj => ?_
        have hj := ho j hj
        refine ⟨by omega, ?_⟩
        simp only [List.map_cons, List.map_nil, List.mem_cons, List.not_mem_nil, or_false]
        omega
      · have := e1.size; have := he'.size; omega
    generalize hA : ((l.take k).flatMap escN).length = A at *
    have ib2 : IntKind.i64.wrap (((b + 1 + A : Nat) : Int) + 1) = ((b + 1 + A + 1 : Nat) : Int) := by rw [i64_id (by omega)]; rfl
    refine Br.dec (fun _ => ?_) fun q => absurd (show ((b + 1 + A : Nat) : Int) < ((b + 1 + (l.flatMap escN).length : Nat) : Int) by
      have : 1 ≤ (escN c).length := by unfold escN; split <;> simp
      omega) q
    refine H.ld 0 rfl rfl ?_
    by_cases hp : 32 < c.toNat ∧ c.toNat ≤ 126 ∧ c ≠ 35 ∧ dlB c = false
    · have hE : escN c = [c] := by unfold escN; rw [if_pos hp]
      rw [hE] at hdr htk hle2
      have hle3 : A + 1 ≤ (l.flatMap escN).length := hle2
      have hat : (bl s)[b + 1 + A]? = some c := at_drop (j := 0) hdr rfl
      refine ⟨by omega, by show ((b + 1 + A : Nat) : Int) < _; omega, ?_⟩
      rw [bAt_bl hat]
      refine Br.eq (fun q => absurd (UInt8.toNat_inj.1 (by have : ((35 : UInt8).toNat : Int) = 35 := rfl; omega)) hp.2.2.1) fun _ => ?_
      rw [ib2]
      refine more v (Ext.refl _ _) _ ?_
      rw [htk, List.length_append, hA]
      rfl
    · have hE : escN c = 35 :: hx2 c := by unfold escN; rw [if_neg hp]
      rw [hE] at hdr htk hle2
      have hle3 : A + 3 ≤ (l.flatMap escN).length := hle2
      have hat : (bl s)[b + 1 + A]? = some 35 := at_drop (j := 0) hdr rfl
      refine ⟨by omega, by show ((b + 1 + A : Nat) : Int) < _; omega, ?_⟩
      rw [bAt_bl hat]
      have i2 : IntKind.i64.wrap (((b + 1 + A : Nat) : Int) + 2) = ((b + 1 + A + 2 : Nat) : Int) := by rw [i64_id (by omega)]; rfl
      have i3 : IntKind.i64.wrap (((b + 1 + A : Nat) : Int) + 3) = ((b + 1 + A + 3 : Nat) : Int) := by rw [i64_id (by omega)]; rfl
      have i23 : IntKind.i64.wrap (((b + 1 + A + 2 : Nat) : Int) + 1) = ((b + 1 + A + 3 : Nat) : Int) := by rw [i64_id (by omega)]; rfl
      rw [ib2, i2, i3, i23]
      refine Br.t rfl (Br.dec (fun q => absurd q (by omega)) fun _ => H.ld 0 rfl rfl ⟨by omega, by omega, by omega, by omega, ?_⟩)
      refine (c_unhex c ?_ v).mono ?_
      · rw [bl_ext, Int.toNat_natCast, Int.toNat_natCast, show b + 1 + A + 1 = (b + 1 + A) + 1 from rfl, ← List.drop_drop, hdr]
        show (hx2 c ++ _).take _ = _
        rw [show b + 1 + A + 3 - (b + 1 + A + 1) = (hx2 c).length by simp [hx2]]
        simp
      rintro r e v1 ⟨hrc, rfl, e1⟩
      have hr91 : r = ⟨#[c]⟩ := bl_inj hrc
      have hc0 : c ≠ 0 := fun e => h0 (by rw [← e]; exact List.mem_of_getElem? hc)
      subst hr91
      refine Br.ne (fun q => absurd rfl q) fun _ => ?_
      rw [eqL]
      refine Br.dec (fun q => by
        have q : [c] = [0] := q
        exact absurd (List.head_eq_of_cons_eq q) hc0) fun _ => ?_
      have : bAt (⟨#[c]⟩ : ByteArray) 0 = (c.toNat : Int) := bAt_bl (i := 0) rfl
      rw [this]
      refine ⟨by decide, by show (0 : Int) < ((1 : Nat) : Int); decide, ?_⟩
      refine more v1 e1 _ ?_
      rw [htk, List.length_append, hA]
      rfl
  · have hkl : k = l.length := by omega
    subst hkl
    rw [List.take_length] at hR ⊢
    refine Br.dec (fun q => absurd q (by omega)) fun _ => ?_
    iterate 2 refine H.ld 0 rfl rfl ?_
    refine ⟨_, _, str_row hR, ?_⟩
    refine (c_told _ _ _ _ (show (((ba l).size : Nat) : Int) ≤ 127 by omega) v).mono ?_
    rintro r e v1 ⟨rfl, rfl, he⟩
    have H := H.keep he
    iterate 5 (refine H.st 1 rfl (by simp) fun _ H => ?_; simp only [List.set_cons_zero, List.set_cons_succ] at H)
    iterate 5 refine H.ld 1 rfl rfl ?_
    refine ⟨?_, by trivial, H.ext⟩
    have : b + 1 + (l.flatMap escN).length = b + (nameF l).length := by omega
    rw [this]
end
end Tl
end Go.Proofs.YtpkadliieplblaaDoor
