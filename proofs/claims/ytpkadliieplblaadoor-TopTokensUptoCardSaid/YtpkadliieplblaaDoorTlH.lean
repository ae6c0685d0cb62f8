/- The lexer: a literal string, whole. Conditions: sizes. -/
import Derived.Test.YtpkadliieplblaaDoorTlG
namespace Go.Proofs.YtpkadliieplblaaDoor
namespace Tl
open Sh Fix Tk Bui Go.Lib
set_option linter.unusedVariables false
set_option linter.unusedSimpArgs false
set_option maxRecDepth 8000
set_option maxHeartbeats 4000000
theorem esc_cases (c : UInt8) : (escS c = [c] ∧ c ≠ 92 ∧ c ≠ 40 ∧ c ≠ 41 ∧ c ≠ 13 ∧ c ≠ 10) ∨ ∃ tl, escS c = 92 :: tl := by
  unfold escS
  split
  · exact .inr ⟨_, rfl⟩
  · rename_i h
    split
    · exact .inr ⟨_, rfl⟩
    · rename_i h2
      refine .inl ⟨rfl, fun e => h (.inr (.inr e)), fun e => h (.inl e), fun e => h (.inr (.inl e)), fun e => ?_, fun e => ?_⟩
      · subst e; exact h2 (.inl (by decide))
      · subst e; exact h2 (.inl (by decide))
section
variable {w0 w : World} {s t : ByteArray}
attribute [local irreducible] Ld Sh.St Nw Nn Lt LdS
/-- A literal string is read. -/
theorem c_texts {b : Nat} {l rest : By} (hd : (bl s).drop b = strF l ++ rest) (hb : b ≤ s.size) (hs : s.size ≤ 1099511627776) (hl : l.length ≤ 1000) (w : World) :
    C51 (s, (b : Int)) w fun r e w1 => r = (3, (b : Int), ((b + (strF l).length : Nat) : Int), 0, ba l) ∧ e = 0 ∧ Ext (fun _ => False) w w1 := by
  refine T51 (s, (b : Int)) _ _ ?_
  unfold S51
  have hbs := bl_size s
  have hba : (ba l).size = l.length := by rw [← bl_size, bl_ba]
  have hF : (strF l).length = (l.flatMap escS).length + 2 := by unfold strF; rw [List.length_cons, List.length_append]; rfl
  have hsz : b + (strF l).length ≤ s.size := by
    have := congrArg List.length hd
    rw [List.length_drop, List.length_append, bl_size] at this
    omega
  have hd1 : (bl s).drop (b + 1) = l.flatMap escS ++ 41 :: rest := by
    rw [← List.drop_drop, hd]
    show (l.flatMap escS ++ [41]) ++ rest = _
    simp
  refine (Hn.start w).nw (cs := [.string s, .int .i64 (b : Int)]) fun w2 H => ?_
  refine H.nw (cs := [.int .i64 0, .int .i64 0, .int .i64 0, .int .i64 0, .string ⟨#[]⟩]) fun w3 H => ?_
  simp only [List.cons_append, List.nil_append, add_lit, Nat.zero_add] at H ⊢
  have h23 : w2.heap.size < w3.heap.size := H.lt 1 rfl
  have h13 : w.heap.size < w3.heap.size := H.lt 0 rfl
  have hw0 := H.size
  refine Nw.of ?_
  have e0 : Ext (fun _ => False) w3 (w3.alloc (.cells #[.pointer none, Slc.v ⟨none, 0, 0⟩] 60)) := (Ext.refl _ _).alloc _
  have hb0 := Blk.new w3 #[.pointer none, Slc.v ⟨none, 0, 0⟩] 60
  generalize w3.alloc (.cells #[.pointer none, Slc.v ⟨none, 0, 0⟩] 60) = w4 at e0 hb0 ⊢
  have B0 : Bu w3 w4 w3.heap.size none ⟨none, 0, 0⟩ [] := ⟨Nat.le_refl _, .inl rfl, hb0, ⟨rfl, .inl ⟨rfl, rfl⟩⟩⟩
  have H := H.keep e0
  have z4 := e0.size
  refine H.ld 0 rfl rfl ?_
  have ib : IntKind.i64.wrap (((b : Nat) : Int) + 1) = ((b + 1 : Nat) : Int) := by rw [i64_id (by omega)]; rfl
  rw [ib]
  refine ⟨fun n st v => ∃ (k : Nat) (p : Option Addr) (sl : Slc), st = (1, ((b + 1 + ((l.take k).flatMap escS).length : Nat) : Int)) ∧ k ≤ l.length ∧ n = l.length - k ∧ Bu w3 v w3.heap.size p sl (l.take k) ∧ w3.heap.size ≤ v.heap.size ∧
      Hn w v [(w.heap.size, [.string s, .int .i64 (b : Int)], 81), (w2.heap.size, [.int .i64 0, .int .i64 0, .int .i64 0, .int .i64 0, .string ⟨#[]⟩], 32)], l.length,
    ⟨0, none, ⟨none, 0, 0⟩, rfl, by omega, rfl, B0, z4, H⟩, ?_⟩
  rintro n st v ⟨k, p, sl, rfl, hk, rfl, hB, hz3, H⟩
  unfold S51L1
  have keepW : ∀ {u u' : World}, Hn w u [(w.heap.size, [.string s, .int .i64 (b : Int)], 81), (w2.heap.size, [.int .i64 0, .int .i64 0, .int .i64 0, .int .i64 0, .string ⟨#[]⟩], 32)] → Ext (fun j => w3.heap.size ≤ j) u u' →
      Hn w u' [(w.heap.size, [.string s, .int .i64 (b : Int)], 81), (w2.heap.size, [.int .i64 0, .int .i64 0, .int .i64 0, .int .i64 0, .string ⟨#[]⟩], 32)] := fun H e => H.other e fun j hj => by
    have hj : w3.heap.size ≤ j := hj
    refine ⟨by omega, ?_⟩
    simp only [List.map_cons, List.map_nil, List.mem_cons, List.not_mem_nil, or_false]
    omega
  by_cases hkl : k < l.length
  · have hc := List.getElem?_eq_getElem hkl
    generalize l[k] = c at hc
    have hlt := byte_lt c
    have hfd := flat_drop (f := escS) l (41 :: rest) k
    rw [drop_c hc, List.flatMap_cons] at hfd
    have htk : (l.take (k + 1)).flatMap escS = (l.take k).flatMap escS ++ escS c := by rw [take_c hc, List.flatMap_append]; simp
    have hle : ((l.take (k + 1)).flatMap escS).length ≤ (l.flatMap escS).length := by
      have : l.flatMap escS = (l.take (k + 1)).flatMap escS ++ (l.drop (k + 1)).flatMap escS := by rw [← List.flatMap_append, List.take_append_drop]
      rw [this, List.length_append]
      omega
    rw [htk, List.length_append] at hle
    have hdr : (bl s).drop (b + 1 + ((l.take k).flatMap escS).length) = escS c ++ ((l.drop (k + 1)).flatMap escS ++ 41 :: rest) := by
      rw [← List.drop_drop, hd1, hfd, List.append_assoc]
    generalize hA : ((l.take k).flatMap escS).length = A at *
    have htl : ((l.take (k + 1)).flatMap escS).length = A + (escS c).length := by rw [htk, List.length_append, hA]
    have hne : 1 ≤ (escS c).length := by
      rcases esc_cases c with ⟨h, _⟩ | ⟨tl, h⟩ <;> rw [h] <;> simp
    refine H.ld 0 rfl rfl (Br.dec (fun _ => ?_) fun q => absurd (show ((b + 1 + A : Nat) : Int) < ((s.size : Nat) : Int) by omega) q)
    iterate 2 refine H.ld 0 rfl rfl ?_
    have hfin : ∀ {u : World} {p' : Option Addr} {sl' : Slc}, Bu w3 u w3.heap.size p' sl' (l.take k ++ [c]) → w3.heap.size ≤ u.heap.size → Hn w u [(w.heap.size, [.string s, .int .i64 (b : Int)], 81), (w2.heap.size, [.int .i64 0, .int .i64 0, .int .i64 0, .int .i64 0, .string ⟨#[]⟩], 32)] → ∀ to : Int, to = ((b + 1 + A + (escS c).length : Nat) : Int) →
        ∃ n', n' < l.length - k ∧ ∃ (k : Nat) (p : Option Addr) (sl : Slc), ((1 : Int), to) = (1, ((b + 1 + ((l.take k).flatMap escS).length : Nat) : Int)) ∧ k ≤ l.length ∧ n' = l.length - k ∧ Bu w3 u w3.heap.size p sl (l.take k) ∧ w3.heap.size ≤ u.heap.size ∧
      Hn w u [(w.heap.size, [.string s, .int .i64 (b : Int)], 81), (w2.heap.size, [.int .i64 0, .int .i64 0, .int .i64 0, .int .i64 0, .string ⟨#[]⟩], 32)] := by
      rintro u p' sl' h1 h2 h3 to rfl
      refine ⟨l.length - (k + 1), by omega, k + 1, p', sl', ?_, by omega, rfl, by rw [take_c hc]; exact h1, h2, h3⟩
      rw [htl, Nat.add_assoc]
    rcases esc_cases c with ⟨hE, n92, n40, n41, n13, n10⟩ | ⟨tl, hE⟩
    · have hat : (bl s)[b + 1 + A]? = some c := at_drop (j := 0) hdr (by rw [hE]; rfl)
      refine (c_end _ hat n13 n10 v).mono ?_
      rintro r bb v1 ⟨rfl, rfl, e1⟩
      have H := H.keep e1
      have hB := hB.keep e1
      have z1 := e1.size
      refine Br.f rfl (Join.intro (H.ld 0 rfl rfl ⟨by omega, by show ((b + 1 + A : Nat) : Int) < _; omega, ?_⟩))
      dsimp only
      rw [bAt_bl hat]
      refine Br.eq (fun q => absurd (u8_eq (d := 92) q) n92) fun _ => Br.eq (fun q => absurd (u8_eq (d := 40) q) n40) fun _ => Br.eq (fun q => absurd (u8_eq (d := 41) q) n41) fun _ => ?_
      unfold S51J1
      refine Br.f rfl (H.ld 0 rfl rfl ⟨by omega, by show ((b + 1 + A : Nat) : Int) < _; omega, ?_⟩)
      dsimp only
      rw [bAt_bl hat]
      refine (c_byte hB (by rw [List.length_take]; omega)).mono ?_
      rintro r v2 ⟨sl2, hB2, hW⟩
      refine hfin hB2 (by have := hW.ext.size; omega) (keepW H hW.ext) _ ?_
      rw [hE, i64_id (by omega)]
      rfl
    · have hat : (bl s)[b + 1 + A]? = some 92 := at_drop (j := 0) hdr (by rw [hE]; rfl)
      have hdr2 : (bl s).drop (b + 1 + A + 1) = tl ++ ((l.drop (k + 1)).flatMap escS ++ 41 :: rest) := by
        rw [← List.drop_drop, hdr, hE]
        rfl
      refine (c_end _ hat (by decide) (by decide) v).mono ?_
      rintro r bb v1 ⟨rfl, rfl, e1⟩
      have H := H.keep e1
      have hB := hB.keep e1
      have z1 := e1.size
      refine Br.f rfl (Join.intro (H.ld 0 rfl rfl ⟨by omega, by show ((b + 1 + A : Nat) : Int) < _; omega, ?_⟩))
      dsimp only
      rw [bAt_bl hat, show IntKind.i64.wrap (((b + 1 + A : Nat) : Int) + 1) = ((b + 1 + A + 1 : Nat) : Int) by rw [i64_id (by omega)]; rfl]
      refine Br.t rfl (H.ld 0 rfl rfl (Br.eq (fun q => absurd q (by omega)) fun _ => ?_))
      iterate 2 refine H.ld 0 rfl rfl ?_
      refine (c_escaped _ hE hdr2 (by omega) hs v1).mono ?_
      rintro r to v2 ⟨rfl, rfl, e2⟩
      have H := H.keep e2
      have hB := hB.keep e2
      have z2 := e2.size
      refine (c_str hB (by rw [List.length_take]; show _ + 1 ≤ _; omega)).mono ?_
      rintro r r' v3 ⟨sl2, hB2, hW⟩
      exact hfin hB2 (by have := hW.ext.size; omega) (keepW H hW.ext) _ rfl
  · have hkl : k = l.length := by omega
    subst hkl
    rw [List.take_length] at hB ⊢
    have hat : (bl s)[b + 1 + (l.flatMap escS).length]? = some 41 := by
      refine at_drop (j := (l.flatMap escS).length) hd1 ?_
      rw [List.getElem?_append_right (Nat.le_refl _), Nat.sub_self]
      rfl
    refine H.ld 0 rfl rfl (Br.dec (fun _ => ?_) fun q => absurd (show ((b + 1 + (l.flatMap escS).length : Nat) : Int) < ((s.size : Nat) : Int) by omega) q)
    iterate 2 refine H.ld 0 rfl rfl ?_
    refine (c_end _ hat (by decide) (by decide) v).mono ?_
    rintro r bb v1 ⟨rfl, rfl, e1⟩
    have H := H.keep e1
    have hB := hB.keep e1
    have z1 := e1.size
    refine Br.f rfl (Join.intro (H.ld 0 rfl rfl ⟨by omega, by show ((b + 1 + (l.flatMap escS).length : Nat) : Int) < _; omega, ?_⟩))
    dsimp only
    rw [bAt_bl hat]
    refine Br.f rfl (Br.f rfl (Br.t rfl ?_))
    unfold S51J1
    refine Br.t (show (IntKind.i64.wrap (1 - 1) == 0) = true by decide) ⟨fun u => Hn w u [(w.heap.size, [.string s, .int .i64 (b : Int)], 81), (w2.heap.size, [.int .i64 0, .int .i64 0, .int .i64 0, .int .i64 0, .string ⟨#[]⟩], 32)], H.drew, ?_⟩
    refine LdS.of (fun u hu => hu.get 0 rfl) rfl (LdS.of (fun u hu => hu.get 0 rfl) rfl ?_)
    refine (c_bstr (hB.keep (Ext.refl (fun _ => False) v1).drew) (by show w3.heap.size ≤ v1.heap.size; omega)).mono ?_
    rintro r v2 ⟨rfl, hb2⟩
    have H := keepW H.drew (ext_below hb2)
    refine ⟨H, ?_⟩
    refine (c_told _ _ _ _ (show (((ba l).size : Nat) : Int) ≤ 32767 by omega) v2).mono ?_
    rintro r e v3 ⟨rfl, rfl, he⟩
    have H := H.keep he
    simp only [add_lit, Nat.zero_add]
    iterate 5 (refine H.st 1 rfl (by simp) fun _ H => ?_; simp only [List.set_cons_zero, List.set_cons_succ] at H)
    iterate 5 refine H.ld 1 rfl rfl ?_
    refine ⟨?_, by trivial, H.ext⟩
    have : IntKind.i64.wrap (((b + 1 + (l.flatMap escS).length : Nat) : Int) + 1) = ((b + (strF l).length : Nat) : Int) := by rw [i64_id (by omega)]; omega
    rw [this]
end
end Tl
end Go.Proofs.YtpkadliieplblaaDoor
