/- Fonts: what a code says. Conditions: sizes, the laid tables. -/
import Derived.Test.YtcblpehnkogfdaaGreatDoorFoC
import Derived.Laws.Cover4
namespace Go.Proofs.YtcblpehnkogfdaaGreatDoor
namespace Fo
open Sh Go.Lib
set_option linter.unusedVariables false
set_option linter.unusedSimpArgs false
set_option maxRecDepth 4000
set_option maxHeartbeats 2000000
theorem enc_eq {c : Nat} (h : c < 55296 ∨ (57344 ≤ c ∧ c ≤ 1114111)) : Utf8.encode (c : Int) = ⟨(encodeRune (c : Int)).toArray⟩ := by
  have hv : Utf8.valid (c : Int) = true := by
    unfold Utf8.valid
    simp only [Bool.or_eq_true, Bool.and_eq_true, decide_eq_true_eq]
    omega
  have nb : ∀ n : Nat, UInt8.ofNat n = ((n : Int).toNat).toUInt8 := fun n => by rw [Int.toNat_natCast]
  unfold Utf8.encode
  simp only [hv, if_true, Int.toNat_natCast]
  unfold encodeRune
  by_cases h1 : c < 128
  · rw [if_pos h1, encodeRuneZ_one (by omega) (by omega)]
    rfl
  · rw [if_neg h1]
    by_cases h2 : c < 2048
    · rw [if_pos h2, encodeRuneZ_two (by omega) (by omega)]
      have e1 : (192 + (c : Int) / 64).toNat = 192 + c / 64 := by omega
      have e2 : (128 + (c : Int) % 64).toNat = 128 + c % 64 := by omega
      simp only [List.map_cons, List.map_nil, e1, e2]
    · rw [if_neg h2]
      by_cases h3 : c < 65536
      · rw [if_pos h3, encodeRuneZ_three (by omega)]
        have e1 : (224 + (c : Int) / 4096).toNat = 224 + c / 4096 := by omega
        have e2 : (128 + (c : Int) / 64 % 64).toNat = 128 + c / 64 % 64 := by omega
        have e3 : (128 + (c : Int) % 64).toNat = 128 + c % 64 := by omega
        simp only [List.map_cons, List.map_nil, e1, e2, e3]
      · rw [if_neg h3, encodeRuneZ_four (by omega) (by omega)]
        have e1 : (240 + (c : Int) / 262144).toNat = 240 + c / 262144 := by omega
        have e2 : (128 + (c : Int) / 4096 % 64).toNat = 128 + c / 4096 % 64 := by omega
        have e3 : (128 + (c : Int) / 64 % 64).toNat = 128 + c / 64 % 64 := by omega
        have e4 : (128 + (c : Int) % 64).toNat = 128 + c % 64 := by omega
        simp only [List.map_cons, List.map_nil, e1, e2, e3, e4]
attribute [local irreducible] Ld St Nw Nn Lt LdS
theorem c_eqMap (p : Int × ByteArray) {w : World} {b : Nat} {code : Int} (hb : w.cell? ⟨b, 0, none⟩ = some (.int .i64 code)) : C152 p (⟨b, 0, none⟩ : Addr) w fun r w1 => r = decide (p.1 = code) ∧ Ext (fun _ => False) w w1 := by
  refine T152 _ _ _ _ ?_
  unfold S152
  refine (Hn.start w).nw fun w3 H => ?_
  have H : Hn w w3 [(w.heap.size, mcells p, 145)] := H
  refine H.ld 0 rfl (x := p.1) rfl (Ld.mk (x := code) (H.ext.cell_same hb) ⟨?_, H.ext⟩)
  by_cases h : p.1 = code
  · subst h
    simp
  · rw [decide_eq_false h]
    exact beq_false_of_ne h
theorem c_find {w : World} {s : Slc} {l : List (Int × ByteArray)} (hV : VRow w s 2 (l.flatMap mcells)) (hl : l.length ≤ 1048576) (code : Int) : C139 s code w fun r b w1 => (match l.find? (fun x => decide (x.1 = code)) with
    | some x => r = x.2 ∧ b = true
    | none => r = ⟨#[]⟩ ∧ b = false) ∧ Ext (fun _ => False) w w1 := by
  have hlen : s.len = l.length := VRow.count mcells_len (by decide) hV
  refine T139 _ _ _ _ ?_
  unfold S139
  refine (Hn.start w).nw fun w3 H => ?_
  have H : Hn w w3 [(w.heap.size, icell code, 3)] := H
  have hb : w3.cell? ⟨w.heap.size, 0, none⟩ = some (.int .i64 code) := by rw [(H.get 0 rfl).cell]; rfl
  have hE := H.ext
  refine T151_F152 _ _ _ _ ?_
  unfold S151_F152
  refine ⟨fun m st w1 => ∃ i : Nat, st = (i : Int) ∧ i ≤ l.length ∧ m = l.length - i ∧ l.find? (fun x => decide (x.1 = code)) = (l.drop i).find? (fun x => decide (x.1 = code)) ∧ Ext (fun _ => False) w3 w1, l.length, ⟨0, rfl, Nat.zero_le _, rfl, rfl, Ext.refl _ _⟩, ?_⟩
  rintro m st w5 ⟨i, rfl, hi, rfl, hf, e5⟩
  unfold S151_F152L1
  rw [hlen]
  have E5 := hE.tr e5
  refine Br.dec (fun q => ?_) fun q => ?_
  · have hil : i < l.length := by omega
    obtain ⟨a, ha, hc⟩ := VRow.elem mcells_len (hV.keep E5) (List.getElem?_eq_getElem hil) (by decide)
    rw [List.drop_eq_getElem_cons hil, List.find?_cons] at hf
    generalize l[i] = x at *
    rw [ha]
    have b1 : (0 : Int) ≤ (i : Int) := by omega
    have b2 : (i : Int) < ((l.length : Nat) : Int) := by omega
    refine ⟨b1, b2, Nn.of (Ld.mk (x := x.1) (by rw [Int.toNat_natCast]; have := hc 0 _ rfl; simpa using this) (Ld.mk (x := x.2) (by rw [Int.toNat_natCast, add_add']; exact hc 1 _ rfl) ?_))⟩
    refine (c_eqMap x (e5.cell_same hb)).mono ?_
    rintro r w11 ⟨rfl, e11⟩
    have E11 := E5.tr e11
    by_cases h : x.1 = code
    · rw [decide_eq_true h] at hf ⊢
      refine Br.t rfl (Br.f (by rw [decide_eq_false_iff_not]; omega) ?_)
      rw [hf]
      refine ⟨b1, b2, ?_⟩
      refine Nn.of (Ld.mk (x := x.2) (by rw [Int.toNat_natCast, add_add']; exact e11.cell_same (hc 1 _ rfl)) ⟨⟨rfl, rfl⟩, E11⟩)
    · rw [decide_eq_false h] at hf ⊢
      exact Br.f rfl ⟨l.length - (i + 1), by omega, i + 1, by rw [i64_id (by omega)]; rfl, by omega, rfl, hf, e5.tr e11⟩
  · have : i = l.length := by omega
    subst this
    rw [List.drop_length] at hf
    rw [hf]
    exact Br.t (by decide) ⟨⟨rfl, rfl⟩, E5⟩
/-! ### The names of the codes -/
def bcell (l : By) : List Value := [.string ⟨l.toArray⟩]
theorem bcell_len (l : By) : (bcell l).length = 1 := rfl
theorem bmap (L : List By) : L.flatMap bcell = L.map fun l => Value.string ⟨l.toArray⟩ := by
  induction L with
  | nil => rfl
  | cons l L ih => rw [List.flatMap_cons, ih]; rfl
/-- The names while they are made: a block that holds the slice, its row. -/
structure UsI (wb w : World) (cb : Nat) (L : List By) : Prop where
  len : L.length = 256
  blk : Blk w cb #[Slc.v ⟨some ⟨wb.heap.size, 0, none⟩, 256, 256⟩] 32
  row : Row w ⟨some ⟨wb.heap.size, 0, none⟩, 256, 256⟩ 9 1 (L.flatMap bcell)
  new : wb.heap.size < cb
  ext : Ext (fun _ => False) wb w
theorem UsI.keep {wb w w' : World} {cb : Nat} {L : List By} (h : UsI wb w cb L) (he : Ext (fun _ => False) w w') : UsI wb w' cb L := ⟨h.len, he.blk h.blk id, h.row.keep he fun _ _ e => e, h.new, h.ext.tr he⟩
/-- One name is put down. -/
theorem UsI.put {wb w : World} {cb : Nat} {L : List By} (h : UsI wb w cb L) {k : Nat} (hk : k < 256) (n : By) {K : World → Prop} (kk : ∀ w', UsI wb w' cb (L.set k n) → Ext (· = wb.heap.size) w w' → K w') : St w ((⟨wb.heap.size, 0, none⟩ : Addr).add (k * 1)) (.string ⟨n.toArray⟩) K := by
  have e : L.flatMap bcell = [] ++ L.flatMap bcell := rfl
  have hr := h.row
  rw [e] at hr
  obtain ⟨g, hg, hst⟩ := row_st (v := .string ⟨n.toArray⟩) (j := k) (K := K) hr (by rw [bmap, List.length_map, h.len]; exact hk) fun w' h' e' => kk w' ⟨by rw [List.length_set]; exact h.len, e'.blk h.blk (fun ⟨a, ha, hb⟩ => by
    have ha : some (⟨wb.heap.size, 0, none⟩ : Addr) = some a := ha
    cases ha
    have := h.new
    have hb : wb.heap.size = cb := hb
    omega), by rw [bmap, List.map_set, ← bmap]; exact h', h.new, ext_new h.ext e' fun j ⟨a, ha, hb⟩ => by
    have ha : some (⟨wb.heap.size, 0, none⟩ : Addr) = some a := ha
    cases ha
    have hb : wb.heap.size = j := hb
    omega⟩ (e'.mono fun j _ ⟨a, ha, hb⟩ => by
    have ha : some (⟨wb.heap.size, 0, none⟩ : Addr) = some a := ha
    cases ha
    exact hb.symm)
  cases hg
  rw [add_lit, Nat.zero_add, Nat.mul_one]
  rw [List.length_nil, Nat.zero_add] at hst
  exact hst
theorem setAll_take : ∀ (r : List By) (l : List By) (i k : Nat) (h : k < r.length), setAll l i (r.take (k + 1)) = (setAll l i (r.take k)).set (i + k) r[k]
  | [], l, i, k, h => by simp at h
  | n :: r, l, i, 0, h => rfl
  | n :: r, l, i, k + 1, h => by
    rw [List.take_succ_cons, List.take_succ_cons]
    show setAll (l.set i n) (i + 1) (r.take (k + 1)) = (setAll (l.set i n) (i + 1) (r.take k)).set _ _
    rw [setAll_take r (l.set i n) (i + 1) k (by simpa using h), show i + 1 + k = i + (k + 1) by omega]
    rfl
theorem c_put {wb w : World} (hT : TB w) {cb : Nat} {L : List By} (h : UsI wb w cb L) {at' : Nat} {s : ByteArray} (hs : s.size < 4294967281) (ha : ∀ (j : Nat) b, s.data.toList[j]? = some b → b.toNat < 128) (hn : at' + (fields s.data.toList).length ≤ 256) :
    C153 (at' : Int) s (⟨cb, 0, none⟩ : Addr) w fun w1 => UsI wb w1 cb (setAll L at' (fields s.data.toList)) := by
  refine T153 _ _ _ _ _ ?_
  unfold S153
  refine (Tryz.strings_Fields s w hs ha hT.1).mono fun e w' hh => ?_
  obtain ⟨rfl, rfl⟩ := hh
  refine ⟨⟨some ⟨w.heap.size, 0, none⟩, (fields s.data.toList).length, (fields s.data.toList).length⟩, rfl, ?_⟩
  have hV : VRow (w.alloc (.cells ((fields s.data.toList).map fun l => Value.string ⟨l.toArray⟩).toArray 9)) ⟨some ⟨w.heap.size, 0, none⟩, (fields s.data.toList).length, (fields s.data.toList).length⟩ 1 ((fields s.data.toList).flatMap bcell) := by
    rw [bmap]
    exact VRow.of (Blk.new w _ _) (by rw [List.length_map]; omega)
  have h := h.keep ((Ext.refl (fun _ => False) w).alloc (.cells ((fields s.data.toList).map fun l => Value.string ⟨l.toArray⟩).toArray 9))
  have hp : wb.heap.size < w.heap.size := by
    have := h.blk.lt
    have h1 := h.new
    have h2 : (w.alloc (.cells ((fields s.data.toList).map fun l => Value.string ⟨l.toArray⟩).toArray 9)).heap.size = w.heap.size + 1 := by unfold World.alloc; simp
    omega
  generalize w.alloc (.cells ((fields s.data.toList).map fun l => Value.string ⟨l.toArray⟩).toArray 9) = w5 at *
  generalize fields s.data.toList = F at *
  refine ⟨fun m st w1 => ∃ i : Nat, st = (i : Int) ∧ i ≤ F.length ∧ m = F.length - i ∧ UsI wb w1 cb (setAll L at' (F.take i)) ∧ VRow w1 ⟨some ⟨w.heap.size, 0, none⟩, F.length, F.length⟩ 1 (F.flatMap bcell), F.length, ⟨0, rfl, Nat.zero_le _, rfl, h, hV⟩, ?_⟩
  clear h hV
  rintro m st w7 ⟨i, rfl, hi, rfl, h, hV⟩
  unfold S153L1
  dsimp only
  refine Br.dec (fun q => ?_) fun q => ?_
  · have hil : i < F.length := by omega
    obtain ⟨a, ha, hc⟩ := VRow.elem bcell_len hV (List.getElem?_eq_getElem hil) (by decide)
    have hst := setAll_take F L at' i hil
    generalize F[i] = n at *
    cases ha
    have ek : IntKind.i64.wrap ((at' : Int) + (i : Int)) = ((at' + i : Nat) : Int) := by rw [i64_id (by omega)]; rfl
    rw [ek]
    refine ⟨by omega, by omega, Nn.of (Ld.mk (x := (⟨n.toArray⟩ : ByteArray)) (by rw [Int.toNat_natCast]; have := hc 0 _ rfl; simpa using this) ?_)⟩
    refine Ld.of (x := (⟨some ⟨wb.heap.size, 0, none⟩, 256, 256⟩ : Slc)) h.blk rfl ⟨by omega, by show ((at' + i : Nat) : Int) < ((256 : Nat) : Int); omega, Nn.of ?_⟩
    rw [Int.toNat_natCast]
    refine UsI.put h (k := at' + i) (by omega) n fun w' h' e' => ⟨F.length - (i + 1), by omega, i + 1, by rw [i64_id (by omega)]; rfl, hil, rfl, by rw [hst]; exact h', hV.keepF e' fun j ⟨a, ha, hb⟩ e => ?_⟩
    have ha : some (⟨w.heap.size, 0, none⟩ : Addr) = some a := ha
    cases ha
    have hb : w.heap.size = j := hb
    have e : j = wb.heap.size := e
    omega
  · have : i = F.length := by omega
    subst this
    rw [List.take_length] at h
    exact h
theorem zero_names : (List.replicate 256 [Value.string ⟨#[]⟩]).flatten = (List.replicate 256 ([] : By)).flatMap bcell := by
  rw [bmap, List.map_replicate]
  rfl
theorem elStr : El Tryz.prog 32 9 1 16 (.string ByteArray.empty) := ⟨by kernel_rfl, by kernel_rfl, by kernel_rfl, by kernel_rfl, rfl⟩
theorem low0 : ∀ (j : Nat) b, (⟨signs0.toArray⟩ : ByteArray).data.toList[j]? = some b → b.toNat < 128 := fun j b h => by
  have hm : b ∈ signs0 := by simpa using List.mem_of_getElem? h
  have : signs0.all (fun b => decide (b.toNat < 128)) = true := by decide +kernel
  simpa using List.all_eq_true.1 this b hm
theorem low1 : ∀ (j : Nat) b, (⟨signs1.toArray⟩ : ByteArray).data.toList[j]? = some b → b.toNat < 128 := fun j b h => by
  have hm : b ∈ signs1 := by simpa using List.mem_of_getElem? h
  have : signs1.all (fun b => decide (b.toNat < 128)) = true := by decide +kernel
  simpa using List.all_eq_true.1 this b hm
theorem low2 : ∀ (j : Nat) b, (⟨signs2.toArray⟩ : ByteArray).data.toList[j]? = some b → b.toNat < 128 := fun j b h => by
  have hm : b ∈ signs2 := by simpa using List.mem_of_getElem? h
  have : signs2.all (fun b => decide (b.toNat < 128)) = true := by decide +kernel
  simpa using List.all_eq_true.1 this b hm
theorem num0 : (fields signs0).length = 33 := by decide +kernel
theorem num1 : (fields signs1).length = 6 := by decide +kernel
theorem num2 : (fields signs2).length = 4 := by decide +kernel
/-- string([]byte{c}). -/
theorem byte_str {w : World} {b : Nat} {x : Int} (hb : Blk w b #[.int .u8 (IntKind.u8.wrap x)] 5) : RunV Tryz.prog (convert 169 9 (Slc.v ⟨some ⟨b, 0, none⟩, 1, 1⟩)) w (.string ⟨#[ub x]⟩) w := by
  rw [← ub_val] at hb
  have h : BRow w ⟨some ⟨b, 0, none⟩, 1, 1⟩ [ub x] := ⟨rfl, .inr ⟨b, _, rfl, hb, Nat.le_refl _, rfl, rfl⟩⟩
  exact str_row h
theorem ub_small {n : Nat} (h : n < 256) : ub (n : Int) = UInt8.ofNat n := by
  unfold ub
  have : ((n : Int) % 256).toNat = n := by omega
  rw [this]
theorem usual_chain {wb w : World} (hT : TB w) {cb : Nat} {L : List By} (h : UsI wb w cb L) {at' : Nat} {sg : By} {k : Nat} (hk : (fields sg).length = k) (hs : sg.length < 4294967281) (ha : ∀ (j : Nat) b, (⟨sg.toArray⟩ : ByteArray).data.toList[j]? = some b → b.toNat < 128) (hn : at' + k ≤ 256) {K : World → Prop} (kk : ∀ w1, UsI wb w1 cb (setAll L at' (fields sg)) → K w1) :
    C153 (at' : Int) ⟨sg.toArray⟩ (⟨cb, 0, none⟩ : Addr) w K := by
  have e : (⟨sg.toArray⟩ : ByteArray).data.toList = sg := by simp
  refine (c_put (s := ⟨sg.toArray⟩) (at' := at') hT h (by show sg.toArray.size < _; rw [List.size_toArray]; exact hs) ha (by rw [e, hk]; exact hn)).mono fun w1 h1 => kk w1 ?_
  rw [e] at h1
  exact h1
theorem c_usual {w : World} (hT : TB w) : C140 w fun r w1 => VRow w1 r 1 (usualB.flatMap bcell) ∧ Ext (fun _ => False) w w1 := by
  refine T140 _ _ ?_
  unfold S140
  obtain ⟨w2, hrun, hw2⟩ := elStr.make (zs := [Value.string ⟨#[]⟩]) rfl w 256 (by decide) (by decide)
  refine ⟨_, w2, hrun, ?_⟩
  have e2 : Ext (fun _ => False) w w2 := by rw [hw2]; exact (Ext.refl _ w).alloc _
  have hrow : Row w2 ⟨some ⟨w.heap.size, 0, none⟩, 256, 256⟩ 9 1 ((List.replicate 256 ([] : By)).flatMap bcell) := by
    rw [hw2, ← zero_names]
    have := Row.new w ((List.replicate 256 [Value.string ⟨#[]⟩]).flatten).toArray 9 1 256 (by simp)
    rw [List.toList_toArray] at this
    exact this
  have hsz : w2.heap.size = w.heap.size + 1 := by rw [hw2]; unfold World.alloc; simp
  clear hw2 hrun
  refine (Hn.start w2).nw fun w3 H => ?_
  have H : Hn w2 w3 [(w2.heap.size, [Slc.v ⟨none, 0, 0⟩], 32)] := H
  refine H.st 0 rfl (of_decide_eq_true rfl) fun w4 H => ?_
  have H : Hn w2 w4 [(w2.heap.size, [Slc.v ⟨some ⟨w.heap.size, 0, none⟩, 256, 256⟩], 32)] := H
  have U0 : UsI w w4 w2.heap.size (List.replicate 256 []) := ⟨by simp, H.get 0 rfl, hrow.keep H.ext fun _ _ e => e, by omega, e2.tr H.ext⟩
  refine usual_chain (at' := 32) (sg := signs0) (hT.keep U0.ext) U0 num0 (by decide +kernel) low0 (by decide) fun w5 U5 => ?_
  refine ⟨fun m st w1 => ∃ i : Nat, st = (i : Int) ∧ i ≤ 26 ∧ m = 26 - i ∧ UsI w w1 w2.heap.size (letters i (setAll (List.replicate 256 []) 32 (fields signs0))), 26, ⟨0, rfl, Nat.zero_le _, rfl, U5⟩, ?_⟩
  rintro m st w22 ⟨i, rfl, hi, rfl, U⟩
  unfold S140L1
  refine Br.dec (fun q => ?_) fun q => ?_
  · have hi2 : i < 26 := by omega
    have k1 : IntKind.i64.wrap (65 + (i : Int)) = ((65 + i : Nat) : Int) := by rw [i64_id (by omega)]; rfl
    have k2 : IntKind.i64.wrap (97 + (i : Int)) = ((97 + i : Nat) : Int) := by rw [i64_id (by omega)]; rfl
    rw [k1, k2]
    refine Ld.of (x := (⟨some ⟨w.heap.size, 0, none⟩, 256, 256⟩ : Slc)) U.blk rfl (Nw.of ⟨_, _, byte_str (Blk.new _ _ _), by omega, by show ((65 + i : Nat) : Int) < ((256 : Nat) : Int); omega, Nn.of ?_⟩)
    have U2 := U.keep ((Ext.refl (fun _ => False) w22).alloc (.cells #[.int .u8 (IntKind.u8.wrap ((65 + i : Nat) : Int))] 5))
    rw [Int.toNat_natCast]
    refine UsI.put U2 (k := 65 + i) (by omega) [ub ((65 + i : Nat) : Int)] fun w29 U3 _ => ?_
    refine Ld.of (x := (⟨some ⟨w.heap.size, 0, none⟩, 256, 256⟩ : Slc)) U3.blk rfl (Nw.of ⟨_, _, byte_str (Blk.new _ _ _), by omega, by show ((97 + i : Nat) : Int) < ((256 : Nat) : Int); omega, Nn.of ?_⟩)
    have U4 := U3.keep ((Ext.refl (fun _ => False) w29).alloc (.cells #[.int .u8 (IntKind.u8.wrap ((97 + i : Nat) : Int))] 5))
    rw [Int.toNat_natCast]
    refine UsI.put U4 (k := 97 + i) (by omega) [ub ((97 + i : Nat) : Int)] fun w35 U5 _ => ?_
    refine ⟨26 - (i + 1), by omega, i + 1, by rw [i64_id (by omega)]; rfl, by omega, rfl, ?_⟩
    rw [ub_small (by omega), ub_small (by omega)] at U5
    exact U5
  · have : i = 26 := by omega
    subst this
    refine usual_chain (at' := 91) (sg := signs1) (hT.keep U.ext) U num1 (by decide +kernel) low1 (by decide) fun w36 U6 => ?_
    refine usual_chain (at' := 123) (sg := signs2) (hT.keep U6.ext) U6 num2 (by decide +kernel) low2 (by decide) fun w37 U7 => ?_
    exact Ld.of (x := (⟨some ⟨w.heap.size, 0, none⟩, 256, 256⟩ : Slc)) U7.blk rfl ⟨Row.view U7.row, U7.ext⟩
end Fo
end Go.Proofs.YtcblpehnkogfdaaGreatDoor
/- Fonts: the text of a name, of a code. Conditions: sizes, the laid tables. -/
namespace Go.Proofs.YtcblpehnkogfdaaGreatDoor
namespace Fo
open Sh Go.Lib
set_option linter.unusedVariables false
set_option linter.unusedSimpArgs false
set_option maxRecDepth 4000
set_option maxHeartbeats 2000000
attribute [local irreducible] Ld St Nw Nn Lt LdS
theorem bl_size (s : ByteArray) : s.size = (bl s).length := (Array.length_toList (xs := s.data)).symm
theorem bl_ext (s : ByteArray) (a b : Nat) : bl (s.extract a b) = ((bl s).drop a).take (b - a) := extract_list s a b
theorem c_prefix (s p : ByteArray) (w : World) : C162 s p w fun r w1 => r = decide ((bl s).take p.size = bl p) ∧ w1 = w := by
  refine T162 _ _ _ _ ?_
  unfold S162
  have h1 := bl_size s
  have h2 := bl_size p
  refine Br.dec (fun q => ⟨by omega, by omega, ?_, rfl⟩) fun q => ⟨?_, rfl⟩
  · have e := bl_ext s 0 p.size
    rw [Int.toNat_natCast, eqL]
    rw [show (s.extract 0 p.size).data.toList = bl (s.extract 0 p.size) from rfl, e, List.drop_zero, Nat.sub_zero]
    rfl
  · refine (decide_eq_false fun e => ?_).symm
    have := congrArg List.length e
    rw [List.length_take] at this
    omega
theorem c_cutp (s p : ByteArray) (w : World) : C159 s p w fun r b w1 => (if (bl s).take p.size = bl p then bl r = (bl s).drop p.size ∧ b = true else r = s ∧ b = false) ∧ w1 = w := by
  refine T159 _ _ _ _ ?_
  unfold S159
  refine T161 _ _ _ _ ?_
  unfold S161
  refine (c_prefix s p w).mono ?_
  rintro r w1 ⟨rfl, rfl⟩
  by_cases h : (bl s).take p.size = bl p
  · rw [decide_eq_true h]
    simp only [if_pos h]
    have h1 := bl_size s
    have h2 := bl_size p
    have h3 := congrArg List.length h
    rw [List.length_take] at h3
    refine Br.f rfl ⟨by omega, by omega, ⟨?_, by simp⟩, by simp⟩
    rw [Int.toNat_natCast, bl_ext, List.take_of_length_le (by rw [List.length_drop]; omega)]
  · rw [decide_eq_false h]
    simp only [if_neg h]
    exact Br.t rfl (by simp)
theorem c_digit (b : UInt8) (w : World) : C160 ((b.toNat : Nat) : Int) w fun r w1 => (b.toNat < 97 → (match hexU b with
    | some d => r = (d : Int) ∧ d < 16
    | none => r = -1)) ∧ w1 = w := by
  refine T160 _ _ _ ?_
  unfold S160
  have hb := b.toNat_lt
  unfold hexU
  generalize b.toNat = n at *
  have u8 : ∀ z : Int, 0 ≤ z → z < 256 → IntKind.u8.wrap z = z := fun z h1 h2 => by rw [u8_wrap]; omega
  refine Br.dec (fun h1 => Br.dec (fun h2 => ⟨fun _ => ?_, rfl⟩) fun h2 => ?_) fun h1 => ?_
  · rw [if_pos (by omega), u8 _ (by omega) (by omega), i64_id (by omega)]
    exact ⟨by omega, by omega⟩
  all_goals refine Br.dec (fun h3 => Br.dec (fun h4 => ⟨fun _ => ?_, rfl⟩) fun h4 => ?_) fun h3 => ?_
  all_goals try (rw [if_neg (by omega), if_pos (by omega), u8 _ (by omega) (by omega), i64_id (n := (n : Int) - 65) (by omega), i64_id (by omega)]; exact ⟨by omega, by omega⟩)
  all_goals refine Br.dec (fun h5 => Br.dec (fun h6 => ⟨fun hlt => absurd hlt (by omega), rfl⟩) fun h6 => ?_) fun h5 => ?_
  all_goals exact ⟨fun _ => (by rw [if_neg (by omega), if_neg (by omega)]), rfl⟩
theorem runes_one (n : Int) : runesBytes [n] = Utf8.encode n := by
  unfold runesBytes
  simp
theorem c_uni {n : ByteArray} (hn : n.size ≤ 1048576) (w : World) : C154 n w fun r w1 => r = ⟨(uniF (bl n)).toArray⟩ ∧ Ext (fun _ => False) w w1 := by
  refine T154 _ _ _ ?_
  unfold S154
  have hbn := bl_size n
  have hp : bl (⟨#[117, 110, 105]⟩ : ByteArray) = [117, 110, 105] := rfl
  have hps : (⟨#[117, 110, 105]⟩ : ByteArray).size = 3 := rfl
  refine (c_cutp n ⟨#[117, 110, 105]⟩ w).mono ?_
  rintro r b w4 ⟨hr, rfl⟩
  rw [hp, hps] at hr
  unfold uniF
  by_cases h3 : (bl n).take 3 = [117, 110, 105]
  · rw [if_pos h3] at hr
    obtain ⟨hr, rfl⟩ := hr
    have hrs := bl_size r
    rw [hr, List.length_drop] at hrs
    have h3l := congrArg List.length h3
    rw [List.length_take] at h3l
    have h3l : min 3 (bl n).length = 3 := h3l
    refine Br.f rfl (Br.ne (fun h4 => ⟨by rw [if_neg (by rintro ⟨_, h⟩; omega)], Ext.refl _ _⟩) fun h4 => ?_)
    have h7 : (bl n).length = 7 := by omega
    rw [if_pos ⟨h3, h7⟩]
    have hl4 : (bl r).length = 4 := by rw [hr, List.length_drop]; omega
    rw [← hr]
    refine ⟨fun m st w1 => ∃ (i k : Nat), st = ((k : Int), (i : Int)) ∧ i ≤ 4 ∧ m = 4 - i ∧ k < 16 ^ i ∧ hexs (bl r) 0 = hexs ((bl r).drop i) k ∧ w1 = w4, 4, ⟨0, 0, rfl, by omega, rfl, by decide, rfl, rfl⟩, ?_⟩
    rintro m st w11 ⟨i, k, rfl, hi, rfl, hk, hh, rfl⟩
    unfold S154L1
    dsimp only
    have hk4 : k < 65536 := Nat.lt_of_lt_of_le hk (Nat.pow_le_pow_right (by decide) hi)
    refine Br.dec (fun q => ?_) fun q => ?_
    · have hil : i < (bl r).length := by omega
      have hbt := bAt_list r i
      have hbb : (bl r).getD i 0 = (bl r)[i] := by rw [List.getD_eq_getElem?_getD, List.getElem?_eq_getElem hil]; rfl
      have hb1 : bAt r (i : Int) = ((bl r)[i].toNat : Int) := by rw [hbt]; exact congrArg (fun b : UInt8 => ((b.toNat : Nat) : Int)) hbb
      rw [List.drop_eq_getElem_cons hil] at hh
      rw [hb1]
      generalize (bl r)[i] = b at *
      have hcons : hexs (b :: (bl r).drop (i + 1)) k = (match hexU b with
        | some d => hexs ((bl r).drop (i + 1)) (16 * k + d)
        | none => none) := rfl
      rw [hcons] at hh
      have b1 : (0 : Int) ≤ (i : Int) := by omega
      have b2 : (i : Int) < ((r.size : Nat) : Int) := by omega
      refine ⟨b1, b2, (c_digit b w11).mono ?_⟩
      rintro rd w14 ⟨hd, rfl⟩
      by_cases hlow : b.toNat < 97
      · have hd := hd hlow
        cases hx : hexU b with
        | none =>
          rw [hx] at hd hh
          subst hd
          refine Br.t (by decide) ⟨?_, Ext.refl _ _⟩
          rw [hh]
        | some d =>
          rw [hx] at hd hh
          obtain ⟨rfl, hd16⟩ := hd
          refine Br.f (by rw [decide_eq_false_iff_not]; omega) ⟨b1, b2, Br.f (by rw [decide_eq_false_iff_not]; omega) ?_⟩
          refine ⟨4 - (i + 1), by omega, i + 1, 16 * k + d, ?_, by omega, rfl, ?_, hh, rfl⟩
          · have e1 : IntKind.i64.wrap ((k : Int) * 2 ^ 4) = ((k * 2 ^ 4 : Nat) : Int) := by rw [i64_id (by omega)]; omega
            rw [e1, ior_add (by omega) (by omega) (by omega), i64_id (by omega)]
            refine Prod.ext ?_ rfl
            show ((k * 2 ^ 4 + d : Nat) : Int) = ((16 * k + d : Nat) : Int)
            omega
          · rw [Nat.pow_succ]
            omega
      · have hx : hexU b = none := by
          unfold hexU
          rw [if_neg (by omega), if_neg (by omega)]
        rw [hx] at hh
        refine Br.dec (fun _ => ⟨by rw [hh], Ext.refl _ _⟩) fun _ => ⟨b1, b2, Br.t (by rw [decide_eq_true_eq]; omega) ⟨by rw [hh], Ext.refl _ _⟩⟩
    · have : i = (bl r).length := by omega
      subst this
      rw [List.drop_length] at hh
      have hh : hexs (bl r) 0 = some k := hh
      rw [hh]
      dsimp only
      have fin : ¬ (k = 0 ∨ (55296 ≤ k ∧ k ≤ 57343)) → ∀ w1 : World, Ext (fun _ => False) w11 w1 → Nw w1 (.cells #[.int .i32 (IntKind.i32.wrap (k : Int))] 21) fun vw15 =>
          Rn Tryz.prog (convert 182 9 (Slc.v ((⟨some ⟨w1.heap.size, 0, none⟩, 1, 1⟩ : Slc)))) vw15 Value.string fun (x16 : ByteArray) vw17 => x16 = ⟨(if k = 0 ∨ (55296 ≤ k ∧ k ≤ 57343) then [] else encodeRune (k : Int)).toArray⟩ ∧ Ext (fun _ => False) w11 vw17 := fun hno w1 E1 => by
        have hwr : IntKind.i32.wrap (k : Int) = (k : Int) := IntWalk.i32_in _ ⟨by omega, by omega⟩
        rw [hwr, if_neg hno]
        refine Nw.of ?_
        have hb := Blk.new w1 #[.int .i32 (k : Int)] 21
        have hrun := run_convert_runes (P := Tryz.prog) (w1.alloc (.cells #[.int .i32 (k : Int)] 21)) 182 9 21 ⟨w1.heap.size, 0, none⟩ 1 1 [(k : Int)] (Nat.le_refl 1) (by kernel_rfl) (by kernel_rfl) (by kernel_rfl) fun j hj => by
          have : j = 0 := by simpa using hj
          subst this
          rw [add_lit, hb.cell]
          rfl
        have e : ([(k : Int)] : List Int).take 1 = [(k : Int)] := rfl
        rw [e, runes_one, enc_eq (by omega)] at hrun
        exact ⟨_, _, hrun, rfl, E1.alloc _⟩
      refine Br.eq (fun h0 => ⟨by rw [if_pos (.inl (by omega))], Ext.refl _ _⟩) fun h0 => ?_
      refine Br.dec (fun h1 => Br.dec (fun h2 => ⟨by rw [if_pos (.inr (by omega))], Ext.refl _ _⟩) fun h2 => ?_) fun h1 => ?_
      · exact fin (by omega) w11 (Ext.refl _ _)
      · exact fin (by omega) w11 (Ext.refl _ _)
  · rw [if_neg h3] at hr
    obtain ⟨rfl, rfl⟩ := hr
    rw [if_neg (fun h => h3 h.1)]
    exact Br.t rfl ⟨rfl, Ext.refl _ _⟩
theorem c_sign {w : World} (hT : TB w) {n : ByteArray} (hn : n.size ≤ 1048576) : C141 n w fun r w1 => r = ⟨(signF (bl n)).toArray⟩ ∧ Ext (fun _ => False) w w1 := by
  refine T141 _ _ _ ?_
  unfold S141 signF
  rw [eqL]
  refine Br.dec (fun h0 => ⟨by rw [if_pos (show bl n = [] from h0)], Ext.refl _ _⟩) fun h0 => ?_
  rw [if_neg (show ¬ bl n = [] from h0)]
  refine (c_usual hT).mono ?_
  rintro r2 w3 ⟨hV, e3⟩
  have hlen : r2.len = usualB.length := VRow.count bcell_len (by decide) hV
  have h256 := usualB_len
  generalize usualB = U at *
  refine ⟨fun m st w1 => ∃ i : Nat, st = (i : Int) ∧ i ≤ U.length ∧ m = U.length - i ∧ (∀ (j : Nat) (u : By), j < i → U[j]? = some u → u ≠ bl n) ∧ w1 = w3, U.length, ⟨0, rfl, Nat.zero_le _, rfl, fun j u h => absurd h (Nat.not_lt_zero _), rfl⟩, ?_⟩
  rintro m st w5 ⟨i, rfl, hi, rfl, hno, rfl⟩
  unfold S141L1
  rw [hlen]
  refine Br.dec (fun q => ?_) fun q => ?_
  · have hil : i < U.length := by omega
    have gu : U[i]? = some U[i] := List.getElem?_eq_getElem hil
    obtain ⟨a, ha, hc⟩ := VRow.elem bcell_len hV gu (by decide)
    have hfi : U[i] = bl n → U.findIdx? (fun m => decide (m = bl n)) = some i := fun he => by
      rw [List.findIdx?_eq_some_iff_getElem]
      refine ⟨hil, by rw [he]; simp, fun j hj => ?_⟩
      have := hno j U[j] hj (List.getElem?_eq_getElem (by omega))
      simp [this]
    generalize U[i] = u at *
    rw [ha]
    refine ⟨by omega, by omega, Nn.of (Ld.mk (x := (⟨u.toArray⟩ : ByteArray)) (by rw [Int.toNat_natCast]; have := hc 0 _ rfl; simpa using this) ?_)⟩
    have hu : (⟨u.toArray⟩ : ByteArray).data.toList = u := by simp
    rw [eqL, hu]
    refine Br.dec (fun h1 => ?_) fun h1 => ?_
    · rw [hfi h1]
      refine Nw.of ⟨_, _, byte_str (Blk.new _ _ _), ?_, e3.alloc _⟩
      rw [ub_small (by omega)]
    · refine ⟨U.length - (i + 1), by omega, i + 1, by rw [i64_id (by omega)]; rfl, by omega, rfl, fun j v hj hv => ?_, rfl⟩
      by_cases e : j = i
      · subst e
        rw [gu] at hv
        cases hv
        exact h1
      · exact hno j v (by omega) hv
  · have hnone : U.findIdx? (fun m => decide (m = bl n)) = none := by
      rw [List.findIdx?_eq_none_iff]
      intro u hu
      obtain ⟨j, hj⟩ := List.mem_iff_getElem?.1 hu
      have hlt := (List.getElem?_eq_some_iff.1 hj).1
      have := hno j u (by omega) hj
      simp [this]
    rw [hnone]
    refine (c_uni hn w5).mono ?_
    rintro r w13 ⟨rfl, e13⟩
    exact ⟨rfl, e3.tr e13⟩
theorem c_say {w : World} {x : FT} {f : Font} (hT : TB w) (h : FoV w x f) (code : Int) : C120 x code w fun r w1 => r = ⟨(sayF f code).toArray⟩ ∧ Ext (fun _ => False) w w1 := by
  refine T120 _ _ _ _ ?_
  unfold S120
  refine Nw.of ?_
  have H := fo_blk w x
  have hE := H.ext
  have hn := h.nlen
  generalize w.alloc (.cells (Sig.cells LiA34 x).toArray 35) = wd at *
  refine H.ld 0 rfl (x := x.2.2.2.2.2.2) rfl ?_
  refine (c_find (h.keep hE).maps h.lm code).mono ?_
  rintro r9 b10 w11 ⟨hf, e11⟩
  have H := H.keep e11
  have E11 := hE.tr e11
  unfold sayF
  cases hfi : f.maps.find? (fun x => decide (x.1 = code)) with
  | some p =>
    rw [hfi] at hf
    obtain ⟨rfl, rfl⟩ := hf
    exact Br.t rfl ⟨ba_ext (by simp [bl]), E11⟩
  | none =>
    rw [hfi] at hf
    obtain ⟨rfl, rfl⟩ := hf
    refine Br.f rfl (H.ld 0 rfl (x := x.2.2.2.2.2.1) rfl ?_)
    rw [hn]
    refine Br.eq (fun h0 => ?_) fun h0 => ?_
    · have hnil : f.names = [] := List.length_eq_zero_iff.1 (by omega)
      rw [if_pos hnil]
      refine (c_usual (hT.keep E11)).mono ?_
      rintro r15 w16 ⟨hV, e16⟩
      have H := H.keep e16
      have E16 := E11.tr e16
      have hlen : r15.len = usualB.length := VRow.count bcell_len (by decide) hV
      have hub := usualB_len
      refine H.ld 0 rfl (x := x.2.1) rfl ?_
      rw [h.wide, hlen]
      cases hw : f.wide with
      | true => exact Br.t rfl ⟨by rw [if_pos (.inl rfl)], E16⟩
      | false =>
        refine Br.f rfl (Br.dec (fun h1 => ⟨by rw [if_pos (.inr (.inl h1))], E16⟩) fun h1 => Br.dec (fun h2 => ⟨by rw [if_pos (.inr (.inr (by omega)))], E16⟩) fun h2 => ?_)
        have hil : code.toNat < usualB.length := by omega
        have hgd : usualB.getD code.toNat [] = usualB[code.toNat] := by rw [List.getD_eq_getElem?_getD, List.getElem?_eq_getElem hil]; rfl
        obtain ⟨a, ha, hc⟩ := VRow.elem bcell_len hV (List.getElem?_eq_getElem hil) (by decide)
        have hul : usualB.all (fun u => decide (u.length ≤ 1048576)) = true := by decide +kernel
        have hu1 := List.all_eq_true.1 hul _ (List.getElem_mem hil)
        rw [if_neg (by rintro (h | h | h); cases h; omega; omega), hgd]
        generalize usualB[code.toNat] = u at *
        have hu1 : u.length ≤ 1048576 := by simpa using hu1
        rw [ha]
        refine ⟨by omega, by omega, Nn.of (Ld.mk (x := (⟨u.toArray⟩ : ByteArray)) (by have := hc 0 _ rfl; simpa using this) ?_)⟩
        refine (c_sign (hT.keep E16) (n := ⟨u.toArray⟩) (by show u.toArray.size ≤ _; rw [List.size_toArray]; exact hu1)).mono ?_
        rintro r w22 ⟨rfl, e22⟩
        exact ⟨by simp [bl], E16.tr e22⟩
    · have hne : f.names ≠ [] := fun e => h0 (by rw [e]; rfl)
      rw [if_neg hne]
      refine H.ld 0 rfl (x := x.2.1) rfl ?_
      rw [h.wide]
      have hlm : (f.names.map bl).length = f.names.length := List.length_map ..
      cases hw : f.wide with
      | true => exact Br.t rfl ⟨by rw [if_pos (.inl rfl)], E11⟩
      | false =>
        refine Br.f rfl (Br.dec (fun h1 => ⟨by rw [if_pos (.inr (.inl h1))], E11⟩) fun h1 => Br.dec (fun h2 => ⟨by rw [if_pos (.inr (.inr (by omega)))], E11⟩) fun h2 => ?_)
        have hil : code.toNat < f.names.length := by omega
        have hgd : (f.names.map bl).getD code.toNat [] = bl f.names[code.toNat] := by rw [List.getD_eq_getElem?_getD, List.getElem?_map, List.getElem?_eq_getElem hil]; rfl
        obtain ⟨a, ha, hc⟩ := VRow.elem scell_len (h.keep E11).names (List.getElem?_eq_getElem hil) (by decide)
        have hu1 := h.szs _ (List.getElem_mem hil)
        rw [if_neg (by rintro (h | h | h); cases h; omega; omega), hgd]
        generalize f.names[code.toNat] = u at *
        rw [ha]
        refine ⟨by omega, by omega, Nn.of (Ld.mk (x := u) (by have := hc 0 _ rfl; simpa using this) ?_)⟩
        refine (c_sign (hT.keep E11) hu1).mono ?_
        rintro r w22 ⟨rfl, e22⟩
        exact ⟨rfl, E11.tr e22⟩
end Fo
end Go.Proofs.YtcblpehnkogfdaaGreatDoor
