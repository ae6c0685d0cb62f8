/- Maps from strings in memory: made, looked up, written. Conditions: sizes. -/
import Derived.Test.YtjkoafjnmkchdaaGreatDoorQIZe2
import Derived.StringKeys
import Derived.MapKept
import Derived.Test.YtjkoafjnmkchdaaGreatDoorQIZe6
import Derived.Test.YtjkoafjnmkchdaaGreatDoorQIZe4
import Derived.Test.YtjkoafjnmkchdaaGreatDoorQIZe3
namespace Go.Proofs.YtjkoafjnmkchdaaGreatDoor
namespace Sh
open Go.WideMaps Go.WideShapes
set_option linter.unusedVariables false
set_option linter.unusedSimpArgs false
/-- What a map holds: keys and values, in the order of their making. -/
abbrev MpL : Type := List (ByteArray × Value)
def MpE (E : List MapEntry) (L : MpL) : Prop := E.map (fun e => (e.key, e.val)) = L.map fun p => ((.string p.1 : Value), p.2)
/-- Block b is a map. -/
structure MpB (w : World) (b : Nat) (L : MpL) : Prop where
  blk : ∃ (E : Array MapEntry) (clock : Nat), w.heap[b]? = some (.map E clock) ∧ MpE E.toList L
  one : (L.map (·.1)).Nodup
  few : ∀ p ∈ L, p.1.size ≤ maxLen
def mget : MpL → ByteArray → Option Value
  | [], _ => none
  | p :: L, k => if p.1 = k then some p.2 else mget L k
def mput : MpL → ByteArray → Value → MpL
  | [], k, v => [(k, v)]
  | p :: L, k, v => if p.1 = k then (k, v) :: L else p :: mput L k v
theorem mget_put (L : MpL) (k : ByteArray) (v : Value) (j : ByteArray) : mget (mput L k v) j = if j = k then some v else mget L j := by
  induction L with
  | nil =>
    show (if k = j then some v else none) = _
    by_cases h : j = k
    · rw [if_pos h, if_pos h.symm]
    · rw [if_neg h, if_neg (fun e => h e.symm)]
      rfl
  | cons p L ih =>
    unfold mput
    by_cases hp : p.1 = k
    · rw [if_pos hp]
      show (if k = j then some v else mget L j) = if j = k then some v else (if p.1 = j then some p.2 else mget L j)
      by_cases h : j = k
      · rw [if_pos h, if_pos h.symm]
      · rw [if_neg h, if_neg (fun e => h e.symm), if_neg (fun e => h (e.symm.trans hp))]
    · rw [if_neg hp]
      show (if p.1 = j then some p.2 else mget (mput L k v) j) = if j = k then some v else (if p.1 = j then some p.2 else mget L j)
      by_cases h1 : p.1 = j
      · rw [if_pos h1, if_pos h1, if_neg (fun e => hp (h1.trans e))]
      · rw [if_neg h1, if_neg h1, ih]
theorem mget_none {L : MpL} {k : ByteArray} (h : k ∉ L.map (·.1)) : mget L k = none := by
  induction L with
  | nil => rfl
  | cons p L ih =>
    rw [List.map_cons] at h
    unfold mget
    rw [if_neg (fun e => h (by rw [e]; exact List.mem_cons_self ..))]
    exact ih fun hm => h (List.mem_cons_of_mem _ hm)
section
variable {P : Program} {w : World} {t k e : TypeId} {b : Nat} {L : MpL} {z : Value}
theorem MpB.keepF {F : Nat → Prop} {w' : World} (h : MpB w b L) (he : Ext F w w') (hb : ¬ F b) : MpB w' b L := by
  obtain ⟨E, c, h1, h2⟩ := h.blk
  exact ⟨⟨E, c, by rw [he.block b (Array.getElem?_eq_some_iff.1 h1).1 hb]; exact h1, h2⟩, h.one, h.few⟩
theorem MpB.keep {w' : World} (h : MpB w b L) (he : Ext (fun _ => False) w w') : MpB w' b L := h.keepF he id
theorem MpB.lt (h : MpB w b L) : b < w.heap.size := by
  obtain ⟨E, c, h1, h2⟩ := h.blk
  exact (Array.getElem?_eq_some_iff.1 h1).1
theorem MpB.new (w : World) : MpB (w.alloc (.map #[] 0)) w.heap.size [] := ⟨⟨#[], 0, by show (w.heap.push _)[w.heap.size]? = _; simp, rfl⟩, List.nodup_nil, fun p hp => by cases hp⟩
theorem mput_keys (L : MpL) (k : ByteArray) (v : Value) : (k ∈ L.map (·.1) ∧ (mput L k v).map (·.1) = L.map (·.1)) ∨ (k ∉ L.map (·.1) ∧ mput L k v = L ++ [(k, v)]) := by
  induction L with
  | nil => exact .inr ⟨by simp, rfl⟩
  | cons p L ih =>
    unfold mput
    by_cases hp : p.1 = k
    · rw [if_pos hp]
      exact .inl ⟨by rw [List.map_cons, hp]; exact List.mem_cons_self .., by rw [List.map_cons, List.map_cons, hp]⟩
    · rw [if_neg hp]
      rcases ih with ⟨h1, h2⟩ | ⟨h1, h2⟩
      · exact .inl ⟨List.mem_cons_of_mem _ h1, by rw [List.map_cons, List.map_cons, h2]⟩
      · exact .inr ⟨fun h => by
          rw [List.map_cons] at h
          rcases List.mem_cons.1 h with h | h
          · exact hp h.symm
          · exact h1 h, by rw [h2]; rfl⟩
theorem mput_nodup {L : MpL} (h : (L.map (·.1)).Nodup) (k : ByteArray) (v : Value) : ((mput L k v).map (·.1)).Nodup := by
  rcases mput_keys L k v with ⟨_, h2⟩ | ⟨h1, h2⟩
  · rw [h2]; exact h
  · rw [h2, List.map_append]
    exact List.nodup_append.2 ⟨h, by simp, fun a ha c hc e => h1 (by rw [List.map_cons, List.map_nil, List.mem_singleton] at hc; rw [← show c = k from hc, ← e]; exact ha)⟩
theorem mput_few {L : MpL} {k : ByteArray} {v : Value} (h : ∀ p ∈ L, p.1.size ≤ maxLen) (hk : k.size ≤ maxLen) : ∀ p ∈ mput L k v, p.1.size ≤ maxLen := by
  induction L with
  | nil => intro p hp; rw [List.mem_singleton.1 hp]; exact hk
  | cons q L ih =>
    intro p hp
    unfold mput at hp
    split at hp
    · rcases List.mem_cons.1 hp with rfl | hp
      · exact hk
      · exact h p (List.mem_cons_of_mem _ hp)
    · rcases List.mem_cons.1 hp with rfl | hp
      · exact h p (List.mem_cons_self ..)
      · exact ih (fun p hp => h p (List.mem_cons_of_mem _ hp)) p hp
theorem at_key {L : MpL} (h : (L.map (·.1)).Nodup) {j : Nat} {k : ByteArray} {x : Value} (hj : L[j]? = some (k, x)) : mget L k = some x ∧ ∀ v, mput L k v = L.set j (k, v) := by
  induction L generalizing j with
  | nil => cases hj
  | cons p L ih =>
    cases j with
    | zero =>
      cases hj
      exact ⟨by unfold mget; rw [if_pos rfl], fun v => by unfold mput; rw [if_pos rfl]; rfl⟩
    | succ j =>
      have hj : L[j]? = some (k, x) := by simpa using hj
      rw [List.map_cons, List.nodup_cons] at h
      have hne : ¬ p.1 = k := fun e => h.1 (by rw [e]; exact List.mem_map.2 ⟨_, List.mem_of_getElem? hj, rfl⟩)
      obtain ⟨h1, h2⟩ := ih h.2 hj
      refine ⟨?_, fun v => ?_⟩
      · unfold mget
        rw [if_neg hne]
        exact h1
      · unfold mput
        rw [if_neg hne, h2]
        rfl
theorem MpE.get {E : List MapEntry} (h : MpE E L) {i : Nat} {x : MapEntry} (hi : E[i]? = some x) : ∃ p, L[i]? = some p ∧ x.key = .string p.1 ∧ x.val = p.2 := by
  have h1 : (E.map fun e => (e.key, e.val))[i]? = some (x.key, x.val) := by rw [List.getElem?_map, hi]; rfl
  rw [h, List.getElem?_map] at h1
  obtain ⟨p, hp, h2⟩ := Option.map_eq_some_iff.1 h1
  exact ⟨p, hp, (congrArg Prod.fst h2).symm, (congrArg Prod.snd h2).symm⟩
theorem MpE.keys {E : List MapEntry} (h : MpE E L) (hk : P.underlying k = some .string) (hs : ∀ p ∈ L, p.1.size ≤ maxLen) : ∀ x ∈ E, ∃ l, keyOf P k x.key = some l := fun x hx => by
  obtain ⟨i, hi⟩ := List.getElem?_of_mem hx
  obtain ⟨p, hp, h1, _⟩ := h.get hi
  exact ⟨_, by rw [h1]; exact keyOf_string_mk hk (hs p (List.mem_of_getElem? hp))⟩
/-- What the search for a key finds. -/
theorem mp_find {E : List MapEntry} (h : MpE E L) (hn : (L.map (·.1)).Nodup) (hk : P.underlying k = some .string) (hs : ∀ p ∈ L, p.1.size ≤ maxLen) {key : ByteArray} (hks : key.size ≤ maxLen) (w : World) :
    ((Instr.findKey k (.string key) E).run P w = .ok none w ∧ mget L key = none ∧ key ∉ L.map (·.1)) ∨ ∃ j x, (Instr.findKey k (.string key) E).run P w = .ok (some (j, x)) w ∧ L[j]? = some (key, x) ∧ (E[j]?).map (·.key) = some (.string key) := by
  rcases (string_law hk).find w (keyOf_string_mk hk hks) E (h.keys hk hs) with ⟨h1, h2⟩ | ⟨j, x, h1, h2, h3⟩
  · have no : key ∉ L.map (·.1) := fun hm => by
      obtain ⟨p, hp, e⟩ := List.mem_map.1 hm
      obtain ⟨i, hi⟩ := List.getElem?_of_mem hp
      have hl : (E.map fun e => (e.key, e.val))[i]? = some ((.string p.1 : Value), p.2) := by rw [h, List.getElem?_map, hi]; rfl
      rw [List.getElem?_map] at hl
      obtain ⟨x, hx, h4⟩ := Option.map_eq_some_iff.1 hl
      refine h2 x (List.mem_of_getElem? hx) ?_
      exact (congrArg Prod.fst h4).trans (by rw [e])
    exact .inl ⟨h1, mget_none no, no⟩
  · obtain ⟨p, hp, h4, h5⟩ := h.get h2
    have hp1 : p.1 = key := by
      rw [h3] at h4
      exact (Value.string.inj h4).symm
    exact .inr ⟨j, x.val, h1, by rw [hp, h5, ← hp1], by rw [h2]; exact congrArg some h3⟩
theorem MpB.look (h : MpB w b L) (ht : P.underlying t = some (.map k e)) (hk : P.underlying k = some .string) (hz : (zeroValue e).run P w = .ok z w) {key : ByteArray} (hks : key.size ≤ maxLen) :
    RunV P (Instr.lookup t (.map (some b)) (.string key) false) w ((mget L key).getD z) w := by
  obtain ⟨E, c, hb, hE⟩ := h.blk
  have hkey := keyOf_string_mk hk hks
  have hch := (string_law hk).check w E.isEmpty hkey
  rcases mp_find hE h.one hk h.few hks w with ⟨h1, h2, _⟩ | ⟨j, x, h1, h2, _⟩
  · rw [h2]
    simp [RunV, Instr.lookup, run_underlying ht, MapKept.run_getObj_map hb, hch, h1, hz, Result.andThen]
  · rw [(at_key h.one h2).1]
    simp [RunV, Instr.lookup, run_underlying ht, MapKept.run_getObj_map hb, hch, h1, Result.andThen]
theorem MpB.put (h : MpB w b L) (ht : P.underlying t = some (.map k e)) (hk : P.underlying k = some .string) {key : ByteArray} (hks : key.size ≤ maxLen) (v : Value) :
    ∃ w', RunU P (Instr.mapUpdate t (.map (some b)) (.string key) v) w w' ∧ MpB w' b (mput L key v) ∧ Ext (· = b) w w' := by
  obtain ⟨E, c, hb, hE⟩ := h.blk
  have hkey := keyOf_string_mk hk hks
  have hch := (string_law hk).check w false hkey
  have ext : ∀ o : Obj, Ext (· = b) w { w with heap := w.heap.setIfInBounds b o } := fun o => ⟨rfl, rfl, rfl, by simp, fun i hi hn => by
    show (w.heap.setIfInBounds b o)[i]? = _
    rw [Array.getElem?_setIfInBounds_ne (fun e => hn e.symm)]⟩
  have here : ∀ o : Obj, ({ w with heap := w.heap.setIfInBounds b o } : World).heap[b]? = some o := fun o => by
    show (w.heap.setIfInBounds b o)[b]? = _
    rw [Array.getElem?_setIfInBounds_self_of_lt (Array.getElem?_eq_some_iff.1 hb).1]
  rcases mp_find hE h.one hk h.few hks w with ⟨h1, h2, h3⟩ | ⟨j, x, h1, h2, h3⟩
  · refine ⟨{ w with heap := w.heap.setIfInBounds b (.map (E.push { key := .string key, val := v, born := c }) (c + 1)) }, ?_, ⟨⟨_, _, here _, ?_⟩, mput_nodup h.one _ _, mput_few h.few hks⟩, ext _⟩
    · simp [RunU, Instr.mapUpdate, run_underlying ht, MapKept.run_getObj_map hb, hch, h1, Result.andThen, MapKept.run_setObj_map _ hb]
    · rcases mput_keys L key v with ⟨h4, _⟩ | ⟨_, h4⟩
      · exact absurd h4 h3
      · rw [h4]
        unfold MpE at hE ⊢
        rw [Array.toList_push, List.map_append, hE, List.map_append]
        rfl
  · obtain ⟨y, hy, hy2⟩ := Option.map_eq_some_iff.1 h3
    have hyE : E[j]? = some y := by simpa using hy
    refine ⟨{ w with heap := w.heap.setIfInBounds b (.map (E.modify j fun e => { e with key := .string key, val := v }) c) }, ?_, ⟨⟨_, _, here _, ?_⟩, mput_nodup h.one _ _, mput_few h.few hks⟩, ext _⟩
    · simp [RunU, Instr.mapUpdate, run_underlying ht, MapKept.run_getObj_map hb, hch, h1, Result.andThen, MapKept.run_setObj_map _ hb, hyE, hy2, (string_law hk).stays w hkey]
    · rw [(at_key h.one h2).2]
      unfold MpE at hE ⊢
      have hEi : ∀ i, (E.toList[i]?).map (fun e : MapEntry => (e.key, e.val)) = (L[i]?).map (fun p : ByteArray × Value => ((.string p.1 : Value), p.2)) := fun i => by rw [← List.getElem?_map, hE, List.getElem?_map]
      rw [Array.toList_modify]
      apply List.ext_getElem?
      intro i
      have hL : j < L.length := (List.getElem?_eq_some_iff.1 h2).1
      rw [List.getElem?_map, List.getElem?_map, List.getElem?_modify, List.getElem?_set]
      by_cases hij : j = i
      · subst hij
        rw [if_pos rfl, if_pos hL, hy]
        simp
      · rw [if_neg hij, ← hEi i]
        simp [hij]
end
end Sh
end Go.Proofs.YtjkoafjnmkchdaaGreatDoor

/- Deflate: the trail of places in a map, and the copy that it finds. Conditions: sizes. -/
namespace Go.Proofs.YtjkoafjnmkchdaaGreatDoor
namespace Inf
open Sh Bit
set_option linter.unusedVariables false
set_option linter.unusedSimpArgs false
set_option maxRecDepth 4000
set_option maxHeartbeats 1000000
attribute [local irreducible] Ld St Nw Nn Lt LdS
theorem c_alike {S : ByteArray} {a b m : Nat} (hab : a ≤ b) (hb : b + m ≤ S.size) (hs : S.size ≤ 2000000) (w : World) : C87 S (a : Int) (b : Int) (m : Int) w fun r w1 => r = ((alikeK S.data.toList a b 0 m : Nat) : Int) ∧ Ext (fun _ => False) w w1 := by
  refine T87 _ _ _ _ _ _ ?_
  unfold S87
  refine ⟨fun k st w3 => ∃ n : Nat, st = (n : Int) ∧ n ≤ m ∧ k = m - n ∧ alikeK S.data.toList a b n (m - n) = alikeK S.data.toList a b 0 m ∧ Ext (fun _ => False) w w3, m, ⟨0, rfl, by omega, rfl, rfl, Ext.refl _ _⟩, ?_⟩
  rintro k st w3 ⟨n, rfl, hn, rfl, ha, he⟩
  unfold S87L1
  refine Br.dec (fun q => ?_) fun q => ?_
  · rw [i64_id (n := (a : Int) + (n : Int)) (by omega), i64_id (n := (b : Int) + (n : Int)) (by omega), show (a : Int) + (n : Int) = ((a + n : Nat) : Int) by omega, show (b : Int) + (n : Int) = ((b + n : Nat) : Int) by omega, bAt_list, bAt_list]
    rw [show m - n = (m - (n + 1)) + 1 by omega, alikeK_step] at ha
    refine ⟨by omega, by omega, by omega, by omega, Br.eq (fun h1 => ?_) fun h1 => ?_⟩
    · rw [if_pos (UInt8.toNat_inj.1 (by omega))] at ha
      exact ⟨m - (n + 1), by omega, n + 1, by rw [i64_id (by omega)]; rfl, by omega, rfl, ha, he.drew⟩
    · rw [if_neg (fun e => h1 (by rw [e]))] at ha
      exact ⟨by rw [ha], he.drew⟩
  · have : n = m := by omega
    subst this
    rw [Nat.sub_self] at ha
    exact ⟨by rw [← ha]; rfl, he.drew⟩
/-- The places before p where these three bytes are. -/
def posN (s : List UInt8) (p : Nat) (key : List UInt8) : List Nat := (List.range p).filter fun q => (s.drop q).take 3 = key ∧ q + 3 ≤ s.length
theorem posN_succ (s : List UInt8) (p : Nat) (key : List UInt8) : posN s (p + 1) key = if (s.drop p).take 3 = key ∧ p + 3 ≤ s.length then posN s p key ++ [p] else posN s p key := by
  unfold posN
  rw [List.range_succ, List.filter_append]
  split
  · rename_i h
    congr 1
    simp [h]
  · rename_i h
    rw [show List.filter (fun q => decide ((s.drop q).take 3 = key ∧ q + 3 ≤ s.length)) [p] = [] by simp only [List.filter_cons, List.filter_nil, h, decide_false]; rfl, List.append_nil]
theorem posN_end (s : List UInt8) {p : Nat} (hp : s.length < p + 3) (key : List UInt8) : ∀ d, posN s (p + d) key = posN s p key
  | 0 => rfl
  | d + 1 => by
    rw [← Nat.add_assoc, posN_succ, if_neg (by omega), posN_end s hp key d]
theorem posN_mem {s : List UInt8} {p q : Nat} {key : List UInt8} : q ∈ posN s p key ↔ q < p ∧ (s.drop q).take 3 = key ∧ q + 3 ≤ s.length := by
  unfold posN
  rw [List.mem_filter, List.mem_range, decide_eq_true_iff]
theorem posN_sort (s : List UInt8) (p : Nat) (key : List UInt8) : (posN s p key).Pairwise (· < ·) := List.Pairwise.filter _ List.pairwise_lt_range
theorem posN_len (s : List UInt8) (p : Nat) (key : List UInt8) : (posN s p key).length ≤ p := by
  unfold posN
  have := List.length_filter_le (fun q => decide ((s.drop q).take 3 = key ∧ q + 3 ≤ s.length)) (List.range p)
  rw [List.length_range] at this
  exact this
/-- Where no such place is, nothing is found. -/
theorem thr_skip {s : List UInt8} {p F : Nat} : ∀ d, (∀ k, F < k → k ≤ F + d → mlen s p k < 3) → thr (bst s p (F + d)) = thr (bst s p F)
  | 0, _ => rfl
  | d + 1, h => by
    rw [← Nat.add_assoc, thr_low (h (F + d + 1) (by omega) (by omega))]
    exact thr_skip d fun k h1 h2 => h k h1 (by omega)
theorem mem_mlen {s : List UInt8} {p k : Nat} (h3 : p + 3 ≤ s.length) (h1 : 1 ≤ k) (hk : k ≤ p) : 3 ≤ mlen s p k ↔ p - k ∈ posN s p ((s.drop p).take 3) := by
  rw [mlen3 h3 hk, posN_mem]
  exact ⟨fun h => ⟨by omega, h, by omega⟩, fun h => h.2.1⟩
/-- What the trail holds. -/
structure Trl (w : World) (mb : Nat) (L : MpL) (s : List UInt8) (p : Nat) : Prop where
  map : MpB w mb L
  val : ∀ k v, mget L k = some v → ∃ sl, v = Slc.v sl ∧ Row w sl 3 1 (ints (ordI (posN s p k.data.toList))) ∧ ¬ sl.own mb
  no : ∀ k, mget L k = none → posN s p k.data.toList = []
  sep : ∀ k k' sl sl', mget L k = some (Slc.v sl) → mget L k' = some (Slc.v sl') → k ≠ k' → ∀ j, sl.own j → ¬ sl'.own j
/-- The blocks of a trail. -/
def tOwn (mb : Nat) (L : MpL) (j : Nat) : Prop := j = mb ∨ ∃ k sl, mget L k = some (Slc.v sl) ∧ sl.own j
section
variable {w : World} {mb : Nat} {L : MpL} {s : List UInt8} {p : Nat}
theorem Trl.keepF {F : Nat → Prop} {w' : World} (h : Trl w mb L s p) (he : Ext F w w') (hF : ∀ j, tOwn mb L j → ¬ F j) : Trl w' mb L s p :=
  ⟨h.map.keepF he (hF mb (.inl rfl)), fun k v hk => by
    obtain ⟨sl, h1, h2, h3⟩ := h.val k v hk
    exact ⟨sl, h1, h2.keep he fun j hj => hF j (.inr ⟨k, sl, by rw [hk, h1], hj⟩), h3⟩, h.no, h.sep⟩
theorem Trl.keep {w' : World} (h : Trl w mb L s p) (he : Ext (fun _ => False) w w') : Trl w' mb L s p := h.keepF he fun _ _ h => h
theorem Trl.lt (h : Trl w mb L s p) {j : Nat} (hj : tOwn mb L j) : j < w.heap.size := by
  rcases hj with rfl | ⟨k, sl, hk, hj⟩
  · exact h.map.lt
  · obtain ⟨sl', h1, h2, _⟩ := h.val k _ hk
    rw [Slc.v_inj] at h1
    subst h1
    exact h2.own_lt hj
theorem und54 : Tryz.prog.underlying 89 = some (.map 9 76) := by kernel_rfl
theorem zero72 (w : World) : (zeroValue 76).run Tryz.prog w = .ok (Slc.v ⟨none, 0, 0⟩) w := by
  have h : (Tryz.prog.info? 76).bind (·.zero) = some (Slc.v ⟨none, 0, 0⟩) := by kernel_rfl
  cases hi : Tryz.prog.info? 76 with
  | none => rw [hi] at h; cases h
  | some i =>
    rw [hi] at h
    have hz : i.zero = some (Slc.v ⟨none, 0, 0⟩) := h
    simp [zeroValue, typeInfo, hi, hz]
/-- A key is looked up. -/
theorem Trl.look (h : Trl w mb L s p) {key : ByteArray} (hk : key.size ≤ maxLen) : ∃ sl, RunV Tryz.prog (Instr.lookup 89 (.map (some mb)) (.string key) false) w (Slc.v sl) w ∧ Row w sl 3 1 (ints (ordI (posN s p key.data.toList))) ∧ (∀ j, sl.own j → tOwn mb L j ∧ j ≠ mb) ∧
    ∀ k' sl', mget L k' = some (Slc.v sl') → k' ≠ key → ∀ j, sl.own j → ¬ sl'.own j := by
  have hr := h.map.look und54 und_string (zero72 w) hk
  cases hg : mget L key with
  | none =>
    rw [hg] at hr
    refine ⟨⟨none, 0, 0⟩, hr, ?_, fun j hj => ?_, fun k' sl' _ _ j hj => ?_⟩
    · rw [h.no key hg]
      exact Row.nil w _ _
    · obtain ⟨a, ha, _⟩ := hj; cases ha
    · obtain ⟨a, ha, _⟩ := hj; cases ha
  | some v =>
    rw [hg] at hr
    obtain ⟨sl, rfl, h2, h3⟩ := h.val key v hg
    exact ⟨sl, hr, h2, fun j hj => ⟨.inr ⟨key, sl, hg, hj⟩, fun e => h3 (by rw [← e]; exact hj)⟩, fun k' sl' hk' hne j hj => h.sep key k' sl sl' hg hk' (fun e => hne e.symm) j hj⟩
end
section
variable {w : World} {mb : Nat} {L : MpL} {S : ByteArray} {p : Nat}
/-- The copy that the trail finds: the longest, the nearest of these. -/
theorem c_copiedT (h : Trl w mb L S.data.toList p) (hp : p < S.size) (hs : S.size ≤ 1048576) :
    C57 (some mb) S (p : Int) w fun r w1 => r = (0, (((thr (bst S.data.toList p (farK p))).1 : Nat) : Int), (((thr (bst S.data.toList p (farK p))).2 : Nat) : Int)) ∧ Ext (fun _ => False) w w1 := by
  have hsz : S.data.toList.length = S.size := (size_list S).symm
  refine T57 _ _ _ _ _ ?_
  unfold S57
  refine (Hn.start w).nw fun w4 H => ?_
  simp only [List.nil_append] at H
  refine H.nw fun w5 H => ?_
  simp only [List.cons_append, List.nil_append] at H
  rw [i64_id (n := (p : Int) + 3) (by omega)]
  refine Br.dec (fun q => ?_) fun q => ?_
  · iterate 3 refine H.ld 1 rfl rfl ?_
    iterate 3 (refine H.st 0 rfl (by simp) fun _ H => ?_; simp only [List.nil_append, List.cons_append, List.set_cons_zero, List.set_cons_succ, Nat.zero_add] at H)
    iterate 3 refine H.ld 0 rfl rfl ?_
    have : thr (bst S.data.toList p (farK p)) = (0, 0) := by
      have := bst_le S.data.toList p (farK p)
      unfold mostK at this
      unfold thr
      rw [if_pos (by omega)]
    rw [this]
    exact ⟨rfl, H.ext⟩
  · have h3 : p + 3 ≤ S.data.toList.length := by omega
    have hmk : mostK S.data.toList p = min 258 (S.size - p) := by unfold mostK; rw [hsz]
    have hmost : (if IntKind.i64.wrap (((S.size : Nat) : Int) - (p : Int)) < 258 then IntKind.i64.wrap (((S.size : Nat) : Int) - (p : Int)) else 258) = ((mostK S.data.toList p : Nat) : Int) := by
      rw [hmk, i64_id (by omega)]
      split <;> omega
    rw [hmost]
    refine Lt.of ?_
    have hT := h.keep H.ext
    have e3 : ((p : Int) + 3).toNat = p + 3 := by omega
    rw [e3, Int.toNat_natCast]
    have hkey : (S.extract p (p + 3)).data.toList = (S.data.toList.drop p).take 3 := by rw [extract_list]; congr 1; omega
    obtain ⟨sl, hrun, hrow, hown, _⟩ := hT.look (key := S.extract p (p + 3)) (by rw [ByteArray.size_extract]; unfold maxLen; omega)
    rw [hkey] at hrow
    refine ⟨by omega, by omega, by omega, by omega, sl, _, hrun, ?_⟩
    clear hrun
    have hiv := IV.row hrow
    have hsort := posN_sort S.data.toList p ((S.data.toList.drop p).take 3)
    have hmem := fun k => mem_mlen (s := S.data.toList) (p := p) (k := k) h3
    have hlt : ∀ q, q ∈ posN S.data.toList p ((S.data.toList.drop p).take 3) → q < p := fun q hq => (posN_mem.1 hq).1
    have hlen := posN_len S.data.toList p ((S.data.toList.drop p).take 3)
    generalize posN S.data.toList p ((S.data.toList.drop p).take 3) = PS at hiv hsort hmem hlt hlen
    have hsl : sl.len = PS.length := by rw [hiv.1, ordI_len]
    dsimp only
    rw [hsl]
    -- places between have no copy
    have skip : ∀ F G A B, PS = A ++ B → F ≤ G → G ≤ p → (∀ q ∈ A, G < p - q) → (∀ q ∈ B, p - q ≤ F) → thr (bst S.data.toList p G) = thr (bst S.data.toList p F) := fun F G A B hPS hFG hGp hA hB => by
      have := thr_skip (s := S.data.toList) (p := p) (F := F) (G - F) fun k k1 k2 => by
        rcases Nat.lt_or_ge (mlen S.data.toList p k) 3 with h | h
        · exact h
        · have := (hmem k (by omega) (by omega)).1 h
          rw [hPS] at this
          rcases List.mem_append.1 this with h | h
          · have := hA _ h; omega
          · have := hB _ h; omega
      rw [show F + (G - F) = G by omega] at this
      exact this
    refine ⟨fun m st w9 => ∃ (A B : List Nat) (F : Nat), PS = A ++ B ∧ st = (A.length : Int) - 1 ∧ m = A.length ∧ (∀ q ∈ A, F < p - q) ∧ (∀ q ∈ B, p - q ≤ F) ∧ F ≤ farK p ∧
      Hn w w9 [(w.heap.size, prow (0, 0, 0), 91), (w4.heap.size, prow (0, ((thr (bst S.data.toList p F)).1 : Int), ((thr (bst S.data.toList p F)).2 : Int)), 91)] ∧ IV w9 sl (ordI PS), PS.length,
      ⟨PS, [], 0, by simp, by rw [i64_id (by omega)], rfl, fun q hq => by have := hlt q hq; omega, (fun q hq => by cases hq), Nat.zero_le _, H, hiv⟩, ?_⟩
    rintro m st w9 ⟨A, B, F, hPS, rfl, rfl, hA, hB, hF, H, hiv⟩
    unfold S57L1 prow at *
    have hfk : farK p = min p 32768 := rfl
    have fin : ∀ F', thr (bst S.data.toList p (farK p)) = thr (bst S.data.toList p F') → F' = F → ∀ w9, Hn w w9 [(w.heap.size, prow (0, 0, 0), 91), (w4.heap.size, prow (0, ((thr (bst S.data.toList p F)).1 : Int), ((thr (bst S.data.toList p F)).2 : Int)), 91)] → Ld w9 (⟨w4.heap.size, 0, none⟩ : Addr) (Value.int .u8) fun (x61 : Int) =>
        Ld w9 ((⟨w4.heap.size, 0, none⟩ : Addr).add 1) (Value.int .i64) fun (x62 : Int) =>
        Ld w9 ((⟨w4.heap.size, 0, none⟩ : Addr).add 2) (Value.int .i64) fun (x63 : Int) =>
        St w9 (⟨w.heap.size, 0, none⟩ : Addr) (.int .u8 x61) fun vw64 =>
        St vw64 ((⟨w.heap.size, 0, none⟩ : Addr).add 1) (.int .i64 x62) fun vw65 =>
        St vw65 ((⟨w.heap.size, 0, none⟩ : Addr).add 2) (.int .i64 x63) fun vw66 =>
        Ld vw66 (⟨w.heap.size, 0, none⟩ : Addr) (Value.int .u8) fun (x67 : Int) =>
        Ld vw66 ((⟨w.heap.size, 0, none⟩ : Addr).add 1) (Value.int .i64) fun (x68 : Int) =>
        Ld vw66 ((⟨w.heap.size, 0, none⟩ : Addr).add 2) (Value.int .i64) fun (x69 : Int) =>
        (((x67, x68, x69) : Int × Int × Int) = (0, (((thr (bst S.data.toList p (farK p))).1 : Nat) : Int), (((thr (bst S.data.toList p (farK p))).2 : Nat) : Int)) ∧ Ext (fun _ => False) w vw66) := fun F' hF' e w9 H => by
      subst e
      unfold prow at H
      iterate 3 refine H.ld 1 rfl rfl ?_
      iterate 3 (refine H.st 0 rfl (by simp) fun _ H => ?_; simp only [List.nil_append, List.cons_append, List.set_cons_zero, List.set_cons_succ, Nat.zero_add] at H)
      iterate 3 refine H.ld 0 rfl rfl ?_
      rw [hF']
      exact ⟨rfl, H.ext⟩
    refine Br.dec (fun q1 => ?_) fun q1 => ?_
    · obtain ⟨A', qq, rfl⟩ : ∃ A' qq, A = A' ++ [qq] := by
        rcases List.eq_nil_or_concat A with h | ⟨A', qq, h⟩
        · subst h; simp at q1
        · exact ⟨A', qq, by rw [h, List.concat_eq_append]⟩
      have hAl : (((A' ++ [qq]).length : Nat) : Int) - 1 = (A'.length : Int) := by rw [List.length_append]; simp
      rw [hAl]
      have hPl : A'.length < PS.length := by rw [hPS]; simp
      have hqm : qq ∈ PS := by rw [hPS]; simp
      have hqp := hlt qq hqm
      have hget : ((ordI PS).getD A'.length 0) = (qq : Int) := by
        rw [ordI_get, List.getD_eq_getElem?_getD, hPS, List.append_assoc, List.getElem?_append_right (Nat.le_refl _), Nat.sub_self]
        rfl
      obtain ⟨a, ha, hc⟩ := hiv.get (i := A'.length) (by rw [ordI_len]; exact hPl)
      rw [hget] at hc
      rw [ha]
      refine ⟨by omega, by omega, Nn.of ?_⟩
      rw [Int.toNat_natCast]
      refine Ld.mk (x := (qq : Int)) hc ?_
      have hFq := hA qq (by simp)
      have hA' : ∀ q ∈ A', p - qq < p - q := fun q hq => by
        rw [hPS, List.append_assoc] at hsort
        have := (List.pairwise_append.1 hsort).2.2 q hq qq (by simp)
        omega
      rw [i64_id (n := (p : Int) - (qq : Int)) (by omega)]
      refine Br.dec (fun q2 => ?_) fun q2 => ?_
      · iterate 1 refine H.ld 1 rfl rfl ?_
        refine Br.dec (fun q3 => ?_) fun q3 => ?_
        · refine ⟨by omega, by omega, Nn.of ?_⟩
          refine Ld.mk (x := (qq : Int)) hc ?_
          refine (c_alike (S := S) (a := qq) (b := p) (m := mostK S.data.toList p) (by omega) (by omega) (by omega) w9).mono ?_
          rintro r w36 ⟨rfl, he⟩
          have H := H.keep he
          have hiv := hiv.keep he
          have hcc := he.cell_same hc
          iterate 1 refine H.ld 1 rfl rfl ?_
          have eM : alikeK S.data.toList qq p 0 (mostK S.data.toList p) = mlen S.data.toList p (p - qq) := by
            unfold mlen
            rw [show p - (p - qq) = qq by omega]
          rw [eM]
          have m3 : 3 ≤ mlen S.data.toList p (p - qq) := (hmem (p - qq) (by omega) (by omega)).2 (by rw [show p - (p - qq) = qq by omega]; exact hqm)
          have sk := skip F (p - qq - 1) (A' ++ [qq]) B hPS (by omega) (by omega) (fun q hq => by
            rcases List.mem_append.1 hq with h | h
            · have := hA' q h; omega
            · rw [List.mem_singleton.1 h]; omega) hB
          have th := thr_high (s := S.data.toList) (p := p) (F := p - qq - 1) (by rw [show p - qq - 1 + 1 = p - qq by omega]; exact m3)
          rw [show p - qq - 1 + 1 = p - qq by omega, sk] at th
          have hB' : ∀ q ∈ qq :: B, p - q ≤ p - qq := fun q hq => by
            rcases List.mem_cons.1 hq with rfl | hq
            · exact Nat.le_refl _
            · have := hB q hq; omega
          have hPS' : PS = A' ++ (qq :: B) := by rw [hPS, List.append_assoc]; rfl
          dsimp only
          refine Br.dec (fun q4 => ?_) fun q4 => ?_
          · refine ⟨by omega, by omega, Nn.of ?_⟩
            refine Ld.mk (x := (qq : Int)) hcc ?_
            rw [i64_id (n := (p : Int) - (qq : Int)) (by omega)]
            rw [if_pos (by omega)] at th
            have hiv0 := hiv
            have hsz36 := H.size
            refine H.st' 1 rfl (by simp) fun w40 H e40 => ?_
            simp only [List.set_cons_zero, List.set_cons_succ] at H
            refine H.st' 1 rfl (by simp) fun w41 H e41 => ?_
            simp only [List.set_cons_zero, List.set_cons_succ] at H
            refine H.st' 1 rfl (by simp) fun w42 H e42 => ?_
            simp only [List.set_cons_zero, List.set_cons_succ] at H
            have hnb : ∀ j, sl.own j → ¬ j = w4.heap.size := fun j hj => by
              have h1 := h.lt (hown j hj).1
              have h2 := H.ge 1 rfl
              omega
            refine ⟨A'.length, by simp, A', qq :: B, p - qq, hPS', by rw [i64_id (by omega)], rfl, hA', hB', by omega, ?_, ((hiv.keepF e40 hnb).keepF e41 hnb).keepF e42 hnb⟩
            rw [th]
            dsimp only
            rw [show (p : Int) - (qq : Int) = ((p - qq : Nat) : Int) by omega] at H
            exact H
          · rw [if_neg (by omega)] at th
            exact ⟨A'.length, by simp, A', qq :: B, p - qq, hPS', by rw [i64_id (by omega)], rfl, hA', hB', by omega, by rw [th]; exact H, hiv⟩
        · refine fin F ?_ rfl w9 H
          have hm3 : 3 ≤ mostK S.data.toList p := by omega
          have hle := bst_le S.data.toList p F
          have hq3 : ¬ ((thr (bst S.data.toList p F)).1 : Int) < (mostK S.data.toList p : Int) := q3
          have heq : (bst S.data.toList p F).1 = mostK S.data.toList p := by
            unfold thr at hq3
            split at hq3
            · exact absurd hq3 (by show ¬ ¬ ((0 : Nat) : Int) < _; omega)
            · omega
          have := bst_max heq (farK p - F)
          rw [show F + (farK p - F) = farK p by omega] at this
          rw [this]
      · refine fin F (skip F (farK p) (A' ++ [qq]) B hPS hF (by omega) (fun q hq => ?_) hB) rfl w9 H
        rcases List.mem_append.1 hq with h | h
        · have := hA' q h; omega
        · rw [List.mem_singleton.1 h]; omega
    · have : A = [] := by
        cases A with
        | nil => rfl
        | cons a A => simp at q1
      subst this
      exact fin F (skip F (farK p) [] B hPS hF (by omega) (fun q hq => by cases hq) hB) rfl w9 H
end
end Inf
end Go.Proofs.YtjkoafjnmkchdaaGreatDoor

/- Deflate: places are added to the trail. Conditions: sizes. -/
namespace Go.Proofs.YtjkoafjnmkchdaaGreatDoor
namespace Inf
open Sh Bit
set_option linter.unusedVariables false
set_option linter.unusedSimpArgs false
set_option maxRecDepth 4000
set_option maxHeartbeats 1000000
attribute [local irreducible] Ld St Nw Nn Lt LdS
section
variable {w : World} {mb : Nat} {L : MpL} {s : List UInt8} {p q : Nat}
theorem Trl.stay (h : Trl w mb L s q) (hq : s.length < q + 3) (d : Nat) : Trl w mb L s (q + d) :=
  ⟨h.map, fun k v hk => by rw [posN_end s hq]; exact h.val k v hk, fun k hk => by rw [posN_end s hq]; exact h.no k hk, h.sep⟩
/-- A place is added. -/
theorem Trl.push (h : Trl w mb L s q) (hs : s.length ≤ 1048576) (hq : q + 3 ≤ s.length) {key : ByteArray} (hkey : key.data.toList = (s.drop q).take 3) (hks : key.size ≤ maxLen) {sl : Slc} (hrow : Row w sl 3 1 (ints (ordI (posN s q key.data.toList)))) (hown : ∀ j, sl.own j → tOwn mb L j ∧ j ≠ mb)
    (hsep : ∀ k' sl', mget L k' = some (Slc.v sl') → k' ≠ key → ∀ j, sl.own j → ¬ sl'.own j) {g : Nat} (hg : Blk w g #[.int .i64 (q : Int)] 3) :
    ∃ sl' wc, RunV Tryz.prog (Builtin.append_ #[76, 76] 76 #[Slc.v sl, Slc.v ⟨some ⟨g, 0, none⟩, 1, 1⟩]) w (Slc.v sl') wc ∧ ∃ wd, RunU Tryz.prog (Instr.mapUpdate 89 (.map (some mb)) (.string key) (Slc.v sl')) wc wd ∧
      ∃ L', Trl wd mb L' s (q + 1) ∧ Ext (tOwn mb L) w wd ∧ ∀ j, tOwn mb L' j → tOwn mb L j ∨ w.heap.size ≤ j := by
  have hpl := posN_len s q key.data.toList
  have hsl : sl.len = (posN s q key.data.toList).length := by rw [(IV.row hrow).1, ordI_len]
  obtain ⟨sl', wc, hrun, hrow', hlen', hext, hown'⟩ := elI.app1 (ty := 76) (ys := [.int .i64 (q : Int)]) hrow hg rfl (fun v hv => by rw [List.mem_singleton.1 hv]; rfl) (by omega) (by omega)
  have hmb := h.map.lt
  have hmap := h.map.keepF hext fun hj => (hown mb hj).2 rfl
  obtain ⟨wd, hput, hmap2, hext2⟩ := hmap.put und54 und_string hks (Slc.v sl')
  have hnew : ∀ j, sl'.own j → j ≠ mb := fun j hj => by
    rcases hown' j hj with e | e
    · exact (hown j e).2
    · omega
  refine ⟨sl', wc, hrun, wd, hput, mput L key (Slc.v sl'), ⟨hmap2, fun k v hk => ?_, fun k hk => ?_, fun k k' s1 s2 h1 h2 hne j hj hj2 => ?_⟩, ?_, fun j hj => ?_⟩
  · rw [mget_put] at hk
    by_cases hkk : k = key
    · rw [if_pos hkk] at hk
      cases hk
      subst hkk
      refine ⟨sl', rfl, ?_, fun hj => hnew mb hj rfl⟩
      rw [posN_succ, if_pos ⟨hkey.symm, hq⟩, ordI_app, ints_app]
      exact hrow'.keep hext2 fun j hj => hnew j hj
    · rw [if_neg hkk] at hk
      obtain ⟨s1, h1, h2, h3⟩ := h.val k v hk
      subst h1
      refine ⟨s1, rfl, ?_, h3⟩
      rw [posN_succ, if_neg (fun e => hkk (ba_ext (by rw [hkey]; exact e.1.symm)))]
      exact (h2.keep hext fun j hj hj2 => hsep k s1 hk hkk j hj2 hj).keep hext2 fun j hj e => h3 (by rw [← e]; exact hj)
  · rw [mget_put] at hk
    by_cases hkk : k = key
    · rw [if_pos hkk] at hk; cases hk
    · rw [if_neg hkk] at hk
      rw [posN_succ, if_neg (fun e => hkk (ba_ext (by rw [hkey]; exact e.1.symm)))]
      exact h.no k hk
  · rw [mget_put] at h1 h2
    have old : ∀ k s1, mget L k = some (Slc.v s1) → k ≠ key → ∀ j, sl'.own j → ¬ s1.own j := fun k s1 hk hkk j hj hj2 => by
      rcases hown' j hj with e | e
      · exact hsep k s1 hk hkk j e hj2
      · have := h.lt (.inr ⟨k, s1, hk, hj2⟩)
        omega
    by_cases e1 : k = key
    · rw [if_pos e1] at h1
      have e2 : k' ≠ key := fun e2 => hne (e1.trans e2.symm)
      rw [if_neg e2] at h2
      have h1 := Slc.v_inj _ _ |>.1 (Option.some.inj h1)
      subst h1
      exact old k' s2 h2 e2 j hj hj2
    · rw [if_neg e1] at h1
      by_cases e2 : k' = key
      · rw [if_pos e2] at h2
        have h2 := Slc.v_inj _ _ |>.1 (Option.some.inj h2)
        subst h2
        exact old k s1 h1 e1 j hj2 hj
      · rw [if_neg e2] at h2
        exact h.sep k k' s1 s2 h1 h2 hne j hj hj2
  · refine (hext.mono fun j _ hj => (hown j hj).1).trans hext2 (fun _ h => h) fun j _ e => .inl e
  · rcases hj with rfl | ⟨k, s1, hk, hj⟩
    · exact .inl (.inl rfl)
    · rw [mget_put] at hk
      by_cases e1 : k = key
      · rw [if_pos e1] at hk
        have hk := Slc.v_inj _ _ |>.1 (Option.some.inj hk)
        subst hk
        exact (hown' j hj).imp (fun e => (hown j e).1) id
      · rw [if_neg e1] at hk
        exact .inl (.inr ⟨k, s1, hk, hj⟩)
end
theorem c_addT {w : World} {mb : Nat} {L : MpL} {S : ByteArray} {p t : Nat} (h : Trl w mb L S.data.toList p) (hpt : p ≤ t) (ht : t ≤ S.size) (hs : S.size ≤ 1048576) :
    C58 (some mb) S (p : Int) (t : Int) w fun w1 => ∃ L', Trl w1 mb L' S.data.toList t ∧ Ext (tOwn mb L) w w1 ∧ ∀ j, tOwn mb L' j → tOwn mb L j ∨ w.heap.size ≤ j := by
  have hsz : S.data.toList.length = S.size := (size_list S).symm
  refine T58 _ _ _ _ _ _ ?_
  unfold S58
  refine ⟨fun m st w3 => ∃ (q : Nat) (L' : MpL), st = (q : Int) ∧ p ≤ q ∧ q ≤ t ∧ m = t - q ∧ Trl w3 mb L' S.data.toList q ∧ Ext (tOwn mb L) w w3 ∧ ∀ j, tOwn mb L' j → tOwn mb L j ∨ w.heap.size ≤ j, t - p, ⟨p, L, rfl, by omega, hpt, rfl, h, Ext.refl _ _, fun j hj => .inl hj⟩, ?_⟩
  rintro m st w3 ⟨q, L', rfl, hq1, hq2, rfl, hT, he, ho⟩
  unfold S58L1
  refine Br.dec (fun h1 => ?_) fun h1 => ?_
  · rw [i64_id (n := (q : Int) + 3) (by omega)]
    refine Br.dec (fun h2 => ?_) fun h2 => ?_
    · have e3 : ((q : Int) + 3).toNat = q + 3 := by omega
      rw [e3, Int.toNat_natCast]
      have hkey : (S.extract q (q + 3)).data.toList = (S.data.toList.drop q).take 3 := by rw [extract_list]; congr 1; omega
      have hks : (S.extract q (q + 3)).size ≤ maxLen := by rw [ByteArray.size_extract]; unfold maxLen; omega
      have hTd := hT.keep (w' := w3.drew) (Ext.refl _ _).drew
      have next : ∀ wb wd L2, Ext (fun _ => False) w3 wb → Trl wd mb L2 S.data.toList (q + 1) → Ext (tOwn mb L') wb wd → (∀ j, tOwn mb L2 j → tOwn mb L' j ∨ wb.heap.size ≤ j) → ∃ n', n' < t - q ∧ ∃ (q_1 : Nat) (L_1 : MpL), IntKind.i64.wrap ((q : Int) + 1) = (q_1 : Int) ∧ p ≤ q_1 ∧ q_1 ≤ t ∧ n' = t - q_1 ∧ Trl wd mb L_1 S.data.toList q_1 ∧ Ext (tOwn mb L) w wd ∧ ∀ j, tOwn mb L_1 j → tOwn mb L j ∨ w.heap.size ≤ j := fun wb wd L2 e1 t1 e2 o2 => by
        have z1 := he.size
        have z2 := e1.size
        refine ⟨t - (q + 1), by omega, q + 1, L2, by rw [i64_id (by omega)]; rfl, by omega, by omega, rfl, t1, ?_, fun j hj => ?_⟩
        · refine (he.trans e1 (fun _ h => h) fun _ _ h => h.elim).trans e2 (fun _ h => h) fun j hj e => ?_
          rcases ho j e with e | e
          · exact e
          · omega
        · rcases o2 j hj with e | e
          · exact ho j e
          · exact .inr (by omega)
      refine ⟨by omega, by omega, by omega, by omega, by omega, by omega, by omega, by omega, ?_, ?_⟩
      · obtain ⟨sl, hrun, hrow, hown, hsep⟩ := hTd.look hks
        refine ⟨sl, _, hrun, Nw.of ?_⟩
        have e1 := (Ext.refl (fun _ => False) w3.drew).alloc (.cells #[.int .i64 (q : Int)] 3)
        obtain ⟨sl', wc, r1, wd, r2, L2, t1, e2, o2⟩ := (hTd.keep e1).push (by omega) (by omega) hkey hks (hrow.keep e1 fun _ _ h => h) hown hsep (Blk.new w3.drew _ _)
        exact ⟨sl', wc, r1, wd, r2, next _ wd L2 ((Ext.refl _ _).drew.tr e1) t1 e2 o2⟩
      · refine Nw.of ?_
        have e1 := (Ext.refl (fun _ => False) w3.drew).alloc (.cells #[.int .i64 (q : Int)] 3)
        obtain ⟨sl, hrun, hrow, hown, hsep⟩ := (hTd.keep e1).look hks
        refine ⟨sl, _, hrun, ?_⟩
        obtain ⟨sl', wc, r1, wd, r2, L2, t1, e2, o2⟩ := (hTd.keep e1).push (by omega) (by omega) hkey hks hrow hown hsep (Blk.new w3.drew _ _)
        exact ⟨sl', wc, r1, wd, r2, next _ wd L2 ((Ext.refl _ _).drew.tr e1) t1 e2 o2⟩
    · have := hT.stay (by omega) (t - q)
      rw [show q + (t - q) = t by omega] at this
      exact ⟨L', this, he, ho⟩
  · have : q = t := by omega
    subst this
    exact ⟨L', hT, he, ho⟩
end Inf
end Go.Proofs.YtjkoafjnmkchdaaGreatDoor

/- Deflate: the greedy parse, both sides. Conditions: sizes. -/
namespace Go.Proofs.YtjkoafjnmkchdaaGreatDoor
namespace Inf
open Sh Bit
set_option linter.unusedVariables false
set_option linter.unusedSimpArgs false
set_option maxRecDepth 4000
set_option maxHeartbeats 1000000
attribute [local irreducible] Ld St Nw Nn Lt LdS
/-- A part is appended. -/
theorem pushP {TS T : TypeId} {z : Value} (hel : El Tryz.prog TS T 3 24 z) {w : World} {sl : Slc} {D : List Qr} (hr : Row w sl T 3 (D.flatMap prow)) (hl : D.length ≤ 2000000) (q : Qr) {K : Slc → World → Prop}
    (k : ∀ s' w', Row w' s' T 3 ((D ++ [q]).flatMap prow) → Ext sl.own w w' → (∀ j, s'.own j → sl.own j ∨ w.heap.size ≤ j) → K s' w') :
    Nw w (.cells #[.int .u8 q.1, .int .i64 q.2.1, .int .i64 q.2.2] T) fun v => Rn Tryz.prog (Builtin.append_ #[TS, TS] TS #[Slc.v sl, Slc.v ((⟨some ⟨w.heap.size, 0, none⟩, 1, 1⟩ : Slc))]) v Slc.v K := by
  refine Nw.of ?_
  have e1 := (Ext.refl (fun _ => False) w).alloc (.cells #[.int .u8 q.1, .int .i64 q.2.1, .int .i64 q.2.2] T)
  have hsl : sl.len = D.length := by
    have := hr.1
    rw [p_len] at this
    omega
  obtain ⟨s', w', hrun, hrow, hlen, hext, hown⟩ := hel.app1 (ty := TS) (ys := prow q) (hr.keep e1 fun _ _ h => h) (Blk.new w _ _) rfl (fun v hv => p_one [q] v (by simpa using hv)) (by omega) (by omega)
  refine ⟨s', w', hrun, k s' w' ?_ ?_ fun j hj => (hown j hj).imp id fun h => Nat.le_trans e1.size h⟩
  · rw [List.flatMap_append]
    simpa using hrow
  · exact (e1.mono fun _ _ h => h.elim).trans hext (fun _ h => h) fun _ _ h => h
theorem row_pv {w : World} {sl : Slc} {T : TypeId} {D : List Qr} (hr : Row w sl T 3 (D.flatMap prow)) : PV w sl D := by
  refine ⟨?_, hr.view⟩
  have := hr.1
  rw [p_len] at this
  omega
/-- One step of the parse. -/
theorem parts_step (s : List UInt8) {p : Nat} (hp : p < s.length) : (((bst s p (farK p)).1 < 3) → partsF s (s.length - p) p = ⟨s.getD p 0, 0, 0⟩ :: partsF s (s.length - (p + 1)) (p + 1)) ∧
    (¬ ((bst s p (farK p)).1 < 3) → partsF s (s.length - p) p = ⟨0, (bst s p (farK p)).1, (bst s p (farK p)).2⟩ :: partsF s (s.length - (p + (bst s p (farK p)).1)) (p + (bst s p (farK p)).1)) ∧ p + (bst s p (farK p)).1 ≤ s.length := by
  have hle := bst_le s p (farK p)
  unfold mostK at hle
  have e : s.length - p = (s.length - (p + 1)) + 1 := by omega
  refine ⟨fun h => ?_, fun h => ?_, by omega⟩
  · rw [e]
    conv => lhs; unfold partsF
    rw [if_neg (by omega), if_pos h]
  · rw [e]
    conv => lhs; unfold partsF
    rw [if_neg (by omega), if_neg h]
    congr 1
    have := partsF_more s (s.length - (p + (bst s p (farK p)).1)) ((bst s p (farK p)).1 - 1) (p + (bst s p (farK p)).1) (by omega)
    rw [← this]
    congr 1
    omega
theorem c_Parts {S : ByteArray} (hs : S.size ≤ 1048576) (w : World) : C35 S w fun r w1 => PV w1 r ((partsS S.data.toList).map rawP) ∧ Ext (fun _ => False) w w1 := by
  have hsz : S.data.toList.length = S.size := (size_list S).symm
  refine T35 _ _ _ ?_
  unfold S35
  refine Br.dec (fun q => absurd q (by omega)) fun q => Nw.of ?_
  have e0 := (Ext.refl (fun _ => False) w).alloc (.map #[] 0)
  have T0 : Trl (w.alloc (.map #[] 0)) w.heap.size [] S.data.toList 0 := ⟨MpB.new w, (fun k v hk => by cases hk), fun k _ => rfl, fun k k' s1 s2 h => by cases h⟩
  refine ⟨fun m st w3 => ∃ (p : Nat) (L : MpL) (D : List Qr), st.2 = (p : Int) ∧ p ≤ S.size ∧ m = S.size - p ∧ D.length ≤ p ∧ Row w3 st.1 91 3 (D.flatMap prow) ∧ D ++ (partsF S.data.toList (S.data.toList.length - p) p).map rawP = (partsS S.data.toList).map rawP ∧
    Trl w3 w.heap.size L S.data.toList p ∧ Ext (fun _ => False) w w3 ∧ (∀ j, st.1.own j → w.heap.size ≤ j ∧ ¬ tOwn w.heap.size L j) ∧ ∀ j, tOwn w.heap.size L j → w.heap.size ≤ j, S.size,
    ⟨0, [], [], rfl, Nat.zero_le _, rfl, Nat.le_refl _, Row.nil _ _ _, rfl, T0, e0, (fun j hj => by obtain ⟨a, ha, _⟩ := hj; cases ha), fun j hj => by
      rcases hj with rfl | ⟨k, sl, hk, _⟩
      · exact Nat.le_refl _
      · cases hk⟩, ?_⟩
  rintro m ⟨sl, p'⟩ w3 ⟨p, L, D, hp', hp, rfl, hD, hr, hres, hT, he, ho, hto⟩
  simp only at hp' hr ho
  subst hp'
  unfold S35L1
  dsimp only
  refine Br.dec (fun q1 => ?_) fun q1 => ?_
  · have hp : p < S.size := by omega
    refine (c_copiedT hT hp hs).mono ?_
    rintro r w7 ⟨rfl, e7⟩
    dsimp only
    have hT := hT.keep e7
    have hr := hr.keep e7 fun _ _ h => h
    have he := he.tr e7
    obtain ⟨s1, s2, s3⟩ := parts_step S.data.toList (p := p) (by omega)
    refine (Hn.start w7).nw fun w8 H => ?_
    simp only [List.nil_append] at H
    iterate 3 (refine H.st 0 rfl (by simp) fun _ H => ?_; simp only [List.nil_append, List.cons_append, List.set_cons_zero, List.set_cons_succ, Nat.zero_add] at H)
    iterate 2 refine H.ld 0 rfl rfl ?_
    -- what follows the append
    have next : ∀ (pr : Prt) (n : Nat), partsF S.data.toList (S.data.toList.length - p) p = pr :: partsF S.data.toList (S.data.toList.length - (p + n)) (p + n) → 1 ≤ n → p + n ≤ S.size → ∀ w9, Ext (fun _ => False) w7 w9 → ∀ s' w', Row w' s' 91 3 ((D ++ [rawP pr]).flatMap prow) → Ext sl.own w9 w' → (∀ j, s'.own j → sl.own j ∨ w9.heap.size ≤ j) → ∀ x : Int, x = ((p + n : Nat) : Int) → C58 (some w.heap.size) S (p : Int) x w' fun w10 => ∃ n', n' < S.size - p ∧ ∃ (p_1 : Nat) (L : MpL) (D : List Qr), x = (p_1 : Int) ∧ p_1 ≤ S.size ∧ n' = S.size - p_1 ∧ D.length ≤ p_1 ∧ Row w10 s' 91 3 (D.flatMap prow) ∧ D ++ (partsF S.data.toList (S.data.toList.length - p_1) p_1).map rawP = (partsS S.data.toList).map rawP ∧
        Trl w10 w.heap.size L S.data.toList p_1 ∧ Ext (fun _ => False) w w10 ∧ (∀ j, s'.own j → w.heap.size ≤ j ∧ ¬ tOwn w.heap.size L j) ∧ ∀ j, tOwn w.heap.size L j → w.heap.size ≤ j := by
      rintro pr n hpr hn hpn w9 e9 s' w' hr' e10 o10 x rfl
      have hT9 := (hT.keep e9).keepF e10 fun j hj hj2 => (ho j hj2).2 hj
      refine (c_addT hT9 (by omega) hpn hs).mono ?_
      rintro w11 ⟨L', t1, e11, o11⟩
      have z9 := e9.size
      have z10 := e10.size
      have zz := he.size
      have hdis : ∀ j, s'.own j → ¬ tOwn w.heap.size L j := fun j hj hj2 => by
        rcases o10 j hj with e | e
        · exact (ho j e).2 hj2
        · have := hT.lt hj2
          omega
      refine ⟨S.size - (p + n), by omega, p + n, L', D ++ [rawP pr], rfl, hpn, rfl, by rw [List.length_append]; simp; omega, hr'.keep e11 fun j hj hj2 => hdis j hj hj2, ?_, t1, ?_, fun j hj => ⟨?_, fun hj2 => ?_⟩, fun j hj => ?_⟩
      · rw [hpr, List.map_cons] at hres
        rw [← hres, List.append_assoc]
        rfl
      · exact ((he.tr e9).trans e10 (fun _ h => h) fun j hj e => by have := (ho j e).1; omega).trans e11 (fun _ h => h) fun j hj e => by have := hto j e; omega
      · rcases o10 j hj with e | e
        · exact (ho j e).1
        · omega
      · rcases o11 j hj2 with e | e
        · exact hdis j hj e
        · have := hr'.own_lt hj
          omega
      · rcases o11 j hj with e | e
        · exact hto j e
        · omega
    have hx : ∀ (y : Nat), p + max y 1 ≤ S.size → IntKind.i64.wrap ((p : Int) + (if 1 > (y : Int) then 1 else (y : Int))) = ((p + max y 1 : Nat) : Int) := fun y hy => by
      rw [max1, i64_id (by omega)]
      omega
    by_cases hb : (bst S.data.toList p (farK p)).1 < 3
    · have hthr : thr (bst S.data.toList p (farK p)) = (0, 0) := by unfold thr; rw [if_pos hb]
      rw [hthr] at H ⊢
      dsimp only at H ⊢
      refine Br.eq (fun _ => ?_) fun h => absurd rfl h
      refine ⟨by omega, by omega, ?_⟩
      rw [bAt_list]
      iterate 1 (refine H.st 0 rfl (by simp) fun _ H => ?_; simp only [List.nil_append, List.cons_append, List.set_cons_zero, List.set_cons_succ, Nat.zero_add] at H)
      iterate 3 refine H.ld 0 rfl rfl ?_
      refine pushP elP (D := D) (hr.keep H.ext fun _ _ h => h) (by omega) (rawP ⟨S.data.toList.getD p 0, 0, 0⟩) fun s' w' r1 r2 r3 => ?_
      exact next ⟨S.data.toList.getD p 0, 0, 0⟩ 1 (s1 hb) (Nat.le_refl _) (by omega) _ H.ext s' w' r1 r2 r3 _ (hx 0 (by omega))
    · have hthr : thr (bst S.data.toList p (farK p)) = bst S.data.toList p (farK p) := by unfold thr; rw [if_neg hb]
      rw [hthr] at H ⊢
      refine Br.eq (fun h => absurd h (by omega)) fun _ => ?_
      iterate 3 refine H.ld 0 rfl rfl ?_
      refine pushP elP (D := D) (hr.keep H.ext fun _ _ h => h) (by omega) (rawP ⟨0, (bst S.data.toList p (farK p)).1, (bst S.data.toList p (farK p)).2⟩) fun s' w' r1 r2 r3 => ?_
      refine next ⟨0, (bst S.data.toList p (farK p)).1, (bst S.data.toList p (farK p)).2⟩ _ (s2 hb) (by omega) (by omega) _ H.ext s' w' r1 r2 r3 _ ?_
      rw [hx _ (by omega)]
      omega
  · have : p = S.size := by omega
    subst this
    rw [hsz, Nat.sub_self] at hres
    have hres : D ++ [] = _ := hres
    rw [List.append_nil] at hres
    rw [← hres]
    exact ⟨row_pv hr, he⟩
/-! ### The reference's -/
end Inf
end Go.Proofs.YtjkoafjnmkchdaaGreatDoor

/- The copy of a string: what it is said to be. No condition. -/
namespace Go.Proofs.YtjkoafjnmkchdaaGreatDoor
open Sh
set_option linter.unusedVariables false
def C68 (s1 : ByteArray) (w : World) (R : ByteArray → World → Prop) : Prop :=
  Calls Tryz.prog 68 #[.string s1] w fun e w' => ∃ r0 : ByteArray, e = .returned (.string r0) ∧ R r0 w'
theorem C68.mono {s1 : ByteArray} {w : World} {R R' : ByteArray → World → Prop} (h : C68 s1 w R) (hr : ∀ r0 w', R r0 w' → R' r0 w') : C68 s1 w R' :=
  Calls.mono h fun _ _ ⟨r0, he, hR⟩ => ⟨r0, he, hr _ _ hR⟩
end Go.Proofs.YtjkoafjnmkchdaaGreatDoor

/- The formulas of 9 functions of the program, written by program (gen.py); the kernel checks each. No condition. -/
namespace Go.Proofs.YtjkoafjnmkchdaaGreatDoor
open Sh
set_option linter.unusedVariables false
set_option maxRecDepth 100000

def C61 (p1 : Option Addr × Option Addr) (vw2 : Option Addr) (l3 : Slc) (w : World) (R : World → Prop) : Prop :=
  Calls Tryz.prog 61 #[.agg #[.pointer p1.1, .pointer p1.2], .pointer vw2, Slc.v l3] w fun e w' => e = .returned (.tuple #[]) ∧ R w'
theorem C61.mono {p1 : Option Addr × Option Addr} {vw2 : Option Addr} {l3 : Slc} {w : World} {R R' : World → Prop} (h : C61 p1 vw2 l3 w R) (hr : ∀ w', R w' → R' w') : C61 p1 vw2 l3 w R' :=
  Calls.mono h fun _ _ ⟨he, hR⟩ => ⟨he, hr _ hR⟩
def C36 (l1 : Slc) (w : World) (R : ByteArray → World → Prop) (PR : Value → World → Prop) : Prop :=
  Calls Tryz.prog 36 #[Slc.v l1] w fun e w' => (∃ r0 : ByteArray, e = .returned (.string r0) ∧ R r0 w') ∨ ∃ v, e = .panicked (onePanic v) ∧ PR v w'
theorem C36.mono {l1 : Slc} {w : World} {R R' : ByteArray → World → Prop} {PR PR' : Value → World → Prop} (h : C36 l1 w R PR) (hr : ∀ r0 w', R r0 w' → R' r0 w') (hp : ∀ v w', PR v w' → PR' v w') : C36 l1 w R' PR' :=
  Calls.mono h fun _ _ he => he.elim (fun ⟨r0, he, hR⟩ => .inl ⟨r0, he, hr _ _ hR⟩) fun ⟨v, he, hP⟩ => .inr ⟨v, he, hp _ _ hP⟩
def C62 (l1 : Slc) (w : World) (R : Slc → Slc → World → Prop) : Prop :=
  Calls Tryz.prog 62 #[Slc.v l1] w fun e w' => ∃ r0 : Slc, ∃ r1 : Slc, e = .returned (.tuple #[Slc.v r0, Slc.v r1]) ∧ R r0 r1 w'
theorem C62.mono {l1 : Slc} {w : World} {R R' : Slc → Slc → World → Prop} (h : C62 l1 w R) (hr : ∀ r0 r1 w', R r0 r1 w' → R' r0 r1 w') : C62 l1 w R' :=
  Calls.mono h fun _ _ ⟨r0, r1, he, hR⟩ => ⟨r0, r1, he, hr _ _ _ hR⟩
def C64 (l1 : Slc) (keep2 : Int) (w : World) (R : Slc → World → Prop) : Prop :=
  Calls Tryz.prog 64 #[Slc.v l1, .int .i64 keep2] w fun e w' => ∃ r0 : Slc, e = .returned (Slc.v r0) ∧ R r0 w'
theorem C64.mono {l1 : Slc} {keep2 : Int} {w : World} {R R' : Slc → World → Prop} (h : C64 l1 keep2 w R) (hr : ∀ r0 w', R r0 w' → R' r0 w') : C64 l1 keep2 w R' :=
  Calls.mono h fun _ _ ⟨r0, he, hR⟩ => ⟨r0, he, hr _ _ hR⟩
def C65 (l1 : Slc) (w : World) (R : Slc → World → Prop) : Prop :=
  Calls Tryz.prog 65 #[Slc.v l1] w fun e w' => ∃ r0 : Slc, e = .returned (Slc.v r0) ∧ R r0 w'
theorem C65.mono {l1 : Slc} {w : World} {R R' : Slc → World → Prop} (h : C65 l1 w R) (hr : ∀ r0 w', R r0 w' → R' r0 w') : C65 l1 w R' :=
  Calls.mono h fun _ _ ⟨r0, he, hR⟩ => ⟨r0, he, hr _ _ hR⟩
def C66 (w : World) (R : (Int × Int × Int × Int × Int × Int × Int × Int × Int × Int × Int × Int × Int × Int × Int × Int × Int × Int × Int) → World → Prop) : Prop :=
  Calls Tryz.prog 66 #[] w fun e w' => ∃ r0 : Int × Int × Int × Int × Int × Int × Int × Int × Int × Int × Int × Int × Int × Int × Int × Int × Int × Int × Int, e = .returned (.agg #[.int .i64 (r0.1), .int .i64 (r0.2.1), .int .i64 (r0.2.2.1), .int .i64 (r0.2.2.2.1), .int .i64 (r0.2.2.2.2.1), .int .i64 (r0.2.2.2.2.2.1), .int .i64 (r0.2.2.2.2.2.2.1), .int .i64 (r0.2.2.2.2.2.2.2.1), .int .i64 (r0.2.2.2.2.2.2.2.2.1), .int .i64 (r0.2.2.2.2.2.2.2.2.2.1), .int .i64 (r0.2.2.2.2.2.2.2.2.2.2.1), .int .i64 (r0.2.2.2.2.2.2.2.2.2.2.2.1), .int .i64 (r0.2.2.2.2.2.2.2.2.2.2.2.2.1), .int .i64 (r0.2.2.2.2.2.2.2.2.2.2.2.2.2.1), .int .i64 (r0.2.2.2.2.2.2.2.2.2.2.2.2.2.2.1), .int .i64 (r0.2.2.2.2.2.2.2.2.2.2.2.2.2.2.2.1), .int .i64 (r0.2.2.2.2.2.2.2.2.2.2.2.2.2.2.2.2.1), .int .i64 (r0.2.2.2.2.2.2.2.2.2.2.2.2.2.2.2.2.2.1), .int .i64 (r0.2.2.2.2.2.2.2.2.2.2.2.2.2.2.2.2.2.2)]) ∧ R r0 w'
theorem C66.mono {w : World} {R R' : (Int × Int × Int × Int × Int × Int × Int × Int × Int × Int × Int × Int × Int × Int × Int × Int × Int × Int × Int) → World → Prop} (h : C66 w R) (hr : ∀ r0 w', R r0 w' → R' r0 w') : C66 w R' :=
  Calls.mono h fun _ _ ⟨r0, he, hR⟩ => ⟨r0, he, hr _ _ hR⟩
def C37 (l1 : Slc) (w : World) (R : ByteArray → World → Prop) (PR : Value → World → Prop) : Prop :=
  Calls Tryz.prog 37 #[Slc.v l1] w fun e w' => (∃ r0 : ByteArray, e = .returned (.string r0) ∧ R r0 w') ∨ ∃ v, e = .panicked (onePanic v) ∧ PR v w'
theorem C37.mono {l1 : Slc} {w : World} {R R' : ByteArray → World → Prop} {PR PR' : Value → World → Prop} (h : C37 l1 w R PR) (hr : ∀ r0 w', R r0 w' → R' r0 w') (hp : ∀ v w', PR v w' → PR' v w') : C37 l1 w R' PR' :=
  Calls.mono h fun _ _ he => he.elim (fun ⟨r0, he, hR⟩ => .inl ⟨r0, he, hr _ _ hR⟩) fun ⟨v, he, hP⟩ => .inr ⟨v, he, hp _ _ hP⟩
def C38 (s1 : ByteArray) (w : World) (R : ByteArray → World → Prop) : Prop :=
  Calls Tryz.prog 38 #[.string s1] w fun e w' => ∃ r0 : ByteArray, e = .returned (.string r0) ∧ R r0 w'
theorem C38.mono {s1 : ByteArray} {w : World} {R R' : ByteArray → World → Prop} (h : C38 s1 w R) (hr : ∀ r0 w', R r0 w' → R' r0 w') : C38 s1 w R' :=
  Calls.mono h fun _ _ ⟨r0, he, hR⟩ => ⟨r0, he, hr _ _ hR⟩
def C19 (s1 : ByteArray) (level2 : Int) (w : World) (R : ByteArray → Int → World → Prop) (PR : Value → World → Prop) : Prop :=
  Calls Tryz.prog 19 #[.string s1, .int .i64 level2] w fun e w' => (∃ r0 : ByteArray, ∃ r1 : Int, e = .returned (.tuple #[.string r0, .int .i64 r1]) ∧ R r0 r1 w') ∨ ∃ v, e = .panicked (onePanic v) ∧ PR v w'
theorem C19.mono {s1 : ByteArray} {level2 : Int} {w : World} {R R' : ByteArray → Int → World → Prop} {PR PR' : Value → World → Prop} (h : C19 s1 level2 w R PR) (hr : ∀ r0 r1 w', R r0 r1 w' → R' r0 r1 w') (hp : ∀ v w', PR v w' → PR' v w') : C19 s1 level2 w R' PR' :=
  Calls.mono h fun _ _ he => he.elim (fun ⟨r0, r1, he, hR⟩ => .inl ⟨r0, r1, he, hr _ _ _ hR⟩) fun ⟨v, he, hP⟩ => .inr ⟨v, he, hp _ _ hP⟩

def S61L1 (w : World) (vw2 : Option Addr) (l3 : Slc) (R : World → Prop) (I7 : Int → World → Prop) (s5 : Int) (vw6 : World) : Prop :=
  Br (decide (s5 < ((l3.len : Nat) : Int))) (0 ≤ s5 ∧ s5 < (l3.len : Nat) ∧ Nn l3.p fun a8 =>
    Ld vw6 (a8.add ((s5).toNat * 3)) (Value.int .u8) fun (x9 : Int) =>
    Ld vw6 ((a8.add ((s5).toNat * 3)).add 1) (Value.int .i64) fun (x10 : Int) =>
    Ld vw6 ((a8.add ((s5).toNat * 3)).add 2) (Value.int .i64) fun (x11 : Int) =>
    Nw vw6 (.cells #[.int .u8 0, .int .i64 0, .int .i64 0] 91) fun vw12 =>
    St vw12 (⟨vw6.heap.size, 0, none⟩ : Addr) (.int .u8 x9) fun vw13 =>
    St vw13 ((⟨vw6.heap.size, 0, none⟩ : Addr).add 1) (.int .i64 x10) fun vw14 =>
    St vw14 ((⟨vw6.heap.size, 0, none⟩ : Addr).add 2) (.int .i64 x11) fun vw15 =>
    Ld vw15 ((⟨vw6.heap.size, 0, none⟩ : Addr).add 1) (Value.int .i64) fun (x21 : Int) =>
    Br (x21 == 0) (Ld vw15 (⟨w.heap.size, 0, none⟩ : Addr) Value.pointer fun (x22 : Option Addr) =>
      Ld vw15 (⟨vw6.heap.size, 0, none⟩ : Addr) (Value.int .u8) fun (x23 : Int) =>
      C67 x22 vw2 (IntKind.i64.wrap x23) vw15 fun r24 vw25 =>
        I7 (IntKind.i64.wrap (s5 + 1)) vw25) (Ld vw15 ((⟨vw6.heap.size, 0, none⟩ : Addr).add 1) (Value.int .i64) fun (x26 : Int) =>
      C93 x26 vw15 fun r27 r28 r29 r30 vw31 =>
        Ld vw31 (⟨w.heap.size, 0, none⟩ : Addr) Value.pointer fun (x32 : Option Addr) =>
        C67 x32 vw2 r27 vw31 fun r33 vw34 =>
          C53 vw2 r28 r29 vw34 fun r35 vw36 =>
            Ld vw36 ((⟨vw6.heap.size, 0, none⟩ : Addr).add 2) (Value.int .i64) fun (x37 : Int) =>
            C94 x37 vw36 fun r38 r39 r40 r41 vw42 =>
              Ld vw42 ((⟨w.heap.size, 0, none⟩ : Addr).add 1) Value.pointer fun (x43 : Option Addr) =>
              C67 x43 vw2 r38 vw42 fun r44 vw45 =>
                C53 vw2 r39 r40 vw45 fun r46 vw47 =>
                  I7 (IntKind.i64.wrap (s5 + 1)) vw47)) (Ld vw6 (⟨w.heap.size, 0, none⟩ : Addr) Value.pointer fun (x48 : Option Addr) =>
    C67 x48 vw2 256 vw6 fun r49 vw50 =>
      R vw50)
/-- (foliant/deflate.pair).write -/
def S61 (p1 : Option Addr × Option Addr) (vw2 : Option Addr) (l3 : Slc) (w : World) (R : World → Prop) : Prop :=
  Nw w (.cells #[.pointer p1.1, .pointer p1.2] 96) fun vw4 =>
  Lp (σ := Int) (S61L1 w vw2 l3 R) 0 vw4
def pl61 : Plan := (.seq (.reg .seq) (.seq (.seq (.reg .seq) (.block (.loop [(14, (.one (.int .i64)))] [1, 3, 12, 13] (.seq (.reg .seq) (.seq (.cond .leaf .leaf) (.seq (.block (.seq (.reg .seq) (.seq (.seq (.reg .seq) (.cond (.seq (.reg .seq) .leaf) .leaf)) (.seq (.reg .seq) (.seq (.reg .seq) (.seq (.reg .seq) (.seq (.reg .seq) (.seq (.reg .seq) (.reg .seq))))))))) (.reg .seq))))))) (.reg .seq)))
set_option maxRecDepth 100000 in
theorem T61 (p1 : Option Addr × Option Addr) (vw2 : Option Addr) (l3 : Slc) (w : World) (R : World → Prop) (h : S61 p1 vw2 l3 w R) : C61 (p1.1, p1.2) vw2 l3 w R := by
  have e : fnT Tryz.prog ⟨FF, MAY, (fun _ _ => False)⟩ pl61 Tryz.f61 [.agg #[.pointer p1.1, .pointer p1.2], .pointer vw2, Slc.v l3] w [] (fun _ w => R w) = S61 p1 vw2 l3 w R := by kernel_rfl
  exact (fn_calls okF okM Tryz.func61 (by kernel_rfl) (by kernel_rfl) (e.mpr h)).mono fun _ _ ⟨_, he, hR⟩ => ⟨he, hR⟩

/-- foliant/deflate.fixed -/
def S36 (l1 : Slc) (w : World) (R : ByteArray → World → Prop) (PR : Value → World → Prop) : Prop :=
  C59 w (fun r2 r3 vw4 =>
    Nw vw4 (.cells #[.pointer none, .pointer none] 96) fun vw5 =>
    C60 r2 vw5 fun r6 r7 vw8 =>
      St vw8 (⟨vw4.heap.size, 0, none⟩ : Addr) (.pointer r6) fun vw9 =>
      C60 r3 vw9 fun r10 r11 vw12 =>
        St vw12 ((⟨vw4.heap.size, 0, none⟩ : Addr).add 1) (.pointer r10) fun vw13 =>
        C52 vw13 fun r14 vw15 =>
          C53 r14 1 1 vw15 fun r16 vw17 =>
            C53 r14 1 2 vw17 fun r18 vw19 =>
              Ld vw19 (⟨vw4.heap.size, 0, none⟩ : Addr) Value.pointer fun (x20 : Option Addr) =>
              Ld vw19 ((⟨vw4.heap.size, 0, none⟩ : Addr).add 1) Value.pointer fun (x21 : Option Addr) =>
              C61 (x20, x21) r14 l1 vw19 fun vw22 =>
                C56 r14 vw22 fun r23 vw24 =>
                  R r23 vw24) PR
def pl36 : Plan := (.seq (.reg .seq) (.seq (.reg .seq) (.seq (.reg .seq) (.seq (.reg .seq) (.seq (.reg .seq) (.seq (.reg .seq) (.seq (.reg .seq) (.seq (.reg .seq) (.seq (.reg .seq) (.seq (.reg .seq) .leaf))))))))))
set_option maxRecDepth 100000 in
theorem T36 (l1 : Slc) (w : World) (R : ByteArray → World → Prop) (PR : Value → World → Prop) (h : S36 l1 w R PR) : C36 l1 w R PR := by
  have e : fnT Tryz.prog ⟨FF, MAY, PR⟩ pl36 Tryz.f36 [Slc.v l1] w [(.one .str)] (fun s w => R s w) = S36 l1 w R PR := by kernel_rfl
  exact (fn_callsP okF okM Tryz.func36 (by kernel_rfl) (by kernel_rfl) (e.mpr h)).mono fun _ _ he => he.elim (fun ⟨s, he, hR⟩ => .inl ⟨s, he, hR⟩) .inr

def S62L1 (l1 : Slc) (s10 : Slc × Slc) (R : Slc → Slc → World → Prop) (I16 : Int → World → Prop) (s14 : Int) (vw15 : World) : Prop :=
  Br (decide (s14 < ((l1.len : Nat) : Int))) (0 ≤ s14 ∧ s14 < (l1.len : Nat) ∧ Nn l1.p fun a17 =>
    Ld vw15 (a17.add ((s14).toNat * 3)) (Value.int .u8) fun (x18 : Int) =>
    Ld vw15 ((a17.add ((s14).toNat * 3)).add 1) (Value.int .i64) fun (x19 : Int) =>
    Ld vw15 ((a17.add ((s14).toNat * 3)).add 2) (Value.int .i64) fun (x20 : Int) =>
    Nw vw15 (.cells #[.int .u8 0, .int .i64 0, .int .i64 0] 91) fun vw21 =>
    St vw21 (⟨vw15.heap.size, 0, none⟩ : Addr) (.int .u8 x18) fun vw22 =>
    St vw22 ((⟨vw15.heap.size, 0, none⟩ : Addr).add 1) (.int .i64 x19) fun vw23 =>
    St vw23 ((⟨vw15.heap.size, 0, none⟩ : Addr).add 2) (.int .i64 x20) fun vw24 =>
    Ld vw24 ((⟨vw15.heap.size, 0, none⟩ : Addr).add 1) (Value.int .i64) fun (x31 : Int) =>
    Br (x31 == 0) (Ld vw24 (⟨vw15.heap.size, 0, none⟩ : Addr) (Value.int .u8) fun (x32 : Int) =>
      0 ≤ x32 ∧ x32 < (s10.1.len : Nat) ∧ Nn s10.1.p fun a33 =>
      Ld vw24 (a33.add ((x32).toNat * 1)) (Value.int .i64) fun (x34 : Int) =>
      0 ≤ x32 ∧ x32 < (s10.1.len : Nat) ∧ Nn s10.1.p fun a35 =>
      St vw24 (a35.add ((x32).toNat * 1)) (.int .i64 (IntKind.i64.wrap (x34 + 1))) fun vw36 =>
      I16 (IntKind.i64.wrap (s14 + 1)) vw36) (Ld vw24 ((⟨vw15.heap.size, 0, none⟩ : Addr).add 1) (Value.int .i64) fun (x37 : Int) =>
      C93 x37 vw24 fun r38 r39 r40 r41 vw42 =>
        Ld vw42 ((⟨vw15.heap.size, 0, none⟩ : Addr).add 2) (Value.int .i64) fun (x43 : Int) =>
        C94 x43 vw42 fun r44 r45 r46 r47 vw48 =>
          0 ≤ r38 ∧ r38 < (s10.1.len : Nat) ∧ Nn s10.1.p fun a49 =>
          Ld vw48 (a49.add ((r38).toNat * 1)) (Value.int .i64) fun (x50 : Int) =>
          0 ≤ r38 ∧ r38 < (s10.1.len : Nat) ∧ Nn s10.1.p fun a51 =>
          St vw48 (a51.add ((r38).toNat * 1)) (.int .i64 (IntKind.i64.wrap (x50 + 1))) fun vw52 =>
          0 ≤ r44 ∧ r44 < (s10.2.len : Nat) ∧ Nn s10.2.p fun a53 =>
          Ld vw52 (a53.add ((r44).toNat * 1)) (Value.int .i64) fun (x54 : Int) =>
          0 ≤ r44 ∧ r44 < (s10.2.len : Nat) ∧ Nn s10.2.p fun a55 =>
          St vw52 (a55.add ((r44).toNat * 1)) (.int .i64 (IntKind.i64.wrap (x54 + 1))) fun vw56 =>
          I16 (IntKind.i64.wrap (s14 + 1)) vw56)) (R s10.1 s10.2 vw15)
def S62J1 (l1 : Slc) (R : Slc → Slc → World → Prop) (s10 : Slc × Slc) (vw11 : World) : Prop :=
  0 ≤ (256 : Int) ∧ (256 : Int) < (s10.1.len : Nat) ∧ Nn s10.1.p fun a12 =>
  St vw11 (a12.add (((256 : Int)).toNat * 1)) (.int .i64 1) fun vw13 =>
  Lp (σ := Int) (S62L1 l1 s10 R) 0 vw13
/-- foliant/deflate.counted -/
def S62 (l1 : Slc) (w : World) (R : Slc → Slc → World → Prop) : Prop :=
  Join (S62J1 l1 R) fun (vJ57 : (Slc × Slc) → World → Prop) =>
    (Rn Tryz.prog (Instr.makeSlice 76 (.int .i64 286) (.int .i64 286)) w.drew Slc.v fun (x58 : Slc) vw59 =>
      Rn Tryz.prog (Instr.makeSlice 76 (.int .i64 30) (.int .i64 30)) vw59 Slc.v fun (x60 : Slc) vw61 =>
      vJ57 (x58, x60) vw61) ∧
    (Rn Tryz.prog (Instr.makeSlice 76 (.int .i64 30) (.int .i64 30)) w.drew Slc.v fun (x62 : Slc) vw63 =>
      Rn Tryz.prog (Instr.makeSlice 76 (.int .i64 286) (.int .i64 286)) vw63 Slc.v fun (x64 : Slc) vw65 =>
      vJ57 (x64, x62) vw65)
def pl62 : Plan := (.seq (.reg .seq) (.join [(2, (.one .slc)), (3, (.one .slc))] [0] (.reg (.held [0, 1] (.effs 0 (some [1]) (.take 2 (.eff 1 (some []) (.take 3 .done))) (.eff 1 (some [0]) (.eff 0 (some []) (.take 2 (.take 3 .done))))))) (.seq (.reg .seq) (.seq (.seq (.reg .seq) (.block (.loop [(20, (.one (.int .i64)))] [2, 3, 18, 19] (.seq (.reg .seq) (.seq (.cond .leaf .leaf) (.seq (.block (.seq (.reg .seq) (.seq (.seq (.reg .seq) (.cond (.seq (.reg .seq) .leaf) .leaf)) (.seq (.reg .seq) (.seq (.reg .seq) (.seq (.reg .seq) (.reg .seq))))))) (.reg .seq))))))) (.seq (.reg .seq) .leaf)))))
set_option maxRecDepth 100000 in
theorem T62 (l1 : Slc) (w : World) (R : Slc → Slc → World → Prop) (h : S62 l1 w R) : C62 l1 w R := by
  have e : fnT Tryz.prog ⟨FF, MAY, (fun _ _ => False)⟩ pl62 Tryz.f62 [Slc.v l1] w [(.one .slc), (.one .slc)] (fun s w => R s.1 s.2 w) = S62 l1 w R := by kernel_rfl
  exact (fn_calls okF okM Tryz.func62 (by kernel_rfl) (by kernel_rfl) (e.mpr h)).mono fun _ _ ⟨s, he, hR⟩ => ⟨s.1, s.2, he, hR⟩

def S64L1 (l1 : Slc) (keep2 : Int) (R : Slc → World → Prop) (I5 : Int → World → Prop) (s3 : Int) (vw4 : World) : Prop :=
  Br (decide (s3 > keep2)) (0 ≤ (IntKind.i64.wrap (s3 - 1)) ∧ (IntKind.i64.wrap (s3 - 1)) < (l1.len : Nat) ∧ Nn l1.p fun a6 =>
    Ld vw4 (a6.add ((IntKind.i64.wrap (s3 - 1)).toNat * 1)) (Value.int .i64) fun (x7 : Int) =>
    Br (x7 == 0) (I5 (IntKind.i64.wrap (s3 - 1)) vw4) (0 ≤ s3 ∧ s3 ≤ ((l1.cap : Nat) : Int) ∧ R (l1.cut 1 0 ((s3).toNat) l1.cap) vw4)) (0 ≤ s3 ∧ s3 ≤ ((l1.cap : Nat) : Int) ∧ R (l1.cut 1 0 ((s3).toNat) l1.cap) vw4)
/-- foliant/deflate.cut -/
def S64 (l1 : Slc) (keep2 : Int) (w : World) (R : Slc → World → Prop) : Prop :=
  Lp (σ := Int) (S64L1 l1 keep2 R) ((l1.len : Nat) : Int) w
def pl64 : Plan := (.seq (.reg .seq) (.seq (.reg .seq) (.seq (.block (.loop [(5, (.one (.int .i64)))] [0, 1] (.seq (.seq (.reg .seq) (.cond .leaf .leaf)) (.block (.reg .seq))))) (.seq (.reg .seq) .leaf))))
set_option maxRecDepth 100000 in
theorem T64 (l1 : Slc) (keep2 : Int) (w : World) (R : Slc → World → Prop) (h : S64 l1 keep2 w R) : C64 l1 keep2 w R := by
  have e : fnT Tryz.prog ⟨FF, MAY, (fun _ _ => False)⟩ pl64 Tryz.f64 [Slc.v l1, .int .i64 keep2] w [(.one .slc)] (fun s w => R s w) = S64 l1 keep2 w R := by kernel_rfl
  exact (fn_calls okF okM Tryz.func64 (by kernel_rfl) (by kernel_rfl) (e.mpr h)).mono fun _ _ ⟨s, he, hR⟩ => ⟨s, he, hR⟩

def S65J1 (l1 : Slc) (s2 : Slc × Int) (I4 : (Slc × Int) → World → Prop) (s12 : Int) (vw13 : World) : Prop :=
  0 ≤ s2.2 ∧ s2.2 < (l1.len : Nat) ∧ Nn l1.p fun a14 =>
  Ld vw13 (a14.add ((s2.2).toNat * 1)) (Value.int .i64) fun (x15 : Int) =>
  Br (x15 == 0) (Br (decide (s12 ≥ 11)) (Nw vw13 (.cells #[.int .i64 18, .int .i64 (IntKind.i64.wrap ((if 138 < s12 then 138 else s12) - 11)), .int .i64 7] 107) fun vw16 =>
      Rn Tryz.prog (Builtin.append_ #[104, 104] 104 #[Slc.v s2.1, Slc.v ((⟨some ⟨vw13.heap.size, 0, none⟩, 1, 1⟩ : Slc))]) vw16 Slc.v fun (x17 : Slc) vw18 =>
      I4 (x17, IntKind.i64.wrap (s2.2 + (if 138 < s12 then 138 else s12))) vw18) (0 ≤ s2.2 ∧ s2.2 < (l1.len : Nat) ∧ Nn l1.p fun a19 =>
      Ld vw13 (a19.add ((s2.2).toNat * 1)) (Value.int .i64) fun (x20 : Int) =>
      Br (x20 == 0) (Br (decide (s12 ≥ 3)) (Nw vw13 (.cells #[.int .i64 17, .int .i64 (IntKind.i64.wrap (s12 - 3)), .int .i64 3] 107) fun vw21 =>
          Rn Tryz.prog (Builtin.append_ #[104, 104] 104 #[Slc.v s2.1, Slc.v ((⟨some ⟨vw13.heap.size, 0, none⟩, 1, 1⟩ : Slc))]) vw21 Slc.v fun (x22 : Slc) vw23 =>
          I4 (x22, IntKind.i64.wrap (s2.2 + s12)) vw23) (Br (decide (s12 ≥ 4)) (0 ≤ s2.2 ∧ s2.2 < (l1.len : Nat) ∧ Nn l1.p fun a24 =>
            Ld vw13 (a24.add ((s2.2).toNat * 1)) (Value.int .i64) fun (x25 : Int) =>
            Nw vw13 (.cells #[.int .i64 x25, .int .i64 0, .int .i64 0, .int .i64 16, .int .i64 (IntKind.i64.wrap ((if 7 < s12 then 7 else s12) - 4)), .int .i64 2] 107) fun vw26 =>
            Rn Tryz.prog (Builtin.append_ #[104, 104] 104 #[Slc.v s2.1, Slc.v ((⟨some ⟨vw13.heap.size, 0, none⟩, 2, 2⟩ : Slc))]) vw26 Slc.v fun (x27 : Slc) vw28 =>
            I4 (x27, IntKind.i64.wrap (s2.2 + (if 7 < s12 then 7 else s12))) vw28) (0 ≤ s2.2 ∧ s2.2 < (l1.len : Nat) ∧ Nn l1.p fun a29 =>
            Ld vw13 (a29.add ((s2.2).toNat * 1)) (Value.int .i64) fun (x30 : Int) =>
            Nw vw13 (.cells #[.int .i64 x30, .int .i64 0, .int .i64 0] 107) fun vw31 =>
            Rn Tryz.prog (Builtin.append_ #[104, 104] 104 #[Slc.v s2.1, Slc.v ((⟨some ⟨vw13.heap.size, 0, none⟩, 1, 1⟩ : Slc))]) vw31 Slc.v fun (x32 : Slc) vw33 =>
            I4 (x32, IntKind.i64.wrap (s2.2 + 1)) vw33))) (Br (decide (s12 ≥ 4)) (0 ≤ s2.2 ∧ s2.2 < (l1.len : Nat) ∧ Nn l1.p fun a34 =>
          Ld vw13 (a34.add ((s2.2).toNat * 1)) (Value.int .i64) fun (x35 : Int) =>
          Nw vw13 (.cells #[.int .i64 x35, .int .i64 0, .int .i64 0, .int .i64 16, .int .i64 (IntKind.i64.wrap ((if 7 < s12 then 7 else s12) - 4)), .int .i64 2] 107) fun vw36 =>
          Rn Tryz.prog (Builtin.append_ #[104, 104] 104 #[Slc.v s2.1, Slc.v ((⟨some ⟨vw13.heap.size, 0, none⟩, 2, 2⟩ : Slc))]) vw36 Slc.v fun (x37 : Slc) vw38 =>
          I4 (x37, IntKind.i64.wrap (s2.2 + (if 7 < s12 then 7 else s12))) vw38) (0 ≤ s2.2 ∧ s2.2 < (l1.len : Nat) ∧ Nn l1.p fun a39 =>
          Ld vw13 (a39.add ((s2.2).toNat * 1)) (Value.int .i64) fun (x40 : Int) =>
          Nw vw13 (.cells #[.int .i64 x40, .int .i64 0, .int .i64 0] 107) fun vw41 =>
          Rn Tryz.prog (Builtin.append_ #[104, 104] 104 #[Slc.v s2.1, Slc.v ((⟨some ⟨vw13.heap.size, 0, none⟩, 1, 1⟩ : Slc))]) vw41 Slc.v fun (x42 : Slc) vw43 =>
          I4 (x42, IntKind.i64.wrap (s2.2 + 1)) vw43)))) (0 ≤ s2.2 ∧ s2.2 < (l1.len : Nat) ∧ Nn l1.p fun a44 =>
    Ld vw13 (a44.add ((s2.2).toNat * 1)) (Value.int .i64) fun (x45 : Int) =>
    Br (x45 == 0) (Br (decide (s12 ≥ 3)) (Nw vw13 (.cells #[.int .i64 17, .int .i64 (IntKind.i64.wrap (s12 - 3)), .int .i64 3] 107) fun vw46 =>
        Rn Tryz.prog (Builtin.append_ #[104, 104] 104 #[Slc.v s2.1, Slc.v ((⟨some ⟨vw13.heap.size, 0, none⟩, 1, 1⟩ : Slc))]) vw46 Slc.v fun (x47 : Slc) vw48 =>
        I4 (x47, IntKind.i64.wrap (s2.2 + s12)) vw48) (Br (decide (s12 ≥ 4)) (0 ≤ s2.2 ∧ s2.2 < (l1.len : Nat) ∧ Nn l1.p fun a49 =>
          Ld vw13 (a49.add ((s2.2).toNat * 1)) (Value.int .i64) fun (x50 : Int) =>
          Nw vw13 (.cells #[.int .i64 x50, .int .i64 0, .int .i64 0, .int .i64 16, .int .i64 (IntKind.i64.wrap ((if 7 < s12 then 7 else s12) - 4)), .int .i64 2] 107) fun vw51 =>
          Rn Tryz.prog (Builtin.append_ #[104, 104] 104 #[Slc.v s2.1, Slc.v ((⟨some ⟨vw13.heap.size, 0, none⟩, 2, 2⟩ : Slc))]) vw51 Slc.v fun (x52 : Slc) vw53 =>
          I4 (x52, IntKind.i64.wrap (s2.2 + (if 7 < s12 then 7 else s12))) vw53) (0 ≤ s2.2 ∧ s2.2 < (l1.len : Nat) ∧ Nn l1.p fun a54 =>
          Ld vw13 (a54.add ((s2.2).toNat * 1)) (Value.int .i64) fun (x55 : Int) =>
          Nw vw13 (.cells #[.int .i64 x55, .int .i64 0, .int .i64 0] 107) fun vw56 =>
          Rn Tryz.prog (Builtin.append_ #[104, 104] 104 #[Slc.v s2.1, Slc.v ((⟨some ⟨vw13.heap.size, 0, none⟩, 1, 1⟩ : Slc))]) vw56 Slc.v fun (x57 : Slc) vw58 =>
          I4 (x57, IntKind.i64.wrap (s2.2 + 1)) vw58))) (Br (decide (s12 ≥ 4)) (0 ≤ s2.2 ∧ s2.2 < (l1.len : Nat) ∧ Nn l1.p fun a59 =>
        Ld vw13 (a59.add ((s2.2).toNat * 1)) (Value.int .i64) fun (x60 : Int) =>
        Nw vw13 (.cells #[.int .i64 x60, .int .i64 0, .int .i64 0, .int .i64 16, .int .i64 (IntKind.i64.wrap ((if 7 < s12 then 7 else s12) - 4)), .int .i64 2] 107) fun vw61 =>
        Rn Tryz.prog (Builtin.append_ #[104, 104] 104 #[Slc.v s2.1, Slc.v ((⟨some ⟨vw13.heap.size, 0, none⟩, 2, 2⟩ : Slc))]) vw61 Slc.v fun (x62 : Slc) vw63 =>
        I4 (x62, IntKind.i64.wrap (s2.2 + (if 7 < s12 then 7 else s12))) vw63) (0 ≤ s2.2 ∧ s2.2 < (l1.len : Nat) ∧ Nn l1.p fun a64 =>
        Ld vw13 (a64.add ((s2.2).toNat * 1)) (Value.int .i64) fun (x65 : Int) =>
        Nw vw13 (.cells #[.int .i64 x65, .int .i64 0, .int .i64 0] 107) fun vw66 =>
        Rn Tryz.prog (Builtin.append_ #[104, 104] 104 #[Slc.v s2.1, Slc.v ((⟨some ⟨vw13.heap.size, 0, none⟩, 1, 1⟩ : Slc))]) vw66 Slc.v fun (x67 : Slc) vw68 =>
        I4 (x67, IntKind.i64.wrap (s2.2 + 1)) vw68)))
def S65L1 (l1 : Slc) (s2 : Slc × Int) (vJ69 : Int → World → Prop) (I72 : Int → World → Prop) (s70 : Int) (vw71 : World) : Prop :=
  Br (decide ((IntKind.i64.wrap (s2.2 + s70)) < ((l1.len : Nat) : Int))) (0 ≤ (IntKind.i64.wrap (s2.2 + s70)) ∧ (IntKind.i64.wrap (s2.2 + s70)) < (l1.len : Nat) ∧ Nn l1.p fun a73 =>
    Ld vw71.drew (a73.add ((IntKind.i64.wrap (s2.2 + s70)).toNat * 1)) (Value.int .i64) fun (x74 : Int) =>
    0 ≤ s2.2 ∧ s2.2 < (l1.len : Nat) ∧ Nn l1.p fun a75 =>
    Ld vw71.drew (a75.add ((s2.2).toNat * 1)) (Value.int .i64) fun (x76 : Int) =>
    Br (x74 == x76) (I72 (IntKind.i64.wrap (s70 + 1)) vw71.drew) (vJ69 s70 vw71.drew)) (vJ69 s70 vw71.drew)
def S65L2 (l1 : Slc) (R : Slc → World → Prop) (I4 : (Slc × Int) → World → Prop) (s2 : Slc × Int) (vw3 : World) : Prop :=
  Br (decide (s2.2 < ((l1.len : Nat) : Int))) (Join (S65J1 l1 s2 I4) fun (vJ69 : Int → World → Prop) =>
      Lp (σ := Int) (S65L1 l1 s2 vJ69) 1 vw3) (R s2.1 vw3)
/-- foliant/deflate.marks -/
def S65 (l1 : Slc) (w : World) (R : Slc → World → Prop) : Prop :=
  Lp (σ := Slc × Int) (S65L2 l1 R) ((⟨none, 0, 0⟩ : Slc), 0) w
def pl65 : Plan := (.seq (.reg .seq) (.seq (.reg .seq) (.seq (.seq (.reg .seq) (.block (.loop [(3, (.one .slc)), (4, (.one (.int .i64)))] [0] (.seq (.seq (.reg .seq) (.cond .leaf .leaf)) (.block (.seq (.reg .seq) (.join [(5, (.one (.int .i64)))] [0, 3, 4] (.block (.loop [(5, (.one (.int .i64)))] [0, 3, 4] (.seq (.seq (.reg .still) (.cond .leaf .leaf)) (.block (.reg .seq))))) (.seq (.block (.seq (.reg .seq) (.cond (.seq (.reg .seq) (.reg .seq)) (.seq (.reg .seq) (.cond (.reg .seq) (.seq (.reg .seq) (.cond (.seq (.reg .seq) (.reg .seq)) (.seq (.reg .seq) (.reg .seq))))))))) (.reg .seq))))))))) (.seq (.reg .seq) .leaf))))
set_option maxRecDepth 100000 in
theorem T65 (l1 : Slc) (w : World) (R : Slc → World → Prop) (h : S65 l1 w R) : C65 l1 w R := by
  have e : fnT Tryz.prog ⟨FF, MAY, (fun _ _ => False)⟩ pl65 Tryz.f65 [Slc.v l1] w [(.one .slc)] (fun s w => R s w) = S65 l1 w R := by kernel_rfl
  exact (fn_calls okF okM Tryz.func65 (by kernel_rfl) (by kernel_rfl) (e.mpr h)).mono fun _ _ ⟨s, he, hR⟩ => ⟨s, he, hR⟩

/-- foliant/deflate.places -/
def S66 (w : World) (R : (Int × Int × Int × Int × Int × Int × Int × Int × Int × Int × Int × Int × Int × Int × Int × Int × Int × Int × Int) → World → Prop) : Prop :=
  Nw w (.cells #[.int .i64 0, .int .i64 0, .int .i64 0, .int .i64 0, .int .i64 0, .int .i64 0, .int .i64 0, .int .i64 0, .int .i64 0, .int .i64 0, .int .i64 0, .int .i64 0, .int .i64 0, .int .i64 0, .int .i64 0, .int .i64 0, .int .i64 0, .int .i64 0, .int .i64 0] 108) fun vw1 =>
  St vw1 (⟨w.heap.size, 0, none⟩ : Addr) (.int .i64 16) fun vw2 =>
  St vw2 ((⟨w.heap.size, 0, none⟩ : Addr).add 1) (.int .i64 17) fun vw3 =>
  St vw3 ((⟨w.heap.size, 0, none⟩ : Addr).add 2) (.int .i64 18) fun vw4 =>
  St vw4 ((⟨w.heap.size, 0, none⟩ : Addr).add 3) (.int .i64 0) fun vw5 =>
  St vw5 ((⟨w.heap.size, 0, none⟩ : Addr).add 4) (.int .i64 8) fun vw6 =>
  St vw6 ((⟨w.heap.size, 0, none⟩ : Addr).add 5) (.int .i64 7) fun vw7 =>
  St vw7 ((⟨w.heap.size, 0, none⟩ : Addr).add 6) (.int .i64 9) fun vw8 =>
  St vw8 ((⟨w.heap.size, 0, none⟩ : Addr).add 7) (.int .i64 6) fun vw9 =>
  St vw9 ((⟨w.heap.size, 0, none⟩ : Addr).add 8) (.int .i64 10) fun vw10 =>
  St vw10 ((⟨w.heap.size, 0, none⟩ : Addr).add 9) (.int .i64 5) fun vw11 =>
  St vw11 ((⟨w.heap.size, 0, none⟩ : Addr).add 10) (.int .i64 11) fun vw12 =>
  St vw12 ((⟨w.heap.size, 0, none⟩ : Addr).add 11) (.int .i64 4) fun vw13 =>
  St vw13 ((⟨w.heap.size, 0, none⟩ : Addr).add 12) (.int .i64 12) fun vw14 =>
  St vw14 ((⟨w.heap.size, 0, none⟩ : Addr).add 13) (.int .i64 3) fun vw15 =>
  St vw15 ((⟨w.heap.size, 0, none⟩ : Addr).add 14) (.int .i64 13) fun vw16 =>
  St vw16 ((⟨w.heap.size, 0, none⟩ : Addr).add 15) (.int .i64 2) fun vw17 =>
  St vw17 ((⟨w.heap.size, 0, none⟩ : Addr).add 16) (.int .i64 14) fun vw18 =>
  St vw18 ((⟨w.heap.size, 0, none⟩ : Addr).add 17) (.int .i64 1) fun vw19 =>
  St vw19 ((⟨w.heap.size, 0, none⟩ : Addr).add 18) (.int .i64 15) fun vw20 =>
  Ld vw20 (⟨w.heap.size, 0, none⟩ : Addr) (Value.int .i64) fun (x21 : Int) =>
  Ld vw20 ((⟨w.heap.size, 0, none⟩ : Addr).add 1) (Value.int .i64) fun (x22 : Int) =>
  Ld vw20 ((⟨w.heap.size, 0, none⟩ : Addr).add 2) (Value.int .i64) fun (x23 : Int) =>
  Ld vw20 ((⟨w.heap.size, 0, none⟩ : Addr).add 3) (Value.int .i64) fun (x24 : Int) =>
  Ld vw20 ((⟨w.heap.size, 0, none⟩ : Addr).add 4) (Value.int .i64) fun (x25 : Int) =>
  Ld vw20 ((⟨w.heap.size, 0, none⟩ : Addr).add 5) (Value.int .i64) fun (x26 : Int) =>
  Ld vw20 ((⟨w.heap.size, 0, none⟩ : Addr).add 6) (Value.int .i64) fun (x27 : Int) =>
  Ld vw20 ((⟨w.heap.size, 0, none⟩ : Addr).add 7) (Value.int .i64) fun (x28 : Int) =>
  Ld vw20 ((⟨w.heap.size, 0, none⟩ : Addr).add 8) (Value.int .i64) fun (x29 : Int) =>
  Ld vw20 ((⟨w.heap.size, 0, none⟩ : Addr).add 9) (Value.int .i64) fun (x30 : Int) =>
  Ld vw20 ((⟨w.heap.size, 0, none⟩ : Addr).add 10) (Value.int .i64) fun (x31 : Int) =>
  Ld vw20 ((⟨w.heap.size, 0, none⟩ : Addr).add 11) (Value.int .i64) fun (x32 : Int) =>
  Ld vw20 ((⟨w.heap.size, 0, none⟩ : Addr).add 12) (Value.int .i64) fun (x33 : Int) =>
  Ld vw20 ((⟨w.heap.size, 0, none⟩ : Addr).add 13) (Value.int .i64) fun (x34 : Int) =>
  Ld vw20 ((⟨w.heap.size, 0, none⟩ : Addr).add 14) (Value.int .i64) fun (x35 : Int) =>
  Ld vw20 ((⟨w.heap.size, 0, none⟩ : Addr).add 15) (Value.int .i64) fun (x36 : Int) =>
  Ld vw20 ((⟨w.heap.size, 0, none⟩ : Addr).add 16) (Value.int .i64) fun (x37 : Int) =>
  Ld vw20 ((⟨w.heap.size, 0, none⟩ : Addr).add 17) (Value.int .i64) fun (x38 : Int) =>
  Ld vw20 ((⟨w.heap.size, 0, none⟩ : Addr).add 18) (Value.int .i64) fun (x39 : Int) =>
  R (x21, x22, x23, x24, x25, x26, x27, x28, x29, x30, x31, x32, x33, x34, x35, x36, x37, x38, x39) vw20
def pl66 : Plan := (.seq (.reg .seq) (.seq (.reg .seq) .leaf))
set_option maxRecDepth 100000 in
theorem T66 (w : World) (R : (Int × Int × Int × Int × Int × Int × Int × Int × Int × Int × Int × Int × Int × Int × Int × Int × Int × Int × Int) → World → Prop) (h : S66 w R) : C66 w R := by
  have e : fnT Tryz.prog ⟨FF, MAY, (fun _ _ => False)⟩ pl66 Tryz.f66 [] w [(.agg [(.int .i64), (.int .i64), (.int .i64), (.int .i64), (.int .i64), (.int .i64), (.int .i64), (.int .i64), (.int .i64), (.int .i64), (.int .i64), (.int .i64), (.int .i64), (.int .i64), (.int .i64), (.int .i64), (.int .i64), (.int .i64), (.int .i64)])] (fun s w => R s w) = S66 w R := by kernel_rfl
  exact (fn_calls okF okM Tryz.func66 (by kernel_rfl) (by kernel_rfl) (e.mpr h)).mono fun _ _ ⟨s, he, hR⟩ => ⟨s, he, hR⟩

def S37L1 (l1 : Slc) (vw10 : World) (r29 : Slc) (r68 : Option Addr) (r95 : Option Addr) (R : ByteArray → World → Prop) (I141 : Int → World → Prop) (s139 : Int) (vw140 : World) : Prop :=
  Br (decide (s139 < ((r29.len : Nat) : Int))) (0 ≤ s139 ∧ s139 < (r29.len : Nat) ∧ Nn r29.p fun a142 =>
    Ld vw140 (a142.add ((s139).toNat * 3)) (Value.int .i64) fun (x143 : Int) =>
    Ld vw140 ((a142.add ((s139).toNat * 3)).add 1) (Value.int .i64) fun (x144 : Int) =>
    Ld vw140 ((a142.add ((s139).toNat * 3)).add 2) (Value.int .i64) fun (x145 : Int) =>
    Nw vw140 (.cells #[.int .i64 0, .int .i64 0, .int .i64 0] 107) fun vw146 =>
    St vw146 (⟨vw140.heap.size, 0, none⟩ : Addr) (.int .i64 x143) fun vw147 =>
    St vw147 ((⟨vw140.heap.size, 0, none⟩ : Addr).add 1) (.int .i64 x144) fun vw148 =>
    St vw148 ((⟨vw140.heap.size, 0, none⟩ : Addr).add 2) (.int .i64 x145) fun vw149 =>
    Ld vw149 (⟨vw140.heap.size, 0, none⟩ : Addr) (Value.int .i64) fun (x150 : Int) =>
    C67 r68 r95 x150 vw149 fun r151 vw152 =>
      Ld vw152 ((⟨vw140.heap.size, 0, none⟩ : Addr).add 1) (Value.int .i64) fun (x153 : Int) =>
      Ld vw152 ((⟨vw140.heap.size, 0, none⟩ : Addr).add 2) (Value.int .i64) fun (x154 : Int) =>
      C53 r95 x153 x154 vw152 fun r155 vw156 =>
        I141 (IntKind.i64.wrap (s139 + 1)) vw156) (Ld vw140 (⟨vw10.heap.size, 0, none⟩ : Addr) Value.pointer fun (x157 : Option Addr) =>
    Ld vw140 ((⟨vw10.heap.size, 0, none⟩ : Addr).add 1) Value.pointer fun (x158 : Option Addr) =>
    C61 (x157, x158) r95 l1 vw140 fun vw159 =>
      C56 r95 vw159 fun r160 vw161 =>
        R r160 vw161)
def S37L2 (l1 : Slc) (vw10 : World) (r29 : Slc) (r68 : Option Addr) (r93 : Slc) (r95 : Option Addr) (R : ByteArray → World → Prop) (I116 : Int → World → Prop) (s114 : Int) (vw115 : World) : Prop :=
  Br (decide (s114 < ((r93.len : Nat) : Int))) (0 ≤ s114 ∧ s114 < (r93.len : Nat) ∧ Nn r93.p fun a117 =>
    Ld vw115 (a117.add ((s114).toNat * 1)) (Value.int .i64) fun (x118 : Int) =>
    C53 r95 x118 3 vw115 fun r119 vw120 =>
      I116 (IntKind.i64.wrap (s114 + 1)) vw120) (Lp (σ := Int) (S37L1 l1 vw10 r29 r68 r95 R) 0 vw115)
def S37L3 (l1 : Slc) (vw10 : World) (r20 : Slc) (r22 : Slc) (r29 : Slc) (r65 : Slc) (r68 : Option Addr) (r82 : Int × Int × Int × Int × Int × Int × Int × Int × Int × Int × Int × Int × Int × Int × Int × Int × Int × Int × Int) (R : ByteArray → World → Prop) (I86 : (Slc × Int) → World → Prop) (s84 : Slc × Int) (vw85 : World) : Prop :=
  Br (decide (s84.2 < 19)) (0 ≤ s84.2 ∧ s84.2 < (19 : Nat) ∧ ∃ x87 : Int, (#[.int .i64 (r82.1), .int .i64 (r82.2.1), .int .i64 (r82.2.2.1), .int .i64 (r82.2.2.2.1), .int .i64 (r82.2.2.2.2.1), .int .i64 (r82.2.2.2.2.2.1), .int .i64 (r82.2.2.2.2.2.2.1), .int .i64 (r82.2.2.2.2.2.2.2.1), .int .i64 (r82.2.2.2.2.2.2.2.2.1), .int .i64 (r82.2.2.2.2.2.2.2.2.2.1), .int .i64 (r82.2.2.2.2.2.2.2.2.2.2.1), .int .i64 (r82.2.2.2.2.2.2.2.2.2.2.2.1), .int .i64 (r82.2.2.2.2.2.2.2.2.2.2.2.2.1), .int .i64 (r82.2.2.2.2.2.2.2.2.2.2.2.2.2.1), .int .i64 (r82.2.2.2.2.2.2.2.2.2.2.2.2.2.2.1), .int .i64 (r82.2.2.2.2.2.2.2.2.2.2.2.2.2.2.2.1), .int .i64 (r82.2.2.2.2.2.2.2.2.2.2.2.2.2.2.2.2.1), .int .i64 (r82.2.2.2.2.2.2.2.2.2.2.2.2.2.2.2.2.2.1), .int .i64 (r82.2.2.2.2.2.2.2.2.2.2.2.2.2.2.2.2.2.2)] : Array Value)[(s84.2).toNat * 1]? = some (.int .i64 x87) ∧ 0 ≤ x87 ∧ x87 < (r65.len : Nat) ∧ Nn r65.p fun a88 =>
    Ld vw85 (a88.add ((x87).toNat * 1)) (Value.int .i64) fun (x89 : Int) =>
    Nw vw85 (.cells #[.int .i64 x89] 3) fun vw90 =>
    Rn Tryz.prog (Builtin.append_ #[76, 76] 76 #[Slc.v s84.1, Slc.v ((⟨some ⟨vw85.heap.size, 0, none⟩, 1, 1⟩ : Slc))]) vw90 Slc.v fun (x91 : Slc) vw92 =>
    I86 (x91, IntKind.i64.wrap (s84.2 + 1)) vw92) (C64 s84.1 4 vw85 fun r93 vw94 =>
      C52 vw94 fun r95 vw96 =>
        C53 r95 1 1 vw96 fun r97 vw98 =>
          C53 r95 2 2 vw98 fun r99 vw100 =>
            C53 r95 (IntKind.i64.wrap (((r20.len : Nat) : Int) - 257)) 5 vw100 fun r101 vw102 =>
              C53 r95 (IntKind.i64.wrap (((r22.len : Nat) : Int) - 1)) 5 vw102 fun r103 vw104 =>
                C53 r95 (IntKind.i64.wrap (((r93.len : Nat) : Int) - 4)) 4 vw104 fun r105 vw106 =>
                  Lp (σ := Int) (S37L2 l1 vw10 r29 r68 r93 r95 R) 0 vw106)
def S37L4 (l1 : Slc) (vw10 : World) (r20 : Slc) (r22 : Slc) (r29 : Slc) (x31 : Slc) (R : ByteArray → World → Prop) (PR : Value → World → Prop) (I51 : Int → World → Prop) (s49 : Int) (vw50 : World) : Prop :=
  Br (decide (s49 < ((r29.len : Nat) : Int))) (0 ≤ s49 ∧ s49 < (r29.len : Nat) ∧ Nn r29.p fun a52 =>
    Ld vw50 (a52.add ((s49).toNat * 3)) (Value.int .i64) fun (x53 : Int) =>
    Ld vw50 ((a52.add ((s49).toNat * 3)).add 1) (Value.int .i64) fun (x54 : Int) =>
    Ld vw50 ((a52.add ((s49).toNat * 3)).add 2) (Value.int .i64) fun (x55 : Int) =>
    Nw vw50 (.cells #[.int .i64 0, .int .i64 0, .int .i64 0] 107) fun vw56 =>
    St vw56 (⟨vw50.heap.size, 0, none⟩ : Addr) (.int .i64 x53) fun vw57 =>
    St vw57 ((⟨vw50.heap.size, 0, none⟩ : Addr).add 1) (.int .i64 x54) fun vw58 =>
    St vw58 ((⟨vw50.heap.size, 0, none⟩ : Addr).add 2) (.int .i64 x55) fun vw59 =>
    Ld vw59 (⟨vw50.heap.size, 0, none⟩ : Addr) (Value.int .i64) fun (x60 : Int) =>
    0 ≤ x60 ∧ x60 < (x31.len : Nat) ∧ Nn x31.p fun a61 =>
    Ld vw59 (a61.add ((x60).toNat * 1)) (Value.int .i64) fun (x62 : Int) =>
    0 ≤ x60 ∧ x60 < (x31.len : Nat) ∧ Nn x31.p fun a63 =>
    St vw59 (a63.add ((x60).toNat * 1)) (.int .i64 (IntKind.i64.wrap (x62 + 1))) fun vw64 =>
    I51 (IntKind.i64.wrap (s49 + 1)) vw64) (C63 x31 7 vw50 (fun r65 r66 vw67 =>
      C60 r65 vw67 fun r68 r69 vw70 =>
        C66 vw70 fun r82 vw83 =>
          Lp (σ := Slc × Int) (S37L3 l1 vw10 r20 r22 r29 r65 r68 r82 R) ((⟨none, 0, 0⟩ : Slc), 0) vw83) PR)
/-- foliant/deflate.own -/
def S37 (l1 : Slc) (w : World) (R : ByteArray → World → Prop) (PR : Value → World → Prop) : Prop :=
  C62 l1 w fun r2 r3 vw4 =>
    C63 r2 15 vw4 (fun r5 r6 vw7 =>
      C63 r3 15 vw7 (fun r8 r9 vw10 =>
        Nw vw10 (.cells #[.pointer none, .pointer none] 96) fun vw11 =>
        C60 r5 vw11 fun r12 r13 vw14 =>
          St vw14 (⟨vw10.heap.size, 0, none⟩ : Addr) (.pointer r12) fun vw15 =>
          C60 r8 vw15 fun r16 r17 vw18 =>
            St vw18 ((⟨vw10.heap.size, 0, none⟩ : Addr).add 1) (.pointer r16) fun vw19 =>
            C64 r5 257 vw19 fun r20 vw21 =>
              C64 r8 1 vw21 fun r22 vw23 =>
                Nw vw23 (.cells #[] 3) fun vw24 =>
                Rn Tryz.prog (Builtin.append_ #[76, 76] 76 #[Slc.v ((⟨some ⟨vw23.heap.size, 0, none⟩, 0, 0⟩ : Slc)), Slc.v r20]) vw24 Slc.v fun (x25 : Slc) vw26 =>
                Rn Tryz.prog (Builtin.append_ #[76, 76] 76 #[Slc.v x25, Slc.v r22]) vw26 Slc.v fun (x27 : Slc) vw28 =>
                C65 x27 vw28 fun r29 vw30 =>
                  Rn Tryz.prog (Instr.makeSlice 76 (.int .i64 19) (.int .i64 19)) vw30 Slc.v fun (x31 : Slc) vw32 =>
                  Lp (σ := Int) (S37L4 l1 vw10 r20 r22 r29 x31 R PR) 0 vw32) PR) PR
def pl37 : Plan := (.seq (.reg .seq) (.seq (.reg .seq) (.seq (.reg .seq) (.seq (.reg .seq) (.seq (.reg .seq) (.seq (.reg .seq) (.seq (.reg .seq) (.seq (.reg .seq) (.seq (.reg .seq) (.seq (.reg .seq) (.seq (.seq (.reg .seq) (.block (.loop [(66, (.one (.int .i64)))] [0, 5, 7, 9, 10, 11, 64, 65] (.seq (.reg .seq) (.seq (.cond .leaf .leaf) (.seq (.block (.seq (.reg .seq) (.reg .seq))) (.reg .seq))))))) (.seq (.reg .seq) (.seq (.reg .seq) (.seq (.reg .seq) (.seq (.seq (.reg .seq) (.block (.loop [(18, (.one .slc)), (89, (.one (.int .i64)))] [0, 5, 7, 9, 10, 14, 16, 88] (.seq (.reg .seq) (.seq (.cond .leaf .leaf) (.seq (.block (.seq (.reg .seq) (.reg .seq))) (.reg .seq))))))) (.seq (.reg .seq) (.seq (.reg .seq) (.seq (.reg .seq) (.seq (.reg .seq) (.seq (.reg .seq) (.seq (.reg .seq) (.seq (.reg .seq) (.seq (.seq (.reg .seq) (.block (.loop [(124, (.one (.int .i64)))] [0, 9, 10, 16, 21, 122, 123] (.seq (.reg .seq) (.seq (.cond .leaf .leaf) (.seq (.block (.seq (.reg .seq) (.reg .seq))) (.reg .seq))))))) (.seq (.seq (.reg .seq) (.block (.loop [(134, (.one (.int .i64)))] [0, 9, 16, 21, 132, 133] (.seq (.reg .seq) (.seq (.cond .leaf .leaf) (.seq (.block (.seq (.reg .seq) (.seq (.reg .seq) (.reg .seq)))) (.reg .seq))))))) (.seq (.reg .seq) (.seq (.reg .seq) .leaf))))))))))))))))))))))))))
set_option maxRecDepth 100000 in
theorem T37 (l1 : Slc) (w : World) (R : ByteArray → World → Prop) (PR : Value → World → Prop) (h : S37 l1 w R PR) : C37 l1 w R PR := by
  have e : fnT Tryz.prog ⟨FF, MAY, PR⟩ pl37 Tryz.f37 [Slc.v l1] w [(.one .str)] (fun s w => R s w) = S37 l1 w R PR := by kernel_rfl
  exact (fn_callsP okF okM Tryz.func37 (by kernel_rfl) (by kernel_rfl) (e.mpr h)).mono fun _ _ he => he.elim (fun ⟨s, he, hR⟩ => .inl ⟨s, he, hR⟩) .inr

/-- strings.Clone -/
def S38 (s1 : ByteArray) (w : World) (R : ByteArray → World → Prop) : Prop :=
  C68 s1 w fun r2 vw3 =>
    R r2 vw3
def pl38 : Plan := (.seq (.reg .seq) (.seq (.reg .seq) .leaf))
set_option maxRecDepth 100000 in
theorem T38 (s1 : ByteArray) (w : World) (R : ByteArray → World → Prop) (h : S38 s1 w R) : C38 s1 w R := by
  have e : fnT Tryz.prog ⟨FF, MAY, (fun _ _ => False)⟩ pl38 Tryz.f38 [.string s1] w [(.one .str)] (fun s w => R s w) = S38 s1 w R := by kernel_rfl
  exact (fn_calls okF okM Tryz.func38 (by kernel_rfl) (by kernel_rfl) (e.mpr h)).mono fun _ _ ⟨s, he, hR⟩ => ⟨s, he, hR⟩

/-- foliant/deflate.All -/
def S19 (s1 : ByteArray) (level2 : Int) (w : World) (R : ByteArray → Int → World → Prop) (PR : Value → World → Prop) : Prop :=
  Br (decide (level2 < 0)) (R (⟨#[]⟩ : ByteArray) 1 w) (Br (decide (level2 > 2)) (R (⟨#[]⟩ : ByteArray) 1 w) (Br (decide ((((s1).size : Nat) : Int) > 1048576)) (R (⟨#[]⟩ : ByteArray) 5 w) (C34 s1 w fun r3 vw4 =>
          Br (level2 == 0) (R r3 0 vw4) (C35 s1 vw4 fun r5 vw6 =>
              C36 r5 vw6 (fun r9 vw10 =>
                Br (decide ((((r9).size : Nat) : Int) < (((r3).size : Nat) : Int))) (Br (level2 == 2) (C37 r5 vw10 (fun r11 vw12 =>
                      Br (decide ((((r11).size : Nat) : Int) < (((r9).size : Nat) : Int))) (C38 r11 vw12 fun r13 vw14 =>
                          R r13 0 vw14) (C38 r9 vw12 fun r15 vw16 =>
                          R r15 0 vw16)) PR) (C38 r9 vw10 fun r17 vw18 =>
                      R r17 0 vw18)) (Br (level2 == 2) (C37 r5 vw10 (fun r19 vw20 =>
                      Br (decide ((((r19).size : Nat) : Int) < (((r3).size : Nat) : Int))) (C38 r19 vw20 fun r21 vw22 =>
                          R r21 0 vw22) (C38 r3 vw20 fun r23 vw24 =>
                          R r23 0 vw24)) PR) (C38 r3 vw10 fun r25 vw26 =>
                      R r25 0 vw26))) PR))))
def pl19 : Plan := (.seq (.reg .seq) (.seq (.block (.seq (.reg .seq) (.cond (.seq (.reg .seq) .leaf) (.seq (.reg .seq) (.cond (.seq (.reg .seq) .leaf) .leaf))))) (.seq (.reg .seq) (.seq (.seq (.reg .seq) (.cond (.seq (.reg .seq) .leaf) .leaf)) (.seq (.reg .seq) (.seq (.seq (.reg .seq) (.seq (.reg .seq) (.cond (.reg .seq) .leaf))) (.seq (.seq (.reg .seq) (.cond (.seq (.reg .seq) (.seq (.reg .seq) (.cond (.reg .seq) .leaf))) .leaf)) (.seq (.reg .seq) .leaf))))))))
set_option maxRecDepth 100000 in
theorem T19 (s1 : ByteArray) (level2 : Int) (w : World) (R : ByteArray → Int → World → Prop) (PR : Value → World → Prop) (h : S19 s1 level2 w R PR) : C19 s1 level2 w R PR := by
  have e : fnT Tryz.prog ⟨FF, MAY, PR⟩ pl19 Tryz.f19 [.string s1, .int .i64 level2] w [(.one .str), (.one (.int .i64))] (fun s w => R s.1 s.2 w) = S19 s1 level2 w R PR := by kernel_rfl
  exact (fn_callsP okF okM Tryz.func19 (by kernel_rfl) (by kernel_rfl) (e.mpr h)).mono fun _ _ he => he.elim (fun ⟨s, he, hR⟩ => .inl ⟨s.1, s.2, he, hR⟩) .inr

end Go.Proofs.YtjkoafjnmkchdaaGreatDoor

/- Deflate: parts written with a pair of codes; a block with the fixed codes. Conditions: sizes. -/
namespace Go.Proofs.YtjkoafjnmkchdaaGreatDoor
namespace Inf
open Sh Bit
set_option linter.unusedVariables false
set_option linter.unusedSimpArgs false
set_option maxRecDepth 4000
set_option maxHeartbeats 1000000
attribute [local irreducible] Ld St Nw Nn Lt LdS
/-- A writer that stands behind all that was before. -/
structure PW (w0 w : World) (wlo wb : Nat) (ws : Slc) (way : Int) (st : WS) : Prop where
  wr : WrB w wb ws way st
  inv : WInv way st
  way : way = 0 ∨ way = 1
  lo : ∀ j, fp wb ws j → wlo ≤ j
  big : wlo ≤ w.heap.size
  ext : Ext (fun j => wlo ≤ j) w0 w
/-- Blocks that the writer does not touch. -/
def Hold (w : World) (wb : Nat) (ws : Slc) (G : List (Nat × List Value × TypeId)) : Prop := ∀ p ∈ G, Blk w p.1 p.2.1.toArray p.2.2 ∧ ¬ fp wb ws p.1
section
variable {w0 w w1 : World} {wlo wb : Nat} {ws ws' : Slc} {way : Int} {st st' : WS} {G : List (Nat × List Value × TypeId)}
theorem PW.call (h : PW w0 w wlo wb ws way st) (h1 : WrB w1 wb ws' 1 st') (n : Wn w w1 wb ws ws') (hi : WInv 1 st') : PW w0 w1 wlo wb ws' 1 st' :=
  ⟨h1, hi, .inr rfl, fun j hj => by
    rcases hj with e | e
    · exact h.lo j (.inl e)
    · rcases n.new j e with e | e
      · exact h.lo j (.inr e)
      · exact Nat.le_trans h.big e, Nat.le_trans h.big n.ext.size, h.ext.trans n.ext (fun _ h => h) fun j hj e => h.lo j e⟩
theorem PW.keep (h : PW w0 w wlo wb ws way st) (he : Ext (fun _ => False) w w1) : PW w0 w1 wlo wb ws way st :=
  ⟨h.wr.keep he fun _ _ h => h, h.inv, h.way, h.lo, Nat.le_trans h.big he.size, h.ext.trans he (fun _ h => h) fun _ _ e => e.elim⟩
theorem Hold.call (h : Hold w wb ws G) (n : Wn w w1 wb ws ws') : Hold w1 wb ws' G := fun p hp => by
  obtain ⟨a, b⟩ := h p hp
  refine ⟨n.ext.blk a b, fun e => ?_⟩
  rcases e with e | e
  · exact b (.inl e)
  · rcases n.new _ e with e | e
    · exact b (.inr e)
    · have := a.lt; omega
theorem Hold.keep (h : Hold w wb ws G) (he : Ext (fun _ => False) w w1) : Hold w1 wb ws G := fun p hp => ⟨he.blk (h p hp).1 id, (h p hp).2⟩
theorem Hold.ld {α : Type} {V : α → Value} {K : α → Prop} {x : α} {b o : Nat} {cs : List Value} {t : TypeId} (h : Hold w wb ws G) (i : Nat) (hi : G[i]? = some (b, cs, t)) (hx : cs[o]? = some (V x)) (hk : K x) : Ld w ⟨b, o, none⟩ V K :=
  Ld.of (h _ (List.mem_of_getElem? hi)).1 (by simpa using hx) hk
/-- Bits are written. -/
theorem PW.low (h : PW w0 w wlo wb ws way st) (hsz : st.1.length ≤ 200000000000) (v n : Nat) (hv : v < 2 ^ n) (hn2 : n ≤ 24) (hn : 1 ≤ n ∨ way = 1) :
    C53 (at1 wb) (v : Int) (n : Int) w fun e w1 => ∃ ws', PW w0 w1 wlo wb ws' 1 (lw st v n) ∧ Wn w w1 wb ws ws' := by
  have e2 : ((2 ^ n : Nat) : Int) = 2 ^ n := by simp
  have hway := h.way
  have hp : putR way st (v : Int) (n : Int) 1 = (0, lw st v n, 1) := by
    rw [putR_ok (by rw [Int.toNat_natCast]; omega)]
    simp only [Int.toNat_natCast]
    refine Prod.ext rfl (Prod.ext rfl ?_)
    dsimp only
    split <;> omega
  refine (c_wlow h.wr h.inv (by omega) (v : Int) (n : Int)).mono ?_
  rw [hp]
  rintro e w1 ⟨_, s', h1, h2⟩
  refine ⟨s', h.call h1 h2 ?_, h2⟩
  exact ⟨(h.inv.to (by omega)).put _ _ _, fun e => absurd e (by decide)⟩
/-- A sign is written. -/
theorem PW.sign {lens : List Int} {lo hi tb : Nat} (h : PW w0 w wlo wb ws way st) (hsz : st.1.length ≤ 200000000000) (ht0 : TB w0 lo hi tb lens) (hhi : hi ≤ wlo) (hc : chk lens = 0) {g : Nat} (hg : g < lens.length) (h0 : 0 < lens.getD g 0) :
    C67 (some (⟨tb, 0, none⟩ : Addr)) (at1 wb) (g : Int) w fun e w1 => ∃ ws', PW w0 w1 wlo wb ws' 1 (cw lens st g) ∧ Wn w w1 wb ws ws' := by
  obtain ⟨n, hn⟩ := Int.eq_ofNat_of_zero_le (show 0 ≤ lens.getD g 0 by omega)
  have hway := h.way
  refine (c_write (ht0.keep h.ext fun j _ hj => by omega) hc h.wr h.inv h.way hsz (fun j hj => .inr (by have := h.lo j hj; omega)) hg hn (by omega)).mono ?_
  rintro e w1 ⟨_, s', h1, h2⟩
  refine ⟨s', h.call h1 h2 ?_, h2⟩
  exact ⟨cw_ok (h.inv.to (by omega)) _, fun e => absurd e (by decide)⟩
end
theorem wP_len {near far : List Int} (hn : Lok near) (hf : Lok far) (st : WS) (p : Prt) (hp : p.ok) : (wP near far st p).1.length ≤ st.1.length + 48 := by
  unfold wP
  split
  · have := cw_len (st := st) hn p.b.toNat
    omega
  · rename_i h0
    rcases hp with hp | ⟨_, h3, h4, h5, h6⟩
    · exact absurd hp.1 h0
    have a1 := cw_len (st := st) hn (257 + kL p.n)
    have a2 := lw_len (cw near st (257 + kL p.n)) (p.n - firstL (kL p.n)) (moreL (kL p.n))
    have a3 := cw_len (st := lw (cw near st (257 + kL p.n)) (p.n - firstL (kL p.n)) (moreL (kL p.n))) hf (kD p.f)
    have a4 := lw_len (cw far (lw (cw near st (257 + kL p.n)) (p.n - firstL (kL p.n)) (moreL (kL p.n))) (kD p.f)) (p.f - baseD (kD p.f)) (moreD (kD p.f))
    obtain ⟨k1, _⟩ := kL_spec h3 h4
    obtain ⟨d1, _⟩ := kD_spec h5 h6
    have b1 : moreL (kL p.n) ≤ 5 := by unfold moreL; split <;> omega
    have b2 : moreD (kD p.f) ≤ 13 := by unfold moreD; omega
    omega
/-- (foliant/deflate.pair).write -/
theorem c_pair {w : World} {wlo wb : Nat} {ws s : Slc} {way : Int} {st : WS} {near far : List Int} {lo1 hi1 t1 lo2 hi2 t2 : Nat} {l : List Prt} (hP : PV w s (l.map rawP)) (hsl : l ≠ [] → ∀ j, s.own j → j < wlo) (hl : l.length ≤ 1048576) (hok : ∀ p ∈ l, p.ok ∧ Has near far p)
    (T1 : TB w lo1 hi1 t1 near) (T2 : TB w lo2 hi2 t2 far) (h1 : hi1 ≤ wlo) (h2 : hi2 ≤ wlo) (hc1 : chk near = 0) (hc2 : chk far = 0) (hg : 256 < near.length) (hg0 : 0 < near.getD 256 0) (hW : WrB w wb ws way st) (hi : WInv way st) (hway : way = 0 ∨ way = 1) (hlo : ∀ j, fp wb ws j → wlo ≤ j) (hbig : wlo ≤ w.heap.size) (hsz : st.1.length ≤ 100000) :
    C61 (some ⟨t1, 0, none⟩, some ⟨t2, 0, none⟩) (at1 wb) s w fun w1 => ∃ ws', PW w w1 wlo wb ws' 1 (cw near (l.foldl (wP near far) st) 256) ∧ Wn w w1 wb ws ws' := by
  have hk1 := chk_lok hc1
  have hk2 := chk_lok hc2
  refine T61 (some ⟨t1, 0, none⟩, some ⟨t2, 0, none⟩) _ _ _ _ ?_
  unfold S61
  refine Nw.of ?_
  have e4 := (Ext.refl (fun _ => False) w).alloc (.cells #[.pointer (some ⟨t1, 0, none⟩), .pointer (some ⟨t2, 0, none⟩)] 96)
  have hfl : ∀ j, fp wb ws j → j < w.heap.size := hW.lt
  have P0 : PW w w wlo wb ws way st := ⟨hW, hi, hway, hlo, hbig, Ext.refl _ _⟩
  refine ⟨fun m i' w3 => ∃ (i : Nat) (ws' : Slc) (way' : Int), i' = (i : Int) ∧ i ≤ l.length ∧ m = l.length - i ∧ PW w w3 wlo wb ws' way' ((l.take i).foldl (wP near far) st) ∧ Wn w w3 wb ws ws' ∧ Hold w3 wb ws' [(w.heap.size, [.pointer (some ⟨t1, 0, none⟩), .pointer (some ⟨t2, 0, none⟩)], 96)] ∧ ((l.take i).foldl (wP near far) st).1.length ≤ 100000 + 48 * i, l.length,
    ⟨0, ws, way, rfl, Nat.zero_le _, rfl, P0.keep e4, (Wn.refl _ _ _).to' e4, fun p hp => by
      rw [List.mem_singleton.1 hp]
      exact ⟨Blk.new w _ _, fun hh => by have := hfl _ hh; simp at this⟩, hsz⟩, ?_⟩
  rintro m i' w3 ⟨i, ws3, way3, rfl, hil, rfl, P3, n3, H3, z3⟩
  unfold S61L1
  have hlen : s.len = l.length := by rw [hP.1, List.length_map]
  rw [hlen]
  refine Br.dec (fun q => ?_) fun q => ?_
  · have hil : i < l.length := by omega
    have hio : (l.map rawP)[i]? = some (rawP l[i]) := by rw [List.getElem?_map, List.getElem?_eq_getElem hil]; rfl
    have hPk : PV w3 s (l.map rawP) := ⟨hP.1, hP.2.keepF P3.ext fun j hj e => by have := hsl (fun e => by rw [e] at hil; simp at hil) j hj; omega⟩
    obtain ⟨a, ha, c0, c1, c2⟩ := hPk.get hio
    obtain ⟨pok, phas⟩ := hok l[i] (List.getElem_mem hil)
    have htk : (l.take (i + 1)).foldl (wP near far) st = wP near far ((l.take i).foldl (wP near far) st) l[i] := by
      rw [List.take_add_one, List.getElem?_eq_getElem hil, List.foldl_append]
      rfl
    have hwl := wP_len hk1 hk2 ((l.take i).foldl (wP near far) st) l[i] pok
    rw [← htk] at hwl
    generalize (l.take i).foldl (wP near far) st = st3 at *
    generalize l[i] = p at *
    obtain ⟨pb, pn, pf⟩ := p
    have hpb := pb.toNat_lt
    rw [ha]
    refine ⟨by omega, by omega, Nn.of ?_⟩
    rw [Int.toNat_natCast]
    refine Ld.mk (x := (pb.toNat : Int)) c0 (Ld.mk (x := (pn : Int)) c1 (Ld.mk (x := (pf : Int)) c2 ?_))
    refine (Hn.start w3).nw fun w4 H => ?_
    simp only [List.nil_append] at H
    iterate 3 (refine H.st 0 rfl (by simp) fun _ H => ?_; simp only [List.nil_append, List.cons_append, List.set_cons_zero, List.set_cons_succ, Nat.zero_add] at H)
    rename_i w7
    have P7 := P3.keep H.ext
    have n7 := n3.to' H.ext
    have H7 : Hold w7 wb ws3 [(w.heap.size, [.pointer (some ⟨t1, 0, none⟩), .pointer (some ⟨t2, 0, none⟩)], 96), (w3.heap.size, [.int .u8 (pb.toNat : Int), .int .i64 (pn : Int), .int .i64 (pf : Int)], 91)] := fun p hp => by
      rcases List.mem_cons.1 hp with rfl | hp
      · exact H3.keep H.ext _ (List.mem_singleton.2 rfl)
      · rw [List.mem_singleton.1 hp]
        exact ⟨H.get 0 rfl, fun hh => by have := P3.wr.lt _ hh; simp at this⟩
    clear H
    have fin : ∀ w9 ws9, PW w w9 wlo wb ws9 1 (wP near far st3 ⟨pb, pn, pf⟩) → Wn w w9 wb ws ws9 → Hold w9 wb ws9 [(w.heap.size, [.pointer (some ⟨t1, 0, none⟩), .pointer (some ⟨t2, 0, none⟩)], 96), (w3.heap.size, [.int .u8 (pb.toNat : Int), .int .i64 (pn : Int), .int .i64 (pf : Int)], 91)] →
        ∃ n', n' < l.length - i ∧ ∃ (i_1 : Nat) (ws' : Slc) (way' : Int), IntKind.i64.wrap ((i : Int) + 1) = (i_1 : Int) ∧ i_1 ≤ l.length ∧ n' = l.length - i_1 ∧ PW w w9 wlo wb ws' way' ((l.take i_1).foldl (wP near far) st) ∧ Wn w w9 wb ws ws' ∧ Hold w9 wb ws' [(w.heap.size, [.pointer (some ⟨t1, 0, none⟩), .pointer (some ⟨t2, 0, none⟩)], 96)] ∧ ((l.take i_1).foldl (wP near far) st).1.length ≤ 100000 + 48 * i_1 := fun w9 ws9 P9 n9 H9 =>
      ⟨l.length - (i + 1), by omega, i + 1, ws9, 1, by rw [i64_id (by omega)]; rfl, by omega, rfl, by rw [htk]; exact P9, n9, fun p hp => H9 p (by rw [List.mem_singleton.1 hp]; exact List.mem_cons_self ..), by omega⟩
    refine H7.ld 1 rfl rfl ?_
    unfold Has at phas
    dsimp only at phas
    refine Br.eq (fun h0 => ?_) fun h0 => ?_
    · have hpn : pn = 0 := by omega
      subst hpn
      rw [if_pos rfl] at phas
      refine H7.ld 0 rfl rfl ?_
      refine H7.ld 1 rfl rfl ?_
      rw [i64_id (by omega)]
      refine (P7.sign (by omega) T1 h1 hc1 phas.1 phas.2).mono ?_
      rintro e w8 ⟨ws8, P8, n8⟩
      exact fin w8 ws8 P8 (n7.trans n8) (H7.call n8)
    · have hpn : ¬ pn = 0 := by omega
      rw [if_neg hpn] at phas
      rcases pok with hp | ⟨_, q3, q4, q5, q6⟩
      · exact absurd hp.1 hpn
      dsimp only at q3 q4 q5 q6
      obtain ⟨k1, k2, k3, k4⟩ := kL_spec q3 q4
      obtain ⟨d1, d2, d3⟩ := kD_spec q5 q6
      have b1 : moreL (kL pn) ≤ 5 := by unfold moreL; split <;> omega
      have b2 : moreD (kD pf) ≤ 13 := by unfold moreD; omega
      refine H7.ld 1 rfl rfl ?_
      refine (c_Sign (pn : Int) w7).mono ?_
      rintro a1 a2 a3 a4 w8 ⟨hs, e8⟩
      unfold sgnF at hs
      rw [if_neg (by omega), Int.toNat_natCast] at hs
      simp only [Prod.mk.injEq] at hs
      obtain ⟨rfl, rfl, rfl, rfl⟩ := hs
      have P8 := P7.keep e8
      have n8 := n7.to' e8
      have H8 := H7.keep e8
      refine H8.ld 0 rfl rfl ?_
      refine (P8.sign (by omega) T1 h1 hc1 phas.1.1 phas.1.2).mono ?_
      rintro _ w9 ⟨ws9, P9, n9⟩
      have H9 := H8.call n9
      have l9 := cw_len (st := st3) hk1 (257 + kL pn)
      refine (P9.low (by omega) (pn - firstL (kL pn)) (moreL (kL pn)) (by omega) (by omega) (.inr rfl)).mono ?_
      rintro _ w10 ⟨ws10, P10, n10⟩
      have H10 := H9.call n10
      have l10 := lw_len (cw near st3 (257 + kL pn)) (pn - firstL (kL pn)) (moreL (kL pn))
      refine H10.ld 1 rfl rfl ?_
      refine (c_Back (pf : Int) w10).mono ?_
      rintro a1 a2 a3 a4 w11 ⟨hs, e11⟩
      unfold bckF at hs
      rw [if_neg (by omega), Int.toNat_natCast] at hs
      simp only [Prod.mk.injEq] at hs
      obtain ⟨rfl, rfl, rfl, rfl⟩ := hs
      have P11 := P10.keep e11
      have H11 := H10.keep e11
      refine H11.ld 0 rfl rfl ?_
      refine (P11.sign (by omega) T2 h2 hc2 phas.2.1 phas.2.2).mono ?_
      rintro _ w12 ⟨ws12, P12, n12⟩
      have H12 := H11.call n12
      have l12 := cw_len (st := lw (cw near st3 (257 + kL pn)) (pn - firstL (kL pn)) (moreL (kL pn))) hk2 (kD pf)
      refine (P12.low (by omega) (pf - baseD (kD pf)) (moreD (kD pf)) (by unfold moreD at *; omega) (by omega) (.inr rfl)).mono ?_
      rintro _ w13 ⟨ws13, P13, n13⟩
      refine fin w13 ws13 ?_ (((((n8.trans n9).trans n10).to' e11).trans n12).trans n13) (H12.call n13)
      unfold wP
      rw [if_neg hpn]
      exact P13
  · have : i = l.length := by omega
    subst this
    rw [List.take_length] at P3 z3
    refine H3.ld 0 rfl rfl ?_
    refine (P3.sign (by omega) T1 h1 hc1 (g := 256) hg hg0).mono ?_
    rintro _ w4 ⟨ws4, P4, n4⟩
    exact ⟨ws4, P4, n3.trans n4⟩
theorem wPs_len {near far : List Int} (hn : Lok near) (hf : Lok far) : ∀ (l : List Prt) (st : WS), (∀ p ∈ l, p.ok) → (l.foldl (wP near far) st).1.length ≤ st.1.length + 48 * l.length
  | [], st, _ => Nat.le_refl _
  | p :: l, st, h => by
    have h1 := wP_len hn hf st p (h p (List.mem_cons_self ..))
    have h2 := wPs_len hn hf l (wP near far st p) fun q hq => h q (List.mem_cons_of_mem _ hq)
    rw [List.foldl_cons, List.length_cons]
    omega
theorem PV.lt {w : World} {s : Slc} {L : List Qr} (h : PV w s L) (hL : L ≠ []) {j : Nat} (hj : s.own j) : j < w.heap.size := by
  obtain ⟨q, r, rfl⟩ := List.exists_cons_of_ne_nil hL
  obtain ⟨a, ha, c, _⟩ := h.get (i := 0) rfl
  obtain ⟨b, hb, rfl⟩ := hj
  rw [ha] at hb
  cases hb
  have := cell_lt' c
  rw [add_block] at this
  exact this
/-- foliant/deflate.fixed -/
theorem c_fixedB {w : World} {s : Slc} {l : List Prt} (hP : PV w s (l.map rawP)) (hl : l.length ≤ 1048576) (hf : Fit l []) : C36 s w (fun r w1 => r = ⟨(fixO l).toArray⟩ ∧ Ext (fun _ => False) w w1) fun _ _ => False := by
  refine T36 _ _ _ _ ?_
  unfold S36
  refine (c_Fixed w).mono ?_ fun _ _ h => h
  rintro r2 r3 w4 ⟨I2, I3, e4⟩
  have o3 : ∀ j, r3.own j → j ≠ w4.heap.size := fun j hj => by have := own_lt' I3 (by intro e; have := fixD_len; rw [e] at this; simp at this) hj; omega
  refine (Hn.start w).keep e4 |>.nw' fun w5 H e5 => ?_
  simp only [List.nil_append] at H
  have z5 : w4.heap.size < w5.heap.size := H.lt 0 rfl
  refine (c_new (I2.keep e5)).mono ?_
  rintro r6 r7 w8 ⟨rfl, e8, _, h8⟩
  obtain ⟨t1, rfl, T1⟩ := h8 chk_fixL
  have H := H.keep e8
  refine H.st' 0 rfl (by simp) fun w9 H e9 => ?_
  simp only [List.set_cons_zero, List.set_cons_succ] at H
  have T1 := T1.keep e9 fun j h1 h2 e => by omega
  have I3 := ((I3.keep e5).keep e8).keepF e9 o3
  refine (c_new I3).mono ?_
  rintro r10 r11 w12 ⟨rfl, e12, _, h12⟩
  obtain ⟨t2, rfl, T2⟩ := h12 chk_fixD
  have H := H.keep e12
  have T1 := T1.keep e12 fun _ _ _ h => h
  have z9 : w8.heap.size ≤ w9.heap.size := e9.size
  have z8 := e8.size
  refine H.st' 0 rfl (by simp) fun w13 H e13 => ?_
  simp only [List.set_cons_zero, List.set_cons_succ] at H
  have T1 := T1.keep e13 fun j h1 h2 e => by have e : j = w4.heap.size := e; omega
  have T2 := T2.keep e13 fun j h1 h2 e => by have e : j = w4.heap.size := e; omega
  have z13 := e13.size
  have z12 := e12.size
  refine (Bit.c_new w13).mono ?_
  rintro r14 w15 ⟨rfl, W, e15⟩
  have H := H.keep e15
  have T1 := T1.keep e15 fun _ _ _ h => h
  have T2 := T2.keep e15 fun _ _ _ h => h
  have z15 := e15.size
  have P15 : PW w15 w15 w13.heap.size w13.heap.size ⟨none, 0, 0⟩ 0 ([], 0) := ⟨W, WInv.zero _, .inl rfl, (fun j hj => by
    rcases hj with e | ⟨a, ha, _⟩
    · omega
    · cases ha), z15, Ext.refl _ _⟩
  refine (P15.low (by simp) 1 1 (by decide) (by decide) (.inl (by decide))).mono ?_
  rintro _ w17 ⟨s17, P17, n17⟩
  refine (P17.low (by have := lw_len ([], 0) 1 1; simp only [List.length_nil] at this; omega) 1 2 (by decide) (by decide) (.inl (by decide))).mono ?_
  rintro _ w19 ⟨s19, P19, n19⟩
  have P19 : PW w15 w19 w13.heap.size w13.heap.size s19 1 stF := P19
  have hzF : stF.1.length ≤ 3 := by
    have h1 := lw_len ([], 0) 1 1
    have h2 := lw_len (lw ([], 0) 1 1) 1 2
    unfold stF
    simp only [List.length_nil] at h1
    omega
  have bB := P19.ext.blk (H.get 0 rfl) (by show ¬ w13.heap.size ≤ w4.heap.size; omega)
  refine Ld.of bB rfl (Ld.of bB rfl ?_)
  have E15 : Ext (fun _ => False) w w15 := H.ext
  have hPk : PV w19 s (l.map rawP) := by
    by_cases hnil : l = []
    · subst hnil
      exact ⟨hP.1, hP.2.1, fun j v hj => by cases hj⟩
    · exact ⟨hP.1, (hP.2.keep E15).keepF P19.ext fun j hj e => by
        have := hP.lt (by simpa using hnil) hj
        have := e4.size
        omega⟩
  have hoks := Fit.ok hf
  refine (c_pair (s := s) (l := l) hPk (fun hnil j hj => by have := hP.lt (by simpa using hnil) hj; have := e4.size; omega) hl (fun p hp => ⟨hoks p hp, fix_has (hoks p hp)⟩) (T1.keep P19.ext fun j _ h2 e => by omega) (T2.keep P19.ext fun j _ h2 e => by omega) (by omega) (by omega) chk_fixL chk_fixD (by rw [fixL_len]; decide) (by have := fixL_get 256 (by decide); omega) P19.wr P19.inv P19.way P19.lo P19.big (by omega)).mono ?_
  rintro w22 ⟨s22, P22, n22⟩
  have z1 := wPs_len (chk_lok chk_fixL) (chk_lok chk_fixD) l stF hoks
  have z2 := cw_len (st := l.foldl (wP fixL fixD) stF) (chk_lok chk_fixL) 256
  refine (c_wtext P22.wr (by omega)).mono ?_
  rintro r w24 ⟨rfl, e24⟩
  refine ⟨rfl, ?_⟩
  have zz := e4.size
  exact ((E15.trans P19.ext (fun _ h => h) fun j hj e => by omega).trans P22.ext (fun _ h => h) fun j hj e => by omega).tr e24
end Inf
end Go.Proofs.YtjkoafjnmkchdaaGreatDoor

/- A stable sort: orders, merges, blocks; plain laws, no program in sight. No condition. -/
namespace Go.Proofs.YtjkoafjnmkchdaaGreatDoor
namespace Srt
set_option linter.unusedVariables false
set_option linter.unusedSimpArgs false
/-- An element: where it lies, and its place among the equals. -/
abbrev E := Nat × Nat
def lt (W : Nat → Int) (a b : E) : Prop := W a.1 < W b.1 ∨ (W a.1 = W b.1 ∧ a.2 < b.2)
abbrev So (W : Nat → Int) (l : List E) : Prop := l.Pairwise (lt W)
section
variable {W : Nat → Int}
theorem lt_trans {a b c : E} (h : lt W a b) (k : lt W b c) : lt W a c := by
  unfold lt at *
  omega
theorem lt_of {a b : E} (h : W a.1 ≤ W b.1) (k : a.2 < b.2) : lt W a b := by
  unfold lt
  omega
theorem le_of_lt {a b : E} (h : lt W a b) : W a.1 ≤ W b.1 := by
  unfold lt at h
  omega
theorem so_app {l m : List E} : So W (l ++ m) ↔ So W l ∧ So W m ∧ ∀ a ∈ l, ∀ b ∈ m, lt W a b := List.pairwise_append
/-- Two sorted rows with the same elements are one. -/
theorem so_unique : ∀ {l m : List E}, So W l → So W m → l.Perm m → l = m := by
  intro l m hl hm hp
  refine hp.eq_of_pairwise (le := lt W) (fun a b _ _ h k => ?_) hl hm
  unfold lt at h k
  omega
/-- x goes between A and B. -/
theorem so_put {A B : List E} {x : E} (h : So W (A ++ B)) (h1 : ∀ y ∈ A, lt W y x) (h2 : ∀ y ∈ B, lt W x y) : So W (A ++ x :: B) := by
  obtain ⟨a, b, c⟩ := so_app.1 h
  refine so_app.2 ⟨a, List.pairwise_cons.2 ⟨h2, b⟩, fun y hy z hz => ?_⟩
  rcases List.mem_cons.1 hz with rfl | hz
  · exact h1 y hy
  · exact c y hy z hz
/-- The tags rise from one to the other. -/
def Tg (l m : List E) : Prop := ∀ a ∈ l, ∀ b ∈ m, a.2 < b.2
theorem Tg.perm {l l' m m' : List E} (h : Tg l m) (h1 : l'.Perm l) (h2 : m'.Perm m) : Tg l' m' := fun a ha b hb => h a (h1.mem_iff.1 ha) b (h2.mem_iff.1 hb)
theorem Tg.sub {l l' m m' : List E} (h : Tg l m) (h1 : ∀ a ∈ l', a ∈ l) (h2 : ∀ a ∈ m', a ∈ m) : Tg l' m' := fun a ha b hb => h a (h1 a ha) b (h2 b hb)
/-! ### Merging by symmetry -/
/-- The two rows, parted so that what is moved is in order. -/
theorem sym_cross {U1 U2 V1 V2 : List E} (hU : So W (U1 ++ U2)) (hV : So W (V1 ++ V2)) (hT : Tg (U1 ++ U2) (V1 ++ V2))
    (h1 : U1 = [] ∨ V2 = [] ∨ ∃ A a b B, U1 = A ++ [a] ∧ V2 = b :: B ∧ W a.1 ≤ W b.1) (h2 : V1 = [] ∨ U2 = [] ∨ ∃ A a b B, V1 = A ++ [a] ∧ U2 = b :: B ∧ W a.1 < W b.1) :
    ∀ x ∈ U1 ++ V1, ∀ y ∈ U2 ++ V2, lt W x y := by
  obtain ⟨u1, u2, u3⟩ := so_app.1 hU
  obtain ⟨v1, v2, v3⟩ := so_app.1 hV
  have last : ∀ {A : List E} {a x : E}, So W (A ++ [a]) → x ∈ A ++ [a] → x = a ∨ lt W x a := fun {A a x} h hx => by
    rcases List.mem_append.1 hx with hx | hx
    · exact .inr ((so_app.1 h).2.2 x hx a (by simp))
    · exact .inl (by simpa using hx)
  have first : ∀ {B : List E} {b y : E}, So W (b :: B) → y ∈ b :: B → y = b ∨ lt W b y := fun {B b y} h hy => by
    rcases List.mem_cons.1 hy with rfl | hy
    · exact .inl rfl
    · exact .inr ((List.pairwise_cons.1 h).1 y hy)
  intro x hx y hy
  rcases List.mem_append.1 hx with hx | hx
  · rcases List.mem_append.1 hy with hy | hy
    · exact u3 x hx y hy
    · rcases h1 with e | e | ⟨A, a, b, B, e1, e2, hw⟩
      · rw [e] at hx; cases hx
      · rw [e] at hy; cases hy
      · have ht := hT x (List.mem_append_left _ hx) y (List.mem_append_right _ hy)
        have hab : lt W a b := lt_of hw (hT a (by rw [e1]; simp) b (by rw [e2]; simp))
        have hb1 : W b.1 ≤ W y.1 := by
          rw [e2] at hy v2
          rcases first v2 hy with rfl | h
          · exact Int.le_refl _
          · exact le_of_lt h
        have ha1 : W x.1 ≤ W a.1 := by
          rw [e1] at hx u1
          rcases last u1 hx with rfl | h
          · exact Int.le_refl _
          · exact le_of_lt h
        exact lt_of (by omega) ht
  · rcases List.mem_append.1 hy with hy | hy
    · rcases h2 with e | e | ⟨A, a, b, B, e1, e2, hw⟩
      · rw [e] at hx; cases hx
      · rw [e] at hy; cases hy
      · have hb1 : W b.1 ≤ W y.1 := by
          rw [e2] at hy u2
          rcases first u2 hy with rfl | h
          · exact Int.le_refl _
          · exact le_of_lt h
        have ha1 : W x.1 ≤ W a.1 := by
          rw [e1] at hx v1
          rcases last v1 hx with rfl | h
          · exact Int.le_refl _
          · exact le_of_lt h
        exact .inl (by omega)
    · exact v3 x hx y hy
/-! ### Blocks -/
/-- The blocks have this size; the last may be smaller. -/
def Sz (bs : Nat) : List (List E) → Prop
  | [] => True
  | [B] => 1 ≤ B.length ∧ B.length ≤ bs
  | B :: C :: r => B.length = bs ∧ Sz bs (C :: r)
structure Bk (W : Nat → Int) (Bs : List (List E)) : Prop where
  so : ∀ B ∈ Bs, So W B
  tg : Bs.Pairwise Tg
theorem Sz.len {bs : Nat} (h0 : 1 ≤ bs) : ∀ {Bs : List (List E)}, Sz bs Bs → ∀ B ∈ Bs, 1 ≤ B.length ∧ B.length ≤ bs
  | [], _, B, hB => by cases hB
  | [X], h, B, hB => by
    rw [List.mem_singleton.1 hB]
    exact h
  | X :: Y :: r, h, B, hB => by
    rcases List.mem_cons.1 hB with rfl | hB
    · have := h.1; omega
    · exact Sz.len h0 h.2 B hB
/-- Full blocks ahead of some. -/
theorem Sz.app {bs : Nat} : ∀ {Ms Rs : List (List E)}, (∀ M ∈ Ms, M.length = bs) → Sz bs Rs → (1 ≤ bs) → Sz bs (Ms ++ Rs)
  | [], Rs, _, h, _ => h
  | [M], [], hm, _, h0 => ⟨by rw [hm M (by simp)]; exact h0, by rw [hm M (by simp)]; exact Nat.le_refl _⟩
  | [M], R :: r, hm, h, _ => ⟨hm M (by simp), h⟩
  | M :: M' :: Ms, Rs, hm, h, h0 => ⟨hm M (by simp), Sz.app (Ms := M' :: Ms) (fun X hX => hm X (List.mem_cons_of_mem _ hX)) h h0⟩
theorem flat_full {bs : Nat} : ∀ {Ms : List (List E)}, (∀ M ∈ Ms, M.length = bs) → Ms.flatten.length = Ms.length * bs
  | [], _ => by simp
  | M :: Ms, h => by
    rw [List.flatten_cons, List.length_append, h M (by simp), flat_full fun X hX => h X (List.mem_cons_of_mem _ hX), List.length_cons, Nat.add_mul]
    omega
/-- At most one block: it is sorted. -/
theorem Bk.done {bs : Nat} {Bs : List (List E)} (h : Bk W Bs) (hs : Sz bs Bs) (h0 : 1 ≤ bs) (hn : Bs.flatten.length ≤ bs) : So W Bs.flatten := by
  match Bs, h, hs, hn with
  | [], _, _, _ => exact List.Pairwise.nil
  | [B], h, _, _ =>
    have := h.so B (by simp)
    simpa using this
  | B :: C :: r, h, hs, hn =>
    have h1 := hs.1
    have h2 := (Sz.len h0 hs.2 C (by simp)).1
    simp only [List.flatten_cons, List.length_append] at hn
    omega
/-- Two neighbours become one. -/
theorem Bk.merge {Ms Rs : List (List E)} {U V M : List E} (h : Bk W (Ms ++ U :: V :: Rs)) (hM : So W M) (hp : M.Perm (U ++ V)) : Bk W (Ms ++ M :: Rs) := by
  have hmem : ∀ x ∈ M, x ∈ U ∨ x ∈ V := fun x hx => List.mem_append.1 (hp.mem_iff.1 hx)
  obtain ⟨t1, t2, t3⟩ := List.pairwise_append.1 h.tg
  obtain ⟨t4, t5⟩ := List.pairwise_cons.1 t2
  obtain ⟨t6, t7⟩ := List.pairwise_cons.1 t5
  refine ⟨fun B hB => ?_, List.pairwise_append.2 ⟨t1, List.pairwise_cons.2 ⟨fun R hR a ha b hb => ?_, t7⟩, fun A hA B hB a ha b hb => ?_⟩⟩
  · rcases List.mem_append.1 hB with hB | hB
    · exact h.so B (List.mem_append_left _ hB)
    · rcases List.mem_cons.1 hB with rfl | hB
      · exact hM
      · exact h.so B (List.mem_append_right _ (List.mem_cons_of_mem _ (List.mem_cons_of_mem _ hB)))
  · rcases hmem a ha with h1 | h1
    · exact t4 R (List.mem_cons_of_mem _ hR) a h1 b hb
    · exact t6 R hR a h1 b hb
  · rcases List.mem_cons.1 hB with rfl | hB
    · rcases hmem b hb with h1 | h1
      · exact t3 A hA U (by simp) a ha b h1
      · exact t3 A hA V (by simp) a ha b h1
    · exact t3 A hA B (by simp [hB]) a ha b hb
theorem merge_perm {Ms Rs : List (List E)} {U V M O : List E} (h : (Ms ++ U :: V :: Rs).flatten.Perm O) (hp : M.Perm (U ++ V)) : (Ms ++ M :: Rs).flatten.Perm O := by
  refine List.Perm.trans ?_ h
  simp only [List.flatten_append, List.flatten_cons]
  refine List.Perm.append_left _ ?_
  rw [← List.append_assoc]
  exact List.Perm.append_right _ hp
/-! ### Rotations and exchanges -/
theorem set_mid {α : Type} {pre post : List α} {c v : α} {i : Nat} (h : pre.length = i) : (pre ++ c :: post).set i v = pre ++ v :: post := by
  rw [List.set_append_right _ _ (by omega), show i - pre.length = 0 by omega]
  rfl
theorem get_mid {α : Type} {pre post : List α} {c : α} {i : Nat} (h : pre.length = i) : (pre ++ c :: post)[i]? = some c := by
  rw [List.getElem?_append_right (by omega), show i - pre.length = 0 by omega]
  rfl
theorem cut_at {α : Type} {l : List α} {i : Nat} (h : i ≤ l.length) : ∃ A B, l = A ++ B ∧ A.length = i :=
  ⟨l.take i, l.drop i, (List.take_append_drop i l).symm, by rw [List.length_take]; omega⟩
end
end Srt
end Go.Proofs.YtjkoafjnmkchdaaGreatDoor

/- A stable sort of coins: the row, the comparison, the insertion sort. Conditions: sizes. -/
namespace Go.Proofs.YtjkoafjnmkchdaaGreatDoor
namespace Srt
open Sh
set_option linter.unusedVariables false
set_option linter.unusedSimpArgs false
set_option maxRecDepth 4000
set_option maxHeartbeats 2000000
theorem Br.t {b : Bool} {A B : Prop} (h : b = true) (h1 : A) : Br b A B := by rw [h]; exact h1
theorem Br.f {b : Bool} {A B : Prop} (h : b = false) (h1 : B) : Br b A B := by rw [h]; exact h1
theorem ldS_mk {α : Type} {S : World → Prop} {V : α → Value} {K : α → Prop} {x : α} {a : Addr} (h : ∀ w, S w → w.cell? a = some (V x)) (k : K x) : LdS S a V K := ⟨x, h, k⟩
def ptr (b : Nat) : Value := .pointer (some ⟨b, 0, none⟩)
def ptrs (l : List E) : List Value := l.map fun e => ptr e.1
theorem ptrs_len (l : List E) : (ptrs l).length = l.length := by unfold ptrs; simp
/-- A row of pointers to coins. -/
def PR (w : World) (s : Slc) (T : List E) : Prop := Row w s 144 1 (ptrs T)
section
variable {w w1 : World} {s : Slc} {T : List E} {W : Nat → Int} {c : Addr}
theorem PR.len (h : PR w s T) : s.len = T.length := by
  have := h.1
  rw [ptrs_len] at this
  omega
theorem PR.get (h : PR w s T) {i : Nat} {e : E} (hi : T[i]? = some e) : ∃ g, s.p = some ⟨g, 0, none⟩ ∧ w.cell? ⟨g, i, none⟩ = some (ptr e.1) :=
  Row.cell h (by unfold ptrs; rw [List.getElem?_map, hi]; rfl)
theorem PR.set (h : PR w s T) {i : Nat} (hi : i < T.length) (e : E) : ∃ g, s.p = some ⟨g, 0, none⟩ ∧ CanSt w ⟨g, i, none⟩ ∧ PR (w.setCell ⟨g, i, none⟩ (ptr e.1)) s (T.set i e) ∧ Ext s.own w (w.setCell ⟨g, i, none⟩ (ptr e.1)) := by
  have hlen := h.len
  rcases h.2 with rfl | ⟨g, cur, hp, hg, hle, hsz, htk⟩
  · simp only at hlen
    omega
  · have hlt : i < cur.size := by omega
    refine ⟨g, hp, hg.can hlt, ⟨by rw [ptrs_len, List.length_set, hlen, Nat.mul_one], .inr ⟨g, _, hp, hg.set i _, hle, by simpa using hsz, ?_⟩⟩, (Ext.refl _ w).set (.inl ⟨_, hp, rfl⟩) _⟩
    rw [Array.toList_setIfInBounds, List.take_set, htk]
    unfold ptrs
    rw [List.map_set]
/-- What the sort carries: the row, the closure's variable, the weights. -/
structure SS (w : World) (s : Slc) (T : List E) (c : Addr) (W : Nat → Int) : Prop where
  row : PR w s T
  clo : w.cell? c = some wfn
  wt : ∀ e ∈ T, w.cell? ⟨e.1, 0, none⟩ = some (.int .i64 (W e.1))
  ne : ∀ e ∈ T, ¬ s.own e.1
  nc : ¬ s.own c.block
  big : T.length ≤ 1000000
theorem SS.step {T' : List E} (h : SS w s T c W) (he : Ext s.own w w1) (hr : PR w1 s T') (hm : ∀ e ∈ T', e ∈ T) : SS w1 s T' c W := by
  have l1 := h.row.len
  have l2 := hr.len
  refine ⟨hr, ?_, fun e hx => ?_, fun e hx => h.ne e (hm e hx), h.nc, by have := h.big; omega⟩
  · rw [he.cell (cell_lt' h.clo) h.nc]; exact h.clo
  · have := h.wt e (hm e hx)
    rw [he.cell (cell_lt' this) (h.ne e (hm e hx))]
    exact this
theorem SS.still (h : SS w s T c W) (he : Ext (fun _ => False) w w1) : SS w1 s T c W :=
  h.step (he.mono fun _ _ e => e.elim) (h.row.keep he fun _ _ e => e) fun _ h => h
theorem SS.perm {T' : List E} (h : SS w s T c W) (he : Ext s.own w w1) (hr : PR w1 s T') (hm : T'.Perm T) : SS w1 s T' c W := h.step he hr fun e hx => hm.mem_iff.1 hx
attribute [local irreducible] Ld St Nw Nn Lt LdS
theorem c_compare (x y : Int) (w : World) : C127 x y w fun r w1 => (r < 0 ↔ x < y) ∧ w1 = w := by
  refine T127 _ _ _ _ ?_
  unfold S127
  have n : ∀ (z : Int) (w : World), C132 z w fun r w1 => r = false ∧ w1 = w := fun z w => T132 _ _ _ (by unfold S132; exact ⟨by simp, rfl⟩)
  refine (n x w).mono ?_
  rintro r w ⟨rfl, rfl⟩
  refine (n y w).mono ?_
  rintro r w ⟨rfl, rfl⟩
  refine Srt.Br.f rfl (Srt.Br.f rfl (Br.dec (fun q => ⟨by omega, rfl⟩) fun q => Br.dec (fun q2 => ⟨by omega, rfl⟩) fun q2 => ⟨by omega, rfl⟩))
theorem c_weight {b : Nat} {x : Int} (h : w.cell? ⟨b, 0, none⟩ = some (.int .i64 x)) : C114 (some ⟨b, 0, none⟩) w fun r w1 => r = x ∧ w1 = w := by
  refine T114 _ _ _ ?_
  unfold S114
  exact Nn.of (Ld.mk h ⟨rfl, rfl⟩)
theorem c_cmp {x y : E} (h : SS w s T c W) (hx : x ∈ T) (hy : y ∈ T) : C126 (some ⟨x.1, 0, none⟩) (some ⟨y.1, 0, none⟩) c w fun r w1 => (r < 0 ↔ W x.1 < W y.1) ∧ SS w1 s T c W ∧ Ext s.own w w1 := by
  have hd := h.still (Ext.refl _ w).drew
  refine T126 _ _ _ _ _ h.clo ((c_weight (hd.wt x hx)).mono ?_)
  rintro r w1 ⟨rfl, rfl⟩
  refine ⟨hd.clo, (c_weight (hd.wt y hy)).mono ?_⟩
  rintro r w1 ⟨rfl, rfl⟩
  refine ⟨hd.clo, (c_compare _ _ _).mono ?_⟩
  rintro r w1 ⟨hr, rfl⟩
  exact ⟨hr, hd, (Ext.refl _ w).drew⟩
/-- Two places of the row are exchanged: first a is written, then b. -/
theorem SS.swap {i j : Nat} {x y : E} {K : World → Prop} (h : SS w s T c W) (hi : T[i]? = some x) (hj : T[j]? = some y) (hij : i ≠ j)
    (k : ∀ w1, SS w1 s ((T.set i y).set j x) c W → Ext s.own w w1 → K w1) : ∃ g, s.p = some ⟨g, 0, none⟩ ∧ w.cell? ⟨g, i, none⟩ = some (ptr x.1) ∧ w.cell? ⟨g, j, none⟩ = some (ptr y.1) ∧ St w ⟨g, i, none⟩ (ptr y.1) fun w1 => St w1 ⟨g, j, none⟩ (ptr x.1) K := by
  have li := (List.getElem?_eq_some_iff.1 hi).1
  have lj := (List.getElem?_eq_some_iff.1 hj).1
  obtain ⟨g, hg, h1⟩ := h.row.get hi
  obtain ⟨g', hg', h2⟩ := h.row.get hj
  rw [hg] at hg'
  cases hg'
  refine ⟨g, hg, h1, h2, ?_⟩
  obtain ⟨g', hg', c1, p1, e1⟩ := h.row.set li y
  rw [hg] at hg'
  cases hg'
  obtain ⟨g', hg', c2, p2, e2⟩ := p1.set (i := j) (by rw [List.length_set]; exact lj) x
  rw [hg] at hg'
  cases hg'
  have mx : x ∈ T := List.mem_of_getElem? hi
  have my : y ∈ T := List.mem_of_getElem? hj
  have E := e1.tr e2
  unfold St
  refine ⟨c1, c2, k _ (h.step E p2 fun e he => ?_) E⟩
  rcases List.mem_or_eq_of_mem_set he with he | rfl
  · rcases List.mem_or_eq_of_mem_set he with he | rfl
    · exact he
    · exact my
  · exact mx
/-- Neighbours are exchanged. -/
theorem swap_adj {α : Type} {X Z : List α} {a b : α} {i : Nat} (h : X.length = i) : ((X ++ a :: b :: Z).set i b).set (i + 1) a = X ++ b :: a :: Z := by
  rw [set_mid h, show X ++ b :: b :: Z = (X ++ [b]) ++ b :: Z by simp, set_mid (by simp [h])]
  simp
theorem swap_adj' {α : Type} {X Z : List α} {a b : α} {i : Nat} (h : X.length = i) : ((X ++ a :: b :: Z).set (i + 1) a).set i b = X ++ b :: a :: Z := by
  rw [show X ++ a :: b :: Z = (X ++ [a]) ++ b :: Z by simp, set_mid (by simp [h]), show X ++ [a] ++ a :: Z = X ++ a :: a :: Z by simp, set_mid h]
theorem c_ins {P M Q : List E} (h : SS w s (P ++ M ++ Q) c W) (hT : M.Pairwise fun x y => x.2 < y.2) {a b : Nat} (ha : P.length = a) (hb : a + M.length = b) :
    C133 s (a : Int) (b : Int) (.func (.func 126) #[] #[.pointer (some c)]) w fun w1 => Ext s.own w w1 ∧ ∃ M' : List E, M'.Perm M ∧ So W M' ∧ SS w1 s (P ++ M' ++ Q) c W := by
  refine T133_F126 _ _ _ _ _ _ ?_
  unfold S133_F126
  have hbig := h.big
  simp only [List.length_append] at hbig
  rw [i64_id (by omega)]
  refine ⟨fun n st w1 => ∃ (k : Nat) (M1 : List E), st = (a : Int) + (k : Int) ∧ 1 ≤ k ∧ n = M.length + 1 - k ∧ M1.Perm (M.take k) ∧ So W M1 ∧ SS w1 s (P ++ M1 ++ M.drop k ++ Q) c W ∧ Ext s.own w w1, M.length, ⟨1, M.take 1, rfl, Nat.le_refl _, by omega, .refl _, ?_, ?_, Ext.refl _ _⟩, ?_⟩
  · match M with
    | [] => exact List.Pairwise.nil
    | x :: r => exact List.pairwise_singleton _ _
  · rw [List.append_assoc P, List.take_append_drop]
    exact h
  rintro n st w1 ⟨k, M1, rfl, hk, rfl, hp, hs, H1, e1⟩
  unfold S133_F126L2
  refine Br.dec (fun q => ?_) fun q => ?_
  · have hkM : k < M.length := by omega
    have lM1 : M1.length = k := by rw [hp.length_eq, List.length_take]; omega
    have hdrop : M.drop k = M[k] :: M.drop (k + 1) := List.drop_eq_getElem_cons hkM
    rw [hdrop] at H1
    have htag : ∀ y ∈ M1, y.2 < M[k].2 := fun y hy => by
      have hy := hp.mem_iff.1 hy
      have hT2 := hT
      rw [← List.take_append_drop k M] at hT2
      exact (List.pairwise_append.1 hT2).2.2 y hy M[k] (by rw [hdrop]; exact List.mem_cons_self)
    generalize hx : M[k] = x at *
    refine ⟨fun n st w2 => ∃ (A B : List E), M1 = A ++ B ∧ st = (a : Int) + (A.length : Int) ∧ n = A.length ∧ (∀ y ∈ B, lt W x y) ∧ SS w2 s (P ++ A ++ x :: B ++ M.drop (k + 1) ++ Q) c W ∧ Ext s.own w w2, k, ⟨M1, [], by simp, by omega, lM1.symm, fun y hy => (by cases hy), by simpa using H1, e1⟩, ?_⟩
    rintro n st w2 ⟨A, B, rfl, rfl, rfl, hB, H2, e2⟩
    unfold S133_F126L1
    have hslen := H2.row.len
    simp only [List.length_append, List.length_cons, List.length_drop] at hslen lM1
    have fin : ∀ w3, SS w3 s (P ++ A ++ x :: B ++ M.drop (k + 1) ++ Q) c W → Ext s.own w w3 → (∀ y ∈ A, lt W y x) → ∃ n', n' < M.length + 1 - k ∧ ∃ (k' : Nat) (M1' : List E), IntKind.i64.wrap ((a : Int) + (k : Int) + 1) = (a : Int) + (k' : Int) ∧ 1 ≤ k' ∧ n' = M.length + 1 - k' ∧ M1'.Perm (M.take k') ∧ So W M1' ∧ SS w3 s (P ++ M1' ++ M.drop k' ++ Q) c W ∧ Ext s.own w w3 := fun w3 H3 e3 hA => by
      refine ⟨M.length + 1 - (k + 1), by omega, k + 1, A ++ x :: B, by rw [i64_id (by omega)]; omega, by omega, rfl, ?_, so_put hs hA hB, by simpa using H3, e3⟩
      have ht : M.take (k + 1) = M.take k ++ [x] := by rw [List.take_add_one, List.getElem?_eq_getElem hkM, hx]; rfl
      rw [ht]
      exact (List.perm_middle.trans (List.Perm.cons x hp)).trans (List.perm_append_singleton x _).symm
    refine Br.dec (fun q2 => ?_) fun q2 => ?_
    · obtain ⟨A', y, rfl⟩ : ∃ A' y, A = A' ++ [y] := by
        refine ⟨A.dropLast, A.getLast (by intro e; rw [e] at q2; simp at q2), (List.dropLast_concat_getLast _).symm⟩
      simp only [List.length_append, List.length_singleton] at hslen lM1 q2 ⊢
      have gx : (P ++ (A' ++ [y]) ++ x :: B ++ M.drop (k + 1) ++ Q)[a + A'.length + 1]? = some x := by
        rw [List.append_assoc, List.append_assoc, List.append_assoc]
        rw [show P ++ ((A' ++ [y]) ++ (x :: B ++ (M.drop (k + 1) ++ Q))) = (P ++ (A' ++ [y])) ++ x :: (B ++ (M.drop (k + 1) ++ Q)) by simp]
        exact get_mid (by simp [ha]; omega)
      have gy : (P ++ (A' ++ [y]) ++ x :: B ++ M.drop (k + 1) ++ Q)[a + A'.length]? = some y := by
        rw [show P ++ (A' ++ [y]) ++ x :: B ++ M.drop (k + 1) ++ Q = (P ++ A') ++ y :: (x :: B ++ M.drop (k + 1) ++ Q) by simp]
        exact get_mid (by simp [ha])
      have H2d := H2.still (Ext.refl _ w2).drew
      obtain ⟨g, hg, cx⟩ := H2d.row.get gx
      obtain ⟨g', hg', cy⟩ := H2d.row.get gy
      rw [hg] at hg'
      cases hg'
      have i1 : (a : Int) + ((A'.length + 1 : Nat) : Int) = ((a + A'.length + 1 : Nat) : Int) := by omega
      have i2 : IntKind.i64.wrap (((a + A'.length + 1 : Nat) : Int) - 1) = ((a + A'.length : Nat) : Int) := by rw [i64_id (by omega)]; omega
      rw [i1, i2, hg]
      refine ⟨by omega, by omega, Nn.of ?_⟩
      simp only [add_lit, Int.toNat_natCast, Nat.mul_one, Nat.zero_add]
      refine Ld.mk cx ⟨by omega, by omega, Nn.of ?_⟩
      simp only [add_lit, Int.toNat_natCast, Nat.mul_one, Nat.zero_add]
      refine Ld.mk cy ?_
      refine (c_cmp H2d (List.mem_of_getElem? gx) (List.mem_of_getElem? gy)).mono ?_
      rintro r w3 ⟨hr, H3, e3⟩
      have E3 := e2.tr ((Ext.refl _ w2).drew.tr e3)
      refine Br.dec (fun q3 => ?_) fun q3 => ?_
      · have hlt := hr.1 q3
        obtain ⟨g', hg', c1, c2, hst⟩ := (H3.still (Ext.refl _ w3).drew).swap gx gy (by omega) (K := fun w1 => ∃ n', n' < A'.length + 1 ∧ ∃ (A B_1 : List E), A' ++ [y] ++ B = A ++ B_1 ∧ ((a + A'.length : Nat) : Int) = (a : Int) + (A.length : Int) ∧ n' = A.length ∧ (∀ y ∈ B_1, lt W x y) ∧ SS w1 s (P ++ A ++ x :: B_1 ++ M.drop (k + 1) ++ Q) c W ∧ Ext s.own w w1) fun w4 H4 e4 => by
          refine ⟨A'.length, by omega, A', y :: B, by simp, by omega, rfl, fun z hz => ?_, ?_, E3.tr ((Ext.refl _ w3).drew.tr e4)⟩
          · rcases List.mem_cons.1 hz with rfl | hz
            · exact .inl hlt
            · exact hB z hz
          · have e : ((P ++ (A' ++ [y]) ++ x :: B ++ M.drop (k + 1) ++ Q).set (a + A'.length + 1) y).set (a + A'.length) x = P ++ A' ++ x :: y :: B ++ M.drop (k + 1) ++ Q := by
              rw [show P ++ (A' ++ [y]) ++ x :: B ++ M.drop (k + 1) ++ Q = (P ++ A') ++ y :: x :: (B ++ M.drop (k + 1) ++ Q) by simp]
              rw [swap_adj' (by simp [ha])]
              simp
            rw [e] at H4
            exact H4
        rw [hg] at hg'
        cases hg'
        refine ⟨fun w' => w' = w3.drew, rfl, by omega, by omega, Nn.of ?_⟩
        simp only [add_lit, Int.toNat_natCast, Nat.mul_one, Nat.zero_add]
        refine ldS_mk (x := some ⟨y.1, 0, none⟩) (fun w' e => e ▸ c2) ⟨by omega, by omega, Nn.of ?_⟩
        simp only [add_lit, Int.toNat_natCast, Nat.mul_one, Nat.zero_add]
        refine ldS_mk (x := some ⟨x.1, 0, none⟩) (fun w' e => e ▸ c1) ⟨by omega, by omega, Nn.of ?_⟩
        simp only [add_lit, Int.toNat_natCast, Nat.mul_one, Nat.zero_add]
        have hst' := hst
        unfold St at hst' ⊢
        exact ⟨hst'.1, by omega, by omega, Nn.of (by simp only [add_lit, Nat.zero_add]; exact hst'.2)⟩
      · refine fin w3 H3 E3 fun z hz => ?_
        have hle : W y.1 ≤ W x.1 := by
          have := fun h => q3 (hr.2 h)
          omega
        have hyx : lt W y x := lt_of hle (htag y (by simp))
        rcases List.mem_append.1 hz with hz | hz
        · have hsA := (so_app.1 (so_app.1 hs).1).2.2
          exact lt_trans (hsA z hz y (by simp)) hyx
        · rw [List.mem_singleton.1 hz]; exact hyx
    · have hA0 : A = [] := List.eq_nil_of_length_eq_zero (by omega)
      exact fin _ (H2.still (Ext.refl _ w2).drew) (e2.tr (Ext.refl _ w2).drew) fun z hz => by rw [hA0] at hz; cases hz
  · have hk2 : M.length ≤ k := by omega
    refine ⟨e1, M1, ?_, hs, ?_⟩
    · rw [List.take_of_length_le hk2] at hp
      exact hp
    · rw [List.drop_of_length_le hk2] at H1
      simpa using H1
end
end Srt
end Go.Proofs.YtjkoafjnmkchdaaGreatDoor

/- A stable sort of coins: exchanges of ranges, rotations. Conditions: sizes. -/
namespace Go.Proofs.YtjkoafjnmkchdaaGreatDoor
namespace Srt
open Sh
set_option linter.unusedVariables false
set_option linter.unusedSimpArgs false
set_option maxRecDepth 4000
set_option maxHeartbeats 2000000
attribute [local irreducible] Ld St Nw Nn Lt LdS
section
variable {w w1 : World} {s : Slc} {T : List E} {W : Nat → Int} {c : Addr}
/-- An exchange, as the program does it. -/
theorem SS.step_swap {i j : Nat} {x y : E} {ii jj : Int} {K : World → Prop} (h : SS w s T c W) (gi : T[i]? = some x) (gj : T[j]? = some y) (hij : i ≠ j) (hi : ii = (i : Int)) (hj : jj = (j : Int))
    (k : ∀ w1, SS w1 s ((T.set i y).set j x) c W → Ext s.own w w1 → K w1) :
    ∃ vS : World → Prop, vS w.drew ∧ 0 ≤ jj ∧ jj < (s.len : Nat) ∧ Nn s.p fun a => LdS vS (a.add (jj.toNat * 1)) Value.pointer fun (x1 : Option Addr) => 0 ≤ ii ∧ ii < (s.len : Nat) ∧ Nn s.p fun a => LdS vS (a.add (ii.toNat * 1)) Value.pointer fun (x2 : Option Addr) =>
      0 ≤ ii ∧ ii < (s.len : Nat) ∧ Nn s.p fun a => St w.drew (a.add (ii.toNat * 1)) (.pointer x1) fun w2 => 0 ≤ jj ∧ jj < (s.len : Nat) ∧ Nn s.p fun a => St w2 (a.add (jj.toNat * 1)) (.pointer x2) K := by
  subst hi hj
  have li := (List.getElem?_eq_some_iff.1 gi).1
  have lj := (List.getElem?_eq_some_iff.1 gj).1
  have hl := h.row.len
  have hd := h.still (Ext.refl _ w).drew
  obtain ⟨g, hg, c1, c2, hst⟩ := hd.swap gi gj hij (K := K) fun w1 H1 e1 => k w1 H1 ((Ext.refl _ w).drew.tr e1)
  rw [hg]
  refine ⟨fun w' => w' = w.drew, rfl, by omega, by omega, Nn.of ?_⟩
  simp only [add_lit, Int.toNat_natCast, Nat.mul_one, Nat.zero_add]
  refine ldS_mk (x := some ⟨y.1, 0, none⟩) (fun w' e => e ▸ c2) ⟨by omega, by omega, Nn.of ?_⟩
  simp only [add_lit, Int.toNat_natCast, Nat.mul_one, Nat.zero_add]
  refine ldS_mk (x := some ⟨x.1, 0, none⟩) (fun w' e => e ▸ c1) ⟨by omega, by omega, Nn.of ?_⟩
  simp only [add_lit, Int.toNat_natCast, Nat.mul_one, Nat.zero_add]
  have hst' := hst
  unfold St at hst' ⊢
  exact ⟨hst'.1, by omega, by omega, Nn.of (by simp only [add_lit, Nat.zero_add]; exact hst'.2)⟩
theorem c_swapR {P X Z Y Q : List E} (h : SS w s (P ++ X ++ Z ++ Y ++ Q) c W) {a b n : Nat} (ha : P.length = a) (hb : a + X.length + Z.length = b) (hX : X.length = n) (hY : Y.length = n) (f : Value) :
    C136 s (a : Int) (b : Int) (n : Int) f w fun w1 => Ext s.own w w1 ∧ SS w1 s (P ++ Y ++ Z ++ X ++ Q) c W := by
  refine T136 _ _ _ _ _ _ _ ?_
  unfold S136
  have hbig := h.big
  simp only [List.length_append] at hbig
  refine ⟨fun m st w1 => ∃ i : Nat, st = (i : Int) ∧ i ≤ n ∧ m = n - i ∧ SS w1 s (P ++ Y.take i ++ X.drop i ++ Z ++ X.take i ++ Y.drop i ++ Q) c W ∧ Ext s.own w w1, n, ⟨0, rfl, by omega, rfl, by simpa using h, Ext.refl _ _⟩, ?_⟩
  rintro m st w1 ⟨i, rfl, hi, rfl, H1, e1⟩
  unfold S136L1
  refine Br.dec (fun q => ?_) fun q => ?_
  · have hin : i < n := by omega
    have dX : X.drop i = X[i] :: X.drop (i + 1) := List.drop_eq_getElem_cons (by omega)
    have dY : Y.drop i = Y[i] :: Y.drop (i + 1) := List.drop_eq_getElem_cons (by omega)
    have tX : X.take (i + 1) = X.take i ++ [X[i]] := by rw [List.take_add_one, List.getElem?_eq_getElem (by omega)]; rfl
    have tY : Y.take (i + 1) = Y.take i ++ [Y[i]] := by rw [List.take_add_one, List.getElem?_eq_getElem (by omega)]; rfl
    have lX : (X.take i).length = i := by rw [List.length_take]; omega
    have lY : (Y.take i).length = i := by rw [List.length_take]; omega
    have lD : (X.drop (i + 1)).length = n - (i + 1) := by rw [List.length_drop]; omega
    generalize X[i] = x at dX tX
    generalize Y[i] = y at dY tY
    rw [dX, dY] at H1
    have f1 : P ++ Y.take i ++ (x :: X.drop (i + 1)) ++ Z ++ X.take i ++ (y :: Y.drop (i + 1)) ++ Q = (P ++ Y.take i) ++ x :: (X.drop (i + 1) ++ Z ++ X.take i ++ (y :: Y.drop (i + 1)) ++ Q) := by simp
    have f2 : P ++ Y.take i ++ (x :: X.drop (i + 1)) ++ Z ++ X.take i ++ (y :: Y.drop (i + 1)) ++ Q = (P ++ Y.take i ++ x :: X.drop (i + 1) ++ Z ++ X.take i) ++ y :: (Y.drop (i + 1) ++ Q) := by simp
    have gi : (P ++ Y.take i ++ (x :: X.drop (i + 1)) ++ Z ++ X.take i ++ (y :: Y.drop (i + 1)) ++ Q)[a + i]? = some x := by
      rw [f1]; exact get_mid (by simp [ha, lY])
    have gj : (P ++ Y.take i ++ (x :: X.drop (i + 1)) ++ Z ++ X.take i ++ (y :: Y.drop (i + 1)) ++ Q)[b + i]? = some y := by
      rw [f2]; exact get_mid (by simp only [List.length_append, List.length_cons, lX, lY, lD, ha]; omega)
    rw [i64_id (n := (b : Int) + (i : Int)) (by omega), i64_id (n := (a : Int) + (i : Int)) (by omega)]
    refine H1.step_swap gi gj (by omega) (by omega) (by omega) fun w2 H2 e2 => ?_
    refine ⟨n - (i + 1), by omega, i + 1, by rw [i64_id (by omega)]; rfl, by omega, rfl, ?_, e1.tr e2⟩
    have e : ((P ++ Y.take i ++ (x :: X.drop (i + 1)) ++ Z ++ X.take i ++ (y :: Y.drop (i + 1)) ++ Q).set (a + i) y).set (b + i) x = P ++ Y.take (i + 1) ++ X.drop (i + 1) ++ Z ++ X.take (i + 1) ++ Y.drop (i + 1) ++ Q := by
      rw [f1, set_mid (by simp [ha, lY])]
      rw [show (P ++ Y.take i) ++ y :: (X.drop (i + 1) ++ Z ++ X.take i ++ (y :: Y.drop (i + 1)) ++ Q) = (P ++ Y.take i ++ y :: X.drop (i + 1) ++ Z ++ X.take i) ++ y :: (Y.drop (i + 1) ++ Q) by simp]
      rw [set_mid (by simp only [List.length_append, List.length_cons, lX, lY, lD, ha]; omega), tX, tY]
      simp
    rw [e] at H2
    exact H2
  · have : i = n := by omega
    subst this
    rw [List.take_of_length_le (by omega), List.take_of_length_le (by omega), List.drop_of_length_le (by omega), List.drop_of_length_le (by omega)] at H1
    exact ⟨e1, by simpa using H1⟩
theorem c_rot {P U V Q : List E} (h : SS w s (P ++ U ++ V ++ Q) c W) {a m b : Nat} (ha : P.length = a) (hm : a + U.length = m) (hb : m + V.length = b) (hU : U ≠ []) (hV : V ≠ []) (f : Value) :
    C135 s (a : Int) (m : Int) (b : Int) f w fun w1 => Ext s.own w w1 ∧ SS w1 s (P ++ V ++ U ++ Q) c W := by
  refine T135 _ _ _ _ _ _ _ ?_
  unfold S135
  have hbig := h.big
  simp only [List.length_append] at hbig
  have lU := List.length_pos_iff.2 hU
  have lV := List.length_pos_iff.2 hV
  rw [i64_id (n := (m : Int) - (a : Int)) (by omega), i64_id (n := (b : Int) - (m : Int)) (by omega)]
  refine ⟨fun n st w1 => ∃ (P' X Y Q' : List E), st = ((X.length : Int), (Y.length : Int)) ∧ n = X.length + Y.length ∧ P'.length + X.length = m ∧ 1 ≤ X.length ∧ 1 ≤ Y.length ∧ P' ++ Y ++ X ++ Q' = P ++ V ++ U ++ Q ∧ SS w1 s (P' ++ X ++ Y ++ Q') c W ∧ Ext s.own w w1, U.length + V.length, ⟨P, U, V, Q, by simp only [Prod.mk.injEq]; omega, rfl, by omega, lU, lV, rfl, h, Ext.refl _ _⟩, ?_⟩
  rintro n st w1 ⟨P', X, Y, Q', rfl, rfl, hPX, lX, lY, hend, H1, e1⟩
  unfold S135L1
  dsimp only
  have hlen := congrArg List.length hend
  simp only [List.length_append] at hlen
  rw [i64_id (n := (m : Int) - (X.length : Int)) (by omega), show (m : Int) - (X.length : Int) = ((P'.length : Nat) : Int) by omega]
  refine Br.ne (fun q => Br.dec (fun q2 => ?_) fun q2 => ?_) fun q => ?_
  · obtain ⟨X1, X2, rfl, l1⟩ := cut_at (l := X) (i := Y.length) (by omega)
    simp only [List.length_append] at *
    refine (c_swapR (P := P') (X := X1) (Z := X2) (Y := Y) (Q := Q') (a := P'.length) (b := m) (n := Y.length) (by simpa using H1) rfl (by omega) l1 rfl f).mono ?_
    rintro w2 ⟨e2, H2⟩
    refine ⟨X2.length + X1.length, by omega, P' ++ Y, X2, X1, Q', ?_, rfl, by simp; omega, by omega, by omega, by rw [← hend]; simp, by simpa using H2, e1.tr e2⟩
    rw [i64_id (by omega)]
    simp only [Prod.mk.injEq]
    omega
  · obtain ⟨Y1, Y2, rfl, l1⟩ := cut_at (l := Y) (i := Y.length - X.length) (by omega)
    simp only [List.length_append] at *
    have e3 : IntKind.i64.wrap (IntKind.i64.wrap ((m : Int) + ((Y1.length + Y2.length : Nat) : Int)) - (X.length : Int)) = ((P'.length + X.length + Y1.length : Nat) : Int) := by
      rw [i64_id (n := (m : Int) + ((Y1.length + Y2.length : Nat) : Int)) (by omega), i64_id (by omega)]
      omega
    rw [e3]
    refine (c_swapR (P := P') (X := X) (Z := Y1) (Y := Y2) (Q := Q') (a := P'.length) (b := P'.length + X.length + Y1.length) (n := X.length) (by simpa using H1) rfl rfl rfl (by omega) f).mono ?_
    rintro w2 ⟨e2, H2⟩
    refine ⟨Y2.length + Y1.length, by omega, P', Y2, Y1, X ++ Q', ?_, rfl, by omega, by omega, by omega, by rw [← hend]; simp, by simpa using H2, e1.tr e2⟩
    rw [i64_id (by omega)]
    simp only [Prod.mk.injEq]
    omega
  · have hXY : X.length = Y.length := by omega
    refine (c_swapR (P := P') (X := X) (Z := []) (Y := Y) (Q := Q') (a := P'.length) (b := m) (n := X.length) (by simpa using H1) rfl (by simpa using hPX) rfl hXY.symm f).mono ?_
    rintro w2 ⟨e2, H2⟩
    refine ⟨e1.tr e2, ?_⟩
    rw [← hend]
    simpa using H2
end
end Srt
end Go.Proofs.YtjkoafjnmkchdaaGreatDoor

/- A stable sort of coins: merging by symmetry. Conditions: sizes. -/
namespace Go.Proofs.YtjkoafjnmkchdaaGreatDoor
namespace Srt
open Sh
set_option linter.unusedVariables false
set_option linter.unusedSimpArgs false
set_option maxRecDepth 4000
set_option maxHeartbeats 4000000
theorem pair_eq {α β : Type} {a c : α} {b d : β} (h : a = c) (k : b = d) : (a, b) = (c, d) := by rw [h, k]
theorem u64_id {n : Int} (h : 0 ≤ n ∧ n ≤ 18446744073709551615) : IntKind.u64.wrap n = n := IntWalk.u64_in n h
theorem half {x y : Nat} (h : x + y ≤ 8000000) : IntKind.i64.wrap (Int.fdiv (IntKind.u64.wrap (IntKind.i64.wrap ((x : Int) + (y : Int)))) (2 ^ 1)) = (((x + y) / 2 : Nat) : Int) := by
  rw [i64_id (n := (x : Int) + (y : Int)) (by omega), u64_id (by omega), Bit.fdiv_pow, show (2 : Int) ^ 1 = 2 by decide, i64_id (by omega)]
  omega
theorem so_get {W : Nat → Int} {l : List E} (h : So W l) {i j : Nat} {x y : E} (hi : l[i]? = some x) (hj : l[j]? = some y) (hij : i ≤ j) : W x.1 ≤ W y.1 := by
  by_cases e : i = j
  · subst e
    rw [hi] at hj
    cases hj
    exact Int.le_refl _
  · obtain ⟨li, rfl⟩ := List.getElem?_eq_some_iff.1 hi
    obtain ⟨lj, rfl⟩ := List.getElem?_eq_some_iff.1 hj
    exact le_of_lt (List.pairwise_iff_getElem.1 h i j li lj (by omega))
attribute [local irreducible] Ld St Nw Nn Lt LdS
section
variable {w w1 : World} {s : Slc} {T : List E} {W : Nat → Int} {c : Addr}
/-- A comparison, as the program does it. -/
theorem SS.step_cmp {i j : Nat} {x y : E} {ii jj : Int} {K : Int → World → Prop} (h : SS w s T c W) (gi : T[i]? = some x) (gj : T[j]? = some y) (hi : ii = (i : Int)) (hj : jj = (j : Int))
    (k : ∀ r w1, (r < 0 ↔ W x.1 < W y.1) → SS w1 s T c W → Ext s.own w w1 → K r w1) :
    0 ≤ ii ∧ ii < (s.len : Nat) ∧ Nn s.p fun a => Ld w.drew (a.add (ii.toNat * 1)) Value.pointer fun (x1 : Option Addr) => 0 ≤ jj ∧ jj < (s.len : Nat) ∧ Nn s.p fun a => Ld w.drew (a.add (jj.toNat * 1)) Value.pointer fun (x2 : Option Addr) =>
      C126 x1 x2 c w.drew fun r w2 => K r w2 := by
  subst hi hj
  have li := (List.getElem?_eq_some_iff.1 gi).1
  have lj := (List.getElem?_eq_some_iff.1 gj).1
  have hl := h.row.len
  have hd := h.still (Ext.refl _ w).drew
  obtain ⟨g, hg, c1⟩ := hd.row.get gi
  obtain ⟨g', hg', c2⟩ := hd.row.get gj
  rw [hg] at hg'
  cases hg'
  rw [hg]
  refine ⟨by omega, by omega, Nn.of ?_⟩
  simp only [add_lit, Int.toNat_natCast, Nat.mul_one, Nat.zero_add]
  refine Ld.mk c1 ⟨by omega, by omega, Nn.of ?_⟩
  simp only [add_lit, Int.toNat_natCast, Nat.mul_one, Nat.zero_add]
  refine Ld.mk c2 ((c_cmp hd (List.mem_of_getElem? gi) (List.mem_of_getElem? gj)).mono ?_)
  rintro r w2 ⟨hr, H2, e2⟩
  exact k r w2 hr H2 ((Ext.refl _ w).drew.tr e2)
abbrev clos (c : Addr) : Value := .func (.func 126) #[] #[.pointer (some c)]
/-- One element ahead of a row. -/
theorem c_sym1 {P V Q : List E} {u : E} (h : SS w s (P ++ [u] ++ V ++ Q) c W) (hV : So W V) (hT : Tg [u] V) {a b : Nat} (ha : P.length = a) (hb : a + 1 + V.length = b) :
    C134 s (a : Int) ((a + 1 : Nat) : Int) (b : Int) (clos c) w fun w1 => Ext s.own w w1 ∧ ∃ M', M'.Perm ([u] ++ V) ∧ So W M' ∧ SS w1 s (P ++ M' ++ Q) c W := by
  refine T134_F126 _ _ _ _ _ _ _ ?_
  unfold S134_F126
  have hbig := h.big
  simp only [List.length_append, List.length_singleton] at hbig
  refine Srt.Br.t (by rw [i64_id (by omega)]; simp; omega) ?_
  have gu : (P ++ [u] ++ V ++ Q)[a]? = some u := by
    rw [show P ++ [u] ++ V ++ Q = P ++ u :: (V ++ Q) by simp]; exact get_mid ha
  have gv : ∀ i v, V[i]? = some v → (P ++ [u] ++ V ++ Q)[a + 1 + i]? = some v := fun i v hi => by
    have li := (List.getElem?_eq_some_iff.1 hi).1
    rw [List.getElem?_append_left (by simp only [List.length_append, List.length_singleton]; omega), List.getElem?_append_right (by simp; omega)]
    rw [show a + 1 + i - (P ++ [u]).length = i by simp; omega]
    exact hi
  refine ⟨fun n st w1 => ∃ p q : Nat, st = (((a + 1 + p : Nat) : Int), ((a + 1 + q : Nat) : Int)) ∧ p ≤ q ∧ q ≤ V.length ∧ n = q - p ∧ (∀ i v, i < p → V[i]? = some v → W v.1 < W u.1) ∧ (∀ i v, q ≤ i → V[i]? = some v → W u.1 ≤ W v.1) ∧ SS w1 s (P ++ [u] ++ V ++ Q) c W ∧ Ext s.own w w1, V.length,
    ⟨0, V.length, pair_eq (by omega) (by omega), by omega, Nat.le_refl _, rfl, fun i v hi => by omega, fun i v hi hv => by have := (List.getElem?_eq_some_iff.1 hv).1; omega, h, Ext.refl _ _⟩, ?_⟩
  rintro n st w1 ⟨p, q, rfl, hpq, hq, rfl, lo, hi, H1, e1⟩
  unfold S134_F126L2
  dsimp only
  refine Br.dec (fun q1 => ?_) fun q1 => ?_
  · rw [half (by omega)]
    obtain ⟨t, ht⟩ : ∃ t, (a + 1 + p + (a + 1 + q)) / 2 = a + 1 + t := ⟨(p + q) / 2, by omega⟩
    have htq : p ≤ t ∧ t < q := by omega
    rw [ht]
    have gt : V[t]? = some V[t] := List.getElem?_eq_getElem (by omega)
    generalize V[t] = v at gt
    refine H1.step_cmp (gv t v gt) gu rfl rfl fun r w2 hr H2 e2 => ?_
    refine Br.dec (fun q2 => Lt.of ?_) fun q2 => ?_
    · have hvu := hr.1 q2
      refine ⟨q - (t + 1), by omega, t + 1, q, ?_, by omega, hq, rfl, fun i x hix hx => ?_, hi, H2, e1.tr e2⟩
      · exact pair_eq (by rw [i64_id (by omega)]; omega) rfl
      · have := so_get hV hx gt (by omega)
        omega
    · have hvu : W u.1 ≤ W v.1 := by
        have := fun h => q2 (hr.2 h)
        omega
      refine ⟨t - p, by omega, p, t, rfl, by omega, by omega, rfl, lo, fun i x hix hx => ?_, H2, e1.tr e2⟩
      have := so_get hV gt hx hix
      omega
  · have hpq2 : p = q := by omega
    subst hpq2
    refine ⟨fun n st w2 => ∃ t : Nat, st = ((a + t : Nat) : Int) ∧ t ≤ p ∧ n = p - t ∧ SS w2 s (P ++ V.take t ++ [u] ++ V.drop t ++ Q) c W ∧ Ext s.own w w2, p, ⟨0, by simp, by omega, rfl, by simpa using H1, e1⟩, ?_⟩
    rintro n st w2 ⟨t, rfl, ht, rfl, H2, e2⟩
    unfold S134_F126L1
    dsimp only
    have lT : (V.take t).length = t := by rw [List.length_take]; omega
    rw [i64_id (n := ((a + 1 + p : Nat) : Int) - 1) (by omega)]
    refine Br.dec (fun q2 => ?_) fun q2 => ?_
    · have htp : t < p := by omega
      have dV : V.drop t = V[t] :: V.drop (t + 1) := List.drop_eq_getElem_cons (by omega)
      have tV : V.take (t + 1) = V.take t ++ [V[t]] := by rw [List.take_add_one, List.getElem?_eq_getElem (by omega)]; rfl
      generalize V[t] = v at dV tV
      rw [dV] at H2
      have f : P ++ V.take t ++ [u] ++ (v :: V.drop (t + 1)) ++ Q = (P ++ V.take t) ++ u :: v :: (V.drop (t + 1) ++ Q) := by simp
      rw [f] at H2
      have lP : (P ++ V.take t).length = a + t := by simp [ha, lT]
      refine H2.step_swap (i := a + t) (j := a + t + 1) (get_mid lP) (by rw [show (P ++ V.take t) ++ u :: v :: (V.drop (t + 1) ++ Q) = (P ++ V.take t ++ [u]) ++ v :: (V.drop (t + 1) ++ Q) by simp]; exact get_mid (by simp [ha, lT]; omega)) (by omega) rfl (by rw [i64_id (by omega)]; omega) fun w3 H3 e3 => ?_
      rw [swap_adj lP] at H3
      refine ⟨p - (t + 1), by omega, t + 1, by rw [i64_id (by omega)]; omega, by omega, rfl, ?_, e2.tr e3⟩
      rw [tV]
      simpa using H3
    · have htp : t = p := by omega
      subst htp
      refine ⟨e2, V.take t ++ u :: V.drop t, ?_, so_put (by rw [List.take_append_drop]; exact hV) (fun y hy => ?_) fun y hy => ?_, by simpa using H2⟩
      · rw [List.singleton_append]
        refine List.perm_middle.trans (List.Perm.cons u ?_)
        rw [List.take_append_drop]
      · obtain ⟨i, hiy⟩ := List.mem_iff_getElem?.1 hy
        rw [List.getElem?_take] at hiy
        split at hiy
        · rename_i hit
          exact .inl (lo i y hit hiy)
        · cases hiy
      · obtain ⟨i, hiy⟩ := List.mem_iff_getElem?.1 hy
        rw [List.getElem?_drop] at hiy
        exact lt_of (hi _ y (by omega) hiy) (hT u (by simp) y (List.mem_of_getElem? hiy))
/-- One element behind a row. -/
theorem c_sym2 {P U Q : List E} {v : E} (h : SS w s (P ++ U ++ [v] ++ Q) c W) (hU : So W U) (hT : Tg U [v]) (hl : U.length ≠ 1) {a m : Nat} (ha : P.length = a) (hm : a + U.length = m) :
    C134 s (a : Int) (m : Int) ((m + 1 : Nat) : Int) (clos c) w fun w1 => Ext s.own w w1 ∧ ∃ M', M'.Perm (U ++ [v]) ∧ So W M' ∧ SS w1 s (P ++ M' ++ Q) c W := by
  refine T134_F126 _ _ _ _ _ _ _ ?_
  unfold S134_F126
  have hbig := h.big
  simp only [List.length_append, List.length_singleton] at hbig
  refine Srt.Br.f (by rw [i64_id (by omega)]; simp; omega) (Srt.Br.t (by rw [i64_id (by omega)]; simp; omega) ?_)
  have gv : (P ++ U ++ [v] ++ Q)[m]? = some v := by
    rw [show P ++ U ++ [v] ++ Q = (P ++ U) ++ v :: Q by simp]; exact get_mid (by simp [ha, hm])
  have gu : ∀ i u, U[i]? = some u → (P ++ U ++ [v] ++ Q)[a + i]? = some u := fun i u hi => by
    have li := (List.getElem?_eq_some_iff.1 hi).1
    rw [List.append_assoc, List.getElem?_append_left (by simp; omega), List.getElem?_append_right (by omega), show a + i - P.length = i by omega]
    exact hi
  refine ⟨fun n st w1 => ∃ p q : Nat, st = (((a + p : Nat) : Int), ((a + q : Nat) : Int)) ∧ p ≤ q ∧ q ≤ U.length ∧ n = q - p ∧ (∀ i u, i < p → U[i]? = some u → W u.1 ≤ W v.1) ∧ (∀ i u, q ≤ i → U[i]? = some u → W v.1 < W u.1) ∧ SS w1 s (P ++ U ++ [v] ++ Q) c W ∧ Ext s.own w w1, U.length,
    ⟨0, U.length, pair_eq (by omega) (by omega), by omega, Nat.le_refl _, rfl, fun i v hi => by omega, fun i v hi hv => by have := (List.getElem?_eq_some_iff.1 hv).1; omega, h, Ext.refl _ _⟩, ?_⟩
  rintro n st w1 ⟨p, q, rfl, hpq, hq, rfl, lo, hi, H1, e1⟩
  unfold S134_F126L4
  dsimp only
  refine Br.dec (fun q1 => ?_) fun q1 => ?_
  · rw [half (by omega)]
    obtain ⟨t, ht⟩ : ∃ t, (a + p + (a + q)) / 2 = a + t := ⟨(p + q) / 2, by omega⟩
    have htq : p ≤ t ∧ t < q := by omega
    rw [ht]
    have gt : U[t]? = some U[t] := List.getElem?_eq_getElem (by omega)
    generalize U[t] = u at gt
    refine H1.step_cmp gv (gu t u gt) rfl rfl fun r w2 hr H2 e2 => ?_
    by_cases q2 : r < 0
    · have hvu := hr.1 q2
      refine Srt.Br.f (by simp [q2]) ⟨t - p, by omega, p, t, rfl, by omega, by omega, rfl, lo, fun i x hix hx => ?_, H2, e1.tr e2⟩
      have := so_get hU gt hx hix
      omega
    · have hvu : W u.1 ≤ W v.1 := by
        have := fun h => q2 (hr.2 h)
        omega
      refine Srt.Br.t (by simp [q2]) (Lt.of ⟨q - (t + 1), by omega, t + 1, q, ?_, by omega, hq, rfl, fun i x hix hx => ?_, hi, H2, e1.tr e2⟩)
      · exact pair_eq (by rw [i64_id (by omega)]; omega) rfl
      · have := so_get hU hx gt (by omega)
        omega
  · have hpq2 : p = q := by omega
    subst hpq2
    refine ⟨fun n st w2 => ∃ t : Nat, st = ((a + t : Nat) : Int) ∧ p ≤ t ∧ t ≤ U.length ∧ n = t - p ∧ SS w2 s (P ++ U.take t ++ [v] ++ U.drop t ++ Q) c W ∧ Ext s.own w w2, U.length - p, ⟨U.length, by omega, by omega, Nat.le_refl _, rfl, by simpa using H1, e1⟩, ?_⟩
    rintro n st w2 ⟨t, rfl, hpt, ht, rfl, H2, e2⟩
    unfold S134_F126L3
    dsimp only
    refine Br.dec (fun q2 => ?_) fun q2 => ?_
    · obtain ⟨t, rfl⟩ : ∃ t', t = t' + 1 := ⟨t - 1, by omega⟩
      have lT : (U.take t).length = t := by rw [List.length_take]; omega
      have dU : U.drop t = U[t] :: U.drop (t + 1) := List.drop_eq_getElem_cons (by omega)
      have tU : U.take (t + 1) = U.take t ++ [U[t]] := by rw [List.take_add_one, List.getElem?_eq_getElem (by omega)]; rfl
      generalize U[t] = u at dU tU
      rw [tU] at H2
      have f : P ++ (U.take t ++ [u]) ++ [v] ++ U.drop (t + 1) ++ Q = (P ++ U.take t) ++ u :: v :: (U.drop (t + 1) ++ Q) := by simp
      rw [f] at H2
      have lP : (P ++ U.take t).length = a + t := by simp [ha, lT]
      refine H2.step_swap (i := a + t + 1) (j := a + t) (by rw [show (P ++ U.take t) ++ u :: v :: (U.drop (t + 1) ++ Q) = (P ++ U.take t ++ [u]) ++ v :: (U.drop (t + 1) ++ Q) by simp]; exact get_mid (by simp [ha, lT]; omega)) (get_mid lP) (by omega) (by omega) (by rw [i64_id (by omega)]; omega) fun w3 H3 e3 => ?_
      rw [swap_adj' lP] at H3
      refine ⟨t - p, by omega, t, by rw [i64_id (by omega)]; omega, by omega, by omega, rfl, ?_, e2.tr e3⟩
      rw [dU]
      simpa using H3
    · have htp : t = p := by omega
      subst htp
      refine ⟨e2, U.take t ++ v :: U.drop t, ?_, so_put (by rw [List.take_append_drop]; exact hU) (fun y hy => ?_) fun y hy => ?_, by simpa using H2⟩
      · refine (List.perm_middle.trans (List.Perm.cons v ?_)).trans (List.perm_append_singleton v U).symm
        rw [List.take_append_drop]
      · obtain ⟨i, hiy⟩ := List.mem_iff_getElem?.1 hy
        rw [List.getElem?_take] at hiy
        split at hiy
        · rename_i hit
          exact lt_of (lo i y hit hiy) (hT y (List.mem_of_getElem? hiy) v (by simp))
        · cases hiy
      · obtain ⟨i, hiy⟩ := List.mem_iff_getElem?.1 hy
        rw [List.getElem?_drop] at hiy
        exact .inl (hi _ y (by omega) hiy)
end
end Srt
end Go.Proofs.YtjkoafjnmkchdaaGreatDoor

/- A stable sort of coins: merging by symmetry, any two rows. Conditions: sizes. -/
namespace Go.Proofs.YtjkoafjnmkchdaaGreatDoor
namespace Srt
open Sh
set_option linter.unusedVariables false
set_option linter.unusedSimpArgs false
set_option maxRecDepth 4000
set_option maxHeartbeats 4000000
attribute [local irreducible] Ld St Nw Nn Lt LdS
theorem get_app4 {A B C D : List E} {i j : Nat} {x : E} (h : B[j]? = some x) (hi : A.length + j = i) : (A ++ B ++ C ++ D)[i]? = some x := by
  have lj := (List.getElem?_eq_some_iff.1 h).1
  rw [List.append_assoc, List.append_assoc, List.getElem?_append_right (by omega), List.getElem?_append_left (by omega), show i - A.length = j by omega]
  exact h
theorem get_app4' {A B C D : List E} {i j : Nat} {x : E} (h : C[j]? = some x) (hi : A.length + B.length + j = i) : (A ++ B ++ C ++ D)[i]? = some x := by
  have lj := (List.getElem?_eq_some_iff.1 h).1
  rw [List.append_assoc, List.getElem?_append_right (by rw [List.length_append]; omega), List.getElem?_append_left (by rw [List.length_append]; omega), List.length_append, show i - (A.length + B.length) = j by omega]
  exact h
section
variable {w w1 : World} {s : Slc} {T : List E} {W : Nat → Int} {c : Addr}
theorem last_of {l : List E} {k : Nat} {x : E} (h : l[k]? = some x) : ∃ A, l.take (k + 1) = A ++ [x] := ⟨l.take k, by rw [List.take_add_one, h]; rfl⟩
theorem first_of {l : List E} {k : Nat} {x : E} (h : l[k]? = some x) : ∃ B, l.drop k = x :: B := by
  obtain ⟨lk, rfl⟩ := List.getElem?_eq_some_iff.1 h
  exact ⟨l.drop (k + 1), List.drop_eq_getElem_cons lk⟩
theorem c_sym : ∀ (N : Nat) {w : World} {P U V Q : List E} {a m b : Nat}, SS w s (P ++ U ++ V ++ Q) c W → So W U → So W V → Tg U V → U ≠ [] → V ≠ [] → P.length = a → a + U.length = m → m + V.length = b → U.length + V.length ≤ N →
    C134 s (a : Int) (m : Int) (b : Int) (clos c) w fun w1 => Ext s.own w w1 ∧ ∃ M', M'.Perm (U ++ V) ∧ So W M' ∧ SS w1 s (P ++ M' ++ Q) c W
  | 0, w, P, U, V, Q, a, m, b, _, _, _, _, hU0, _, _, _, _, hN => absurd (List.eq_nil_of_length_eq_zero (by omega)) hU0
  | N + 1, w, P, U, V, Q, a, m, b, h, hU, hV, hT, hU0, hV0, ha, hm, hb, hN => by
    have lU := List.length_pos_iff.2 hU0
    have lV := List.length_pos_iff.2 hV0
    by_cases u1 : U.length = 1
    · obtain ⟨u, rfl⟩ : ∃ u, U = [u] := by
        match U, u1 with
        | [u], _ => exact ⟨u, rfl⟩
      have := c_sym1 (u := u) h hV hT ha (b := b) (by simp at hm; omega)
      simp only [List.length_singleton] at hm
      rw [hm] at this
      exact this
    by_cases v1 : V.length = 1
    · obtain ⟨v, rfl⟩ : ∃ v, V = [v] := by
        match V, v1 with
        | [v], _ => exact ⟨v, rfl⟩
      have := c_sym2 (v := v) h hU hT u1 ha hm
      simp only [List.length_singleton] at hb
      rw [hb] at this
      exact this
    refine T134_F126 _ _ _ _ _ _ _ ?_
    unfold S134_F126
    have hbig := h.big
    simp only [List.length_append] at hbig
    refine Srt.Br.f (by rw [i64_id (by omega)]; simp; omega) (Srt.Br.f (by rw [i64_id (by omega)]; simp; omega) (Lt.of ?_))
    rw [half (by omega)]
    obtain ⟨mid, hmid⟩ : ∃ mid, (a + b) / 2 = mid := ⟨_, rfl⟩
    rw [hmid]
    have hm1 : a < mid ∧ mid < b := by omega
    rw [i64_id (n := (mid : Int) + (m : Int)) (by omega)]
    -- the search
    obtain ⟨lo, hi, hlohi, hlo1, hlo2, hhi1, hhi2⟩ : ∃ lo hi : Nat, (lo, hi) = (if m > mid then (mid + m - b, mid) else (a, m)) ∧ a ≤ lo ∧ mid + m - b ≤ lo ∧ hi ≤ mid ∧ hi ≤ m := by
      by_cases q : m > mid
      · exact ⟨_, _, by rw [if_pos q], by omega, by omega, by omega, by omega⟩
      · exact ⟨_, _, by rw [if_neg q], by omega, by omega, by omega, by omega⟩
    have hle : lo ≤ hi := by
      by_cases q : m > mid
      · rw [if_pos q] at hlohi
        cases hlohi
        omega
      · rw [if_neg q] at hlohi
        cases hlohi
        omega
    refine ⟨fun (st : Int × Int) w1 => st = ((lo : Int), (hi : Int)) ∧ w1 = w, ?_, ?_⟩
    rotate_left
    · refine Lt.of ?_
      by_cases q : m > mid
      · rw [if_pos q] at hlohi
        cases hlohi
        refine Srt.Br.t (by simp; omega) ⟨pair_eq (by rw [i64_id (by omega)]; omega) rfl, rfl⟩
      · rw [if_neg q] at hlohi
        cases hlohi
        exact Srt.Br.f (by simp; omega) ⟨rfl, rfl⟩
    rintro st w0 ⟨rfl, rfl⟩
    unfold S134_F126J3
    dsimp only
    have gU : ∀ k, lo ≤ k → k < hi → ∃ x, U[k - a]? = some x ∧ (P ++ U ++ V ++ Q)[k]? = some x := fun k h1 h2 => by
      have hk : k - a < U.length := by omega
      exact ⟨_, List.getElem?_eq_getElem hk, get_app4 (List.getElem?_eq_getElem hk) (by omega)⟩
    have gV : ∀ k, lo ≤ k → k < hi → ∃ y, V[mid - 1 - k]? = some y ∧ (P ++ U ++ V ++ Q)[mid + m - 1 - k]? = some y := fun k h1 h2 => by
      have hk : mid - 1 - k < V.length := by omega
      exact ⟨_, List.getElem?_eq_getElem hk, get_app4' (List.getElem?_eq_getElem hk) (by omega)⟩
    refine ⟨fun n st w1 => ∃ p q : Nat, st = ((p : Int), (q : Int)) ∧ lo ≤ p ∧ p ≤ q ∧ q ≤ hi ∧ n = q - p ∧ (∀ k x y, lo ≤ k → k < p → U[k - a]? = some x → V[mid - 1 - k]? = some y → W x.1 ≤ W y.1) ∧ (∀ k x y, q ≤ k → k < hi → U[k - a]? = some x → V[mid - 1 - k]? = some y → W y.1 < W x.1) ∧ SS w1 s (P ++ U ++ V ++ Q) c W ∧ Ext s.own w0 w1, hi - lo,
      ⟨lo, hi, rfl, Nat.le_refl _, hle, Nat.le_refl _, rfl, fun k x y h1 h2 => by omega, fun k x y h1 h2 => by omega, h, Ext.refl _ _⟩, ?_⟩
    rintro n st w1 ⟨p, q, rfl, hp1, hpq, hq1, rfl, below, above, H1, e1⟩
    unfold S134_F126L5
    dsimp only
    refine Br.dec (fun q1 => Lt.of ?_) fun q1 => ?_
    · rw [half (by omega)]
      obtain ⟨t, ht⟩ : ∃ t, (p + q) / 2 = t := ⟨_, rfl⟩
      rw [ht]
      have htq : p ≤ t ∧ t < q := by omega
      obtain ⟨x, hx, gx⟩ := gU t (by omega) (by omega)
      obtain ⟨y, hy, gy⟩ := gV t (by omega) (by omega)
      have ec : IntKind.i64.wrap (IntKind.i64.wrap ((mid : Int) + (m : Int) - 1) - (t : Int)) = ((mid + m - 1 - t : Nat) : Int) := by
        rw [i64_id (n := (mid : Int) + (m : Int) - 1) (by omega), i64_id (by omega)]
        omega
      refine H1.step_cmp gy gx ec rfl fun r w2 hr H2 e2 => ?_
      by_cases q2 : r < 0
      · have hyx := hr.1 q2
        refine Srt.Br.f (by simp [q2]) ⟨t - p, by omega, p, t, rfl, hp1, by omega, by omega, rfl, below, fun k x' y' h1 h2 hx' hy' => ?_, H2, e1.tr e2⟩
        have a1 := so_get hU hx hx' (by omega)
        have a2 := so_get hV hy' hy (by omega)
        omega
      · have hxy : W x.1 ≤ W y.1 := by
          have := fun h => q2 (hr.2 h)
          omega
        refine Srt.Br.t (by simp [q2]) ⟨q - (t + 1), by omega, t + 1, q, pair_eq (by rw [i64_id (by omega)]; omega) rfl, by omega, by omega, hq1, rfl, fun k x' y' h1 h2 hx' hy' => ?_, above, H2, e1.tr e2⟩
        have a1 := so_get hU hx' hx (by omega)
        have a2 := so_get hV hy hy' (by omega)
        omega
    · have : p = q := by omega
      subst this
      have hend : IntKind.i64.wrap ((mid : Int) + (m : Int) - (p : Int)) = ((mid + m - p : Nat) : Int) := by rw [i64_id (by omega)]; omega
      rw [hend]
      obtain ⟨U1, U2, eU, lU1⟩ := cut_at (l := U) (i := p - a) (by omega)
      obtain ⟨V1, V2, eV, lV1⟩ := cut_at (l := V) (i := mid - p) (by omega)
      have lU2 : U2.length = m - p := by have := congrArg List.length eU; rw [List.length_append] at this; omega
      have lV2 : V2.length = b - (mid + m - p) := by have := congrArg List.length eV; rw [List.length_append] at this; omega
      have tU : U.take (p - a) = U1 := by rw [eU, ← lU1]; simp
      have dU : U.drop (p - a) = U2 := by rw [eU, ← lU1]; simp
      have tV : V.take (mid - p) = V1 := by rw [eV, ← lV1]; simp
      have dV : V.drop (mid - p) = V2 := by rw [eV, ← lV1]; simp
      have cross : ∀ x ∈ U1 ++ V1, ∀ y ∈ U2 ++ V2, lt W x y := by
        refine sym_cross (by rw [← eU]; exact hU) (by rw [← eV]; exact hV) (by rw [← eU, ← eV]; exact hT) ?_ ?_
        · by_cases hpl : p = lo
          · by_cases q : m > mid
            · rw [if_pos q] at hlohi
              cases hlohi
              exact .inr (.inl (List.eq_nil_of_length_eq_zero (by omega)))
            · rw [if_neg q] at hlohi
              cases hlohi
              exact .inl (List.eq_nil_of_length_eq_zero (by omega))
          · refine .inr (.inr ?_)
            obtain ⟨x, hx, _⟩ := gU (p - 1) (by omega) (by omega)
            obtain ⟨y, hy, _⟩ := gV (p - 1) (by omega) (by omega)
            obtain ⟨A, hA⟩ := last_of hx
            obtain ⟨B, hB⟩ := first_of hy
            rw [show p - 1 - a + 1 = p - a by omega, tU] at hA
            rw [show mid - 1 - (p - 1) = mid - p by omega, dV] at hB
            exact ⟨A, x, y, B, hA, hB, below (p - 1) x y (by omega) (by omega) hx hy⟩
        · by_cases hph : p = hi
          · by_cases q : m > mid
            · rw [if_pos q] at hlohi
              cases hlohi
              exact .inl (List.eq_nil_of_length_eq_zero (by omega))
            · rw [if_neg q] at hlohi
              cases hlohi
              exact .inr (.inl (List.eq_nil_of_length_eq_zero (by omega)))
          · refine .inr (.inr ?_)
            obtain ⟨x, hx, _⟩ := gU p (by omega) (by omega)
            obtain ⟨y, hy, _⟩ := gV p (by omega) (by omega)
            obtain ⟨A, hA⟩ := last_of hy
            obtain ⟨B, hB⟩ := first_of hx
            rw [show mid - 1 - p + 1 = mid - p by omega, tV] at hA
            rw [dU] at hB
            exact ⟨A, y, x, B, hA, hB, above p x y (by omega) (by omega) hx hy⟩
      subst eU eV
      simp only [List.length_append] at *
      obtain ⟨sU1, sU2, _⟩ := so_app.1 hU
      obtain ⟨sV1, sV2, _⟩ := so_app.1 hV
      have T1 : Tg U1 V1 := hT.sub (fun a ha => List.mem_append_left _ ha) (fun a ha => List.mem_append_left _ ha)
      have T2 : Tg U2 V2 := hT.sub (fun a ha => List.mem_append_right _ ha) (fun a ha => List.mem_append_right _ ha)
      refine ⟨fun (_ : Unit) w2 => SS w2 s (P ++ U1 ++ V1 ++ (U2 ++ V2 ++ Q)) c W ∧ Ext s.own w0 w2, ?_, ?_⟩
      rotate_left
      · by_cases q2 : p < m ∧ m < mid + m - p
        · refine Srt.Br.t (by simp; omega) (Srt.Br.t (by simp; omega) ?_)
          refine (c_rot (P := P ++ U1) (U := U2) (V := V1) (Q := V2 ++ Q) (by simpa using H1) (by simp; omega) (by omega) (by omega) (by intro e; rw [e] at lU2; simp at lU2; omega) (by intro e; rw [e] at lV1; simp at lV1; omega) _).mono ?_
          rintro w2 ⟨e2, H2⟩
          exact ⟨by simpa using H2, e1.tr e2⟩
        · have hnil : U2 = [] ∨ V1 = [] := by
            rcases Nat.lt_or_ge p m with h1 | h1
            · exact .inr (List.eq_nil_of_length_eq_zero (by omega))
            · exact .inl (List.eq_nil_of_length_eq_zero (by omega))
          have H1' : SS w1 s (P ++ U1 ++ V1 ++ (U2 ++ V2 ++ Q)) c W := by
            rcases hnil with e | e
            · rw [e] at H1 ⊢; simpa using H1
            · rw [e] at H1 ⊢; simpa using H1
          refine Br.dec (fun q3 => Br.dec (fun q4 => by omega) fun q4 => ⟨H1', e1⟩) fun q3 => ⟨H1', e1⟩
      rintro _ w2 ⟨H2, e2⟩
      unfold S134_F126J2
      dsimp only
      rw [half (by omega), hmid]
      refine ⟨fun (_ : Unit) w3 => Ext s.own w0 w3 ∧ ∃ M1, M1.Perm (U1 ++ V1) ∧ So W M1 ∧ SS w3 s (P ++ M1 ++ (U2 ++ V2 ++ Q)) c W, ?_, ?_⟩
      rotate_left
      · by_cases q2 : a < p ∧ p < mid
        · refine Srt.Br.t (by simp; omega) (Lt.of (Srt.Br.t (by simp; omega) ?_))
          refine (c_sym N (P := P) (U := U1) (V := V1) (Q := U2 ++ V2 ++ Q) (a := a) (m := p) (b := mid) H2 sU1 sV1 T1 (by intro e; rw [e] at lU1; simp at lU1; omega) (by intro e; rw [e] at lV1; simp at lV1; omega) ha (by omega) (by omega) (by omega)).mono ?_
          rintro w3 ⟨e3, M1, p1, s1, H3⟩
          exact ⟨e2.tr e3, M1, p1, s1, H3⟩
        · have hs : So W (U1 ++ V1) := by
            rcases Nat.lt_or_ge a p with h1 | h1
            · have : V1 = [] := List.eq_nil_of_length_eq_zero (by omega)
              rw [this]; simpa using sU1
            · have : U1 = [] := List.eq_nil_of_length_eq_zero (by omega)
              rw [this]; simpa using sV1
          refine Br.dec (fun q3 => Lt.of (Br.dec (fun q4 => by omega) fun q4 => ⟨e2, U1 ++ V1, .refl _, hs, by simpa using H2⟩)) fun q3 => ⟨e2, U1 ++ V1, .refl _, hs, by simpa using H2⟩
      rintro _ w3 ⟨e3, M1, p1, s1, H3⟩
      unfold S134_F126J1
      dsimp only
      rw [half (by omega), hmid, hend]
      have lM1 : M1.length = mid - a := by rw [p1.length_eq, List.length_append]; omega
      have fin : ∀ w4, Ext s.own w0 w4 → ∀ M2, M2.Perm (U2 ++ V2) → So W M2 → SS w4 s (P ++ M1 ++ M2 ++ Q) c W → Ext s.own w0 w4 ∧ ∃ M', M'.Perm (U1 ++ U2 ++ (V1 ++ V2)) ∧ So W M' ∧ SS w4 s (P ++ M' ++ Q) c W := fun w4 e4 M2 p2 s2 H4 => by
        refine ⟨e4, M1 ++ M2, ?_, so_app.2 ⟨s1, s2, fun x hx y hy => cross x (p1.mem_iff.1 hx) y (p2.mem_iff.1 hy)⟩, by simpa using H4⟩
        refine (p1.append p2).trans ?_
        have : (V1 ++ (U2 ++ V2)).Perm (U2 ++ (V1 ++ V2)) := by
          rw [← List.append_assoc, ← List.append_assoc]
          exact List.Perm.append_right _ List.perm_append_comm
        simpa using List.Perm.append_left U1 this
      by_cases q2 : mid < mid + m - p ∧ mid + m - p < b
      · refine Lt.of (Srt.Br.t (by simp; omega) (Srt.Br.t (by simp; omega) ?_))
        refine (c_sym N (P := P ++ M1) (U := U2) (V := V2) (Q := Q) (a := mid) (m := mid + m - p) (b := b) (by simpa using H3) sU2 sV2 T2 (by intro e; rw [e] at lU2; simp at lU2; omega) (by intro e; rw [e] at lV2; simp at lV2; omega) (by rw [List.length_append]; omega) (by omega) (by omega) (by omega)).mono ?_
        rintro w4 ⟨e4, M2, p2, s2, H4⟩
        exact fin w4 (e3.tr e4) M2 p2 s2 H4
      · have hs : So W (U2 ++ V2) := by
          rcases Nat.lt_or_ge mid (mid + m - p) with h1 | h1
          · have : V2 = [] := List.eq_nil_of_length_eq_zero (by omega)
            rw [this]; simpa using sU2
          · have : U2 = [] := List.eq_nil_of_length_eq_zero (by omega)
            rw [this]; simpa using sV2
        have F := fin w3 e3 (U2 ++ V2) (.refl _) hs (by simpa using H3)
        refine Lt.of (Br.dec (fun q3 => Br.dec (fun q4 => by omega) fun q4 => F) fun q3 => F)
end
end Srt
end Go.Proofs.YtjkoafjnmkchdaaGreatDoor
