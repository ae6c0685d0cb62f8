/- Small laws on memory, on numbers and on the formulas of 'Sh'. No condition. -/
import Derived.Test.YtpkadliieplblaaDoorShR
import Derived.IntWalk
import Derived.Below
import Derived.Laws.AppendOwn
import Derived.Laws.OwnMore
import Derived.Laws.BytesString
import Derived.Laws.BytesArg
namespace Go.Proofs.YtpkadliieplblaaDoor
namespace Sh
set_option linter.unusedVariables false

@[simp] theorem Br_true (A B : Prop) : Br true A B = A := rfl
@[simp] theorem Br_false (A B : Prop) : Br false A B = B := rfl
theorem Br_of {b : Bool} {A B : Prop} (h1 : b = true → A) (h2 : b = false → B) : Br b A B := by cases b; exact h2 rfl; exact h1 rfl
theorem Join.intro {σ : Type} {body : σ → World → Prop} {front : (σ → World → Prop) → Prop} (h : front body) : Join body front := ⟨body, fun _ _ h => h, h⟩
/-- A loop whose relation has a measure. -/
theorem Lp.mk {σ : Type} {B : (σ → World → Prop) → σ → World → Prop} {s0 : σ} {w0 : World} (I : σ → World → Prop) (μ : σ → World → Nat) (h0 : I s0 w0)
    (h : ∀ s w, I s w → B (fun s' w' => I s' w' ∧ μ s' w' < μ s w) s w) (hm : ∀ (X Y : σ → World → Prop) s w, (∀ s w, X s w → Y s w) → B X s w → B Y s w) : Lp B s0 w0 :=
  ⟨fun n s w => I s w ∧ μ s w = n, _, ⟨h0, rfl⟩, fun n s w ⟨hI, hn⟩ => hm _ _ s w (fun s' w' ⟨h1, h2⟩ => ⟨μ s' w', hn ▸ h2, h1, rfl⟩) (h s w hI)⟩

/-! ### Addresses and cells -/

@[simp] theorem add_lit (b o n : Nat) : (⟨b, o, none⟩ : Addr).add n = ⟨b, o + n, none⟩ := by
  unfold Addr.add
  split
  · rename_i h; subst h; rfl
  · rfl
/-- Block b of w is this row of cells. -/
def Blk (w : World) (b : Nat) (cs : Array Value) (t : TypeId) : Prop := w.heap[b]? = some (.cells cs t (0, 0))
theorem Blk.cell {w : World} {b : Nat} {cs : Array Value} {t : TypeId} (h : Blk w b cs t) (o : Nat) : w.cell? ⟨b, o, none⟩ = cs[o]? := by
  unfold Blk at h
  simp [World.cell?, h]
theorem Blk.frozen {w : World} {b : Nat} {cs : Array Value} {t : TypeId} (h : Blk w b cs t) (o : Nat) : w.frozen? ⟨b, o, none⟩ = false := by
  unfold Blk at h
  simp [World.frozen?, h]
theorem Blk.can {w : World} {b : Nat} {cs : Array Value} {t : TypeId} (h : Blk w b cs t) {o : Nat} (ho : o < cs.size) : CanSt w ⟨b, o, none⟩ :=
  ⟨⟨cs[o], by rw [h.cell, Array.getElem?_eq_getElem ho]⟩, h.frozen o⟩
theorem Blk.lt {w : World} {b : Nat} {cs : Array Value} {t : TypeId} (h : Blk w b cs t) : b < w.heap.size := (Array.getElem?_eq_some_iff.1 h).1
theorem Blk.set {w : World} {b : Nat} {cs : Array Value} {t : TypeId} (h : Blk w b cs t) (o : Nat) (v : Value) : Blk (w.setCell ⟨b, o, none⟩ v) b (cs.setIfInBounds o v) t := by
  unfold Blk at h ⊢
  simp [World.setCell, Array.getElem?_modify, h]
theorem Blk.set' {w : World} {b c : Nat} {cs : Array Value} {t : TypeId} (h : Blk w b cs t) {o : Nat} {v : Value} (hne : b ≠ c) : Blk (w.setCell ⟨c, o, none⟩ v) b cs t := by
  unfold Blk at h ⊢
  simp only [World.setCell, Array.getElem?_modify]
  rw [if_neg (fun e => hne e.symm)]
  exact h
theorem Blk.drew {w : World} {b : Nat} {cs : Array Value} {t : TypeId} (h : Blk w b cs t) : Blk w.drew b cs t := h
theorem Blk.drewN {w : World} {b : Nat} {cs : Array Value} {t : TypeId} (h : Blk w b cs t) {n : Nat} : Blk (w.drewN n) b cs t := by unfold Blk at h ⊢; exact h
theorem Blk.alloc {w : World} {b : Nat} {cs : Array Value} {t : TypeId} (h : Blk w b cs t) (o : Obj) : Blk (w.alloc o) b cs t := by
  have := h.lt
  unfold Blk at h ⊢
  rw [Go.RowKit.Below.heap_alloc w o b this]; exact h
theorem Blk.new (w : World) (cs : Array Value) (t : TypeId) : Blk (w.alloc (.cells cs t)) w.heap.size cs t := by
  unfold Blk
  show (w.heap.push _)[w.heap.size]? = _
  simp
@[simp] theorem size_alloc' (w : World) (o : Obj) : (w.alloc o).heap.size = w.heap.size + 1 := by show (w.heap.push o).size = _; rw [Array.size_push]
@[simp] theorem size_set' (w : World) (a : Addr) (v : Value) : (w.setCell a v).heap.size = w.heap.size := by simp [World.setCell]
@[simp] theorem size_drew' (w : World) : w.drew.heap.size = w.heap.size := rfl
@[simp] theorem size_drewN' (w : World) (n : Nat) : (w.drewN n).heap.size = w.heap.size := rfl

/-! ### What may have changed -/

/-- w' is w with new blocks, and with the blocks of F changed. -/
structure Ext (F : Nat → Prop) (w w' : World) : Prop where
  os : w'.os = w.os
  tape : w'.tape = w.tape
  output : w'.output = w.output
  size : w.heap.size ≤ w'.heap.size
  block : ∀ k, k < w.heap.size → ¬ F k → w'.heap[k]? = w.heap[k]?
theorem Ext.refl (F : Nat → Prop) (w : World) : Ext F w w := ⟨rfl, rfl, rfl, Nat.le_refl _, fun _ _ _ => rfl⟩
theorem Ext.trans {F G H : Nat → Prop} {a b c : World} (h : Ext F a b) (k : Ext G b c) (hF : ∀ i, F i → H i) (hG : ∀ i, i < a.heap.size → G i → H i) : Ext H a c :=
  ⟨k.os.trans h.os, k.tape.trans h.tape, k.output.trans h.output, Nat.le_trans h.size k.size, fun i hi hn =>
    (k.block i (Nat.lt_of_lt_of_le hi h.size) fun g => hn (hG i hi g)).trans (h.block i hi fun f => hn (hF i f))⟩
theorem Ext.tr {F : Nat → Prop} {a b c : World} (h : Ext F a b) (k : Ext F b c) : Ext F a c := h.trans k (fun _ h => h) (fun _ _ h => h)
theorem Ext.mono {F G : Nat → Prop} {a b : World} (h : Ext F a b) (hF : ∀ i, i < a.heap.size → F i → G i) : Ext G a b :=
  ⟨h.os, h.tape, h.output, h.size, fun i hi hn => h.block i hi fun f => hn (hF i hi f)⟩
theorem Ext.drew {F : Nat → Prop} {a w : World} (h : Ext F a w) : Ext F a w.drew := ⟨h.os, h.tape, h.output, h.size, h.block⟩
theorem Ext.drewN {F : Nat → Prop} {a w : World} (h : Ext F a w) (n : Nat) : Ext F a (w.drewN n) := ⟨h.os, h.tape, h.output, h.size, h.block⟩
theorem Ext.alloc {F : Nat → Prop} {a w : World} (h : Ext F a w) (o : Obj) : Ext F a (w.alloc o) :=
  ⟨h.os, h.tape, h.output, by have := h.size; simp; omega, fun i hi hn => by
    rw [Go.RowKit.Below.heap_alloc w o i (by have := h.size; omega)]; exact h.block i hi hn⟩
theorem Ext.set {F : Nat → Prop} {a w : World} (h : Ext F a w) {b o : Nat} (hb : F b ∨ a.heap.size ≤ b) (v : Value) : Ext F a (w.setCell ⟨b, o, none⟩ v) :=
  ⟨h.os, h.tape, h.output, by simpa using h.size, fun i hi hn => by
    rw [Go.RowKit.Below.heap_setCell _ _ _ _ (fun e => by
      simp only at e
      subst e
      rcases hb with hb | hb
      · exact hn hb
      · omega)]
    exact h.block i hi hn⟩
theorem Ext.blk {F : Nat → Prop} {a w : World} (h : Ext F a w) {b : Nat} {cs : Array Value} {t : TypeId} (hb : Blk a b cs t) (hn : ¬ F b) : Blk w b cs t := by
  unfold Blk at hb ⊢
  rw [h.block b (Array.getElem?_eq_some_iff.1 hb).1 hn]; exact hb
theorem Ext.below {w w' : World} (h : Ext (fun _ => False) w w') : Go.RowKit.Below w.heap.size w w' :=
  ⟨h.os, h.tape, h.output, h.size, fun k hk => h.block k hk id⟩
theorem Ext.grown {F : Nat → Prop} {a w w' : World} {row : Option Nat} (h : Ext F a w) (g : w.grownBy w' row) (hr : ∀ k, row = some k → F k ∨ a.heap.size ≤ k) : Ext F a w' :=
  ⟨g.os.trans h.os, g.tape.trans h.tape, g.output.trans h.output, Nat.le_trans h.size g.size, fun i hi hn => by
    rw [g.block i (by have := h.size; omega) (fun e => by
      rcases hr i e.symm with h1 | h1
      · exact hn h1
      · omega)]
    exact h.block i hi hn⟩
theorem Ext.cell {F : Nat → Prop} {a w : World} (h : Ext F a w) {p : Addr} (hp : p.block < a.heap.size) (hn : ¬ F p.block) : w.cell? p = a.cell? p := World.cell?_of_block (w := a) (h.block p.block hp hn)

theorem cell_lt' {w : World} {a : Addr} {v : Value} (h : w.cell? a = some v) : a.block < w.heap.size := by
  unfold World.cell? at h
  rcases Nat.lt_or_ge a.block w.heap.size with h' | h'
  · exact h'
  · rw [Array.getElem?_eq_none h'] at h
    cases h
theorem Ext.cell_same {a w : World} (h : Ext (fun _ => False) a w) {p : Addr} {v : Value} (hc : a.cell? p = some v) : w.cell? p = some v := by
  rw [h.cell (cell_lt' hc) id]; exact hc

/-! ### The steps of a formula over known blocks -/

/-- Blocks that are known whole, no two of them one; 'w0': the world at the start; 'F': the old blocks that may be changed. -/
structure Hx (w0 : World) (F : Nat → Prop) (w : World) (L : List (Nat × Array Value × TypeId)) : Prop where
  blk : ∀ p ∈ L, Blk w p.1 p.2.1 p.2.2
  nodup : (L.map (·.1)).Nodup
  ext : Ext F w0 w
section
variable {w0 w : World} {F : Nat → Prop} {L : List (Nat × Array Value × TypeId)} {b o : Nat} {cs : Array Value} {t : TypeId}
theorem Hx.get (h : Hx w0 F w L) (i : Nat) (hi : L[i]? = some (b, cs, t)) : Blk w b cs t := h.blk (b, cs, t) (List.mem_of_getElem? hi)
theorem Nn.of {a : Addr} {K : Addr → Prop} (h : K a) : Nn (some a) K := ⟨a, rfl, h⟩
theorem Ld.mk {α : Type} {V : α → Value} {K : α → Prop} {x : α} {a : Addr} (h : w.cell? a = some (V x)) (k : K x) : Ld w a V K := ⟨x, h, k⟩
theorem Nw.of {o' : Obj} {K : World → Prop} (h : K (w.alloc o')) : Nw w o' K := h
theorem Lt.of {α : Type} {e : α} {K : α → Prop} (h : K e) : Lt e K := h
theorem Ld.of {α : Type} {V : α → Value} {K : α → Prop} {x : α} (h : Blk w b cs t) (hx : cs[o]? = some (V x)) (hk : K x) : Ld w ⟨b, o, none⟩ V K := ⟨x, by rw [h.cell]; exact hx, hk⟩
theorem Hx.ld {α : Type} {V : α → Value} {K : α → Prop} {x : α} (h : Hx w0 F w L) (i : Nat) (hi : L[i]? = some (b, cs, t)) (hx : cs[o]? = some (V x)) (hk : K x) : Ld w ⟨b, o, none⟩ V K :=
  Ld.of (h.get i hi) hx hk
theorem LdS.of {α : Type} {S : World → Prop} {V : α → Value} {K : α → Prop} {x : α} (h : ∀ w, S w → Blk w b cs t) (hx : cs[o]? = some (V x)) (hk : K x) : LdS S ⟨b, o, none⟩ V K :=
  ⟨x, fun w hw => by rw [(h w hw).cell]; exact hx, hk⟩
theorem nodup_get {l : List Nat} (h : l.Nodup) {i j x : Nat} (hi : l[i]? = some x) (hj : l[j]? = some x) : i = j := by
  obtain ⟨h1, e1⟩ := List.getElem?_eq_some_iff.1 hi
  obtain ⟨h2, e2⟩ := List.getElem?_eq_some_iff.1 hj
  exact (List.getElem_inj h).1 (e1.trans e2.symm)
theorem map_set_fst {v : Array Value × TypeId} {i : Nat} {c : Array Value × TypeId} (hi : L[i]? = some (b, c)) : (L.set i (b, v)).map (·.1) = L.map (·.1) := by
  rw [List.map_set]
  refine List.ext_getElem? fun j => ?_
  rw [List.getElem?_set]
  split
  · rename_i e
    subst e
    have : (L.map (·.1))[i]? = some b := by simp [hi]
    rw [this]
    simp
    exact (List.getElem?_eq_some_iff.1 hi).1
  · rfl
/-- One known block has turned. -/
theorem Hx.upd (h : Hx w0 F w L) (i : Nat) (hi : L[i]? = some (b, cs, t)) {w2 : World} {cs' : Array Value} (hb : Blk w2 b cs' t) (he : Ext (· = b) w w2) (hF : F b ∨ w0.heap.size ≤ b) : Hx w0 F w2 (L.set i (b, cs', t)) := by
  refine ⟨fun p hp => ?_, by rw [map_set_fst hi]; exact h.nodup, h.ext.trans he (fun _ h => h) fun k hk e => ?_⟩
  · obtain ⟨j, hj⟩ := List.getElem?_of_mem hp
    rw [List.getElem?_set] at hj
    split at hj
    · split at hj
      · cases hj; exact hb
      · cases hj
    · rename_i hne
      refine he.blk (h.blk p (List.mem_of_getElem? hj)) fun e => hne ?_
      exact nodup_get h.nodup (x := b) (by simp [hi]) (by simp [hj, e])
  · subst e
    rcases hF with hF | hF
    · exact hF
    · omega
theorem Hx.st {v : Value} {K : World → Prop} (h : Hx w0 F w L) (i : Nat) (hi : L[i]? = some (b, cs, t)) (ho : o < cs.size) (hF : F b ∨ w0.heap.size ≤ b)
    (k : ∀ w2, Hx w0 F w2 (L.set i (b, cs.setIfInBounds o v, t)) → K w2) : St w ⟨b, o, none⟩ v K :=
  ⟨(h.get i hi).can ho, k _ (h.upd i hi ((h.get i hi).set o v) ((Ext.refl (· = b) w).set (.inl rfl) v) hF)⟩
theorem Hx.keep (h : Hx w0 F w L) {w2 : World} (he : Ext (fun _ => False) w w2) : Hx w0 F w2 L :=
  ⟨fun p hp => he.blk (h.blk p hp) id, h.nodup, h.ext.trans he (fun _ h => h) (fun _ _ h => h.elim)⟩
theorem Hx.drew (h : Hx w0 F w L) : Hx w0 F w.drew L := h.keep (Ext.refl _ w).drew
theorem Hx.drewN (h : Hx w0 F w L) {n : Nat} : Hx w0 F (w.drewN n) L := h.keep ((Ext.refl _ w).drewN n)
/-- A block that is known besides. -/
theorem Hx.push (h : Hx w0 F w L) (hb : Blk w b cs t) (hne : b ∉ L.map (·.1)) : Hx w0 F w (L ++ [(b, cs, t)]) :=
  ⟨fun p hp => (List.mem_append.1 hp).elim (h.blk p) fun e => by rw [List.mem_singleton.1 e]; exact hb,
    by rw [List.map_append]; exact List.nodup_append.2 ⟨h.nodup, by simp, fun a ha c hc e => hne (by simp at hc; rw [← hc, ← e]; exact ha)⟩, h.ext⟩
theorem Hx.fresh (h : Hx w0 F w L) : w.heap.size ∉ L.map (·.1) := fun hm => by
  obtain ⟨p, hp, e⟩ := List.mem_map.1 hm
  have := (h.blk p hp).lt
  omega
theorem Hx.nw {K : World → Prop} (h : Hx w0 F w L) (k : ∀ w2, Hx w0 F w2 (L ++ [(w.heap.size, cs, t)]) → K w2) : Nw w (.cells cs t) K :=
  k _ ((h.keep ((Ext.refl _ w).alloc _)).push (Blk.new w cs t) h.fresh)
theorem Hx.nw' {K : World → Prop} (h : Hx w0 F w L) (k : ∀ w2, Hx w0 F w2 (L ++ [(w.heap.size, cs, t)]) → Ext (fun _ => False) w w2 → K w2) : Nw w (.cells cs t) K :=
  k _ ((h.keep ((Ext.refl _ w).alloc _)).push (Blk.new w cs t) h.fresh) ((Ext.refl _ w).alloc _)
theorem Hx.st' {v : Value} {K : World → Prop} (h : Hx w0 F w L) (i : Nat) (hi : L[i]? = some (b, cs, t)) (ho : o < cs.size) (hF : F b ∨ w0.heap.size ≤ b)
    (k : ∀ w2, Hx w0 F w2 (L.set i (b, cs.setIfInBounds o v, t)) → Ext (· = b) w w2 → K w2) : St w ⟨b, o, none⟩ v K :=
  ⟨(h.get i hi).can ho, k _ (h.upd i hi ((h.get i hi).set o v) ((Ext.refl (· = b) w).set (.inl rfl) v) hF) ((Ext.refl (· = b) w).set (.inl rfl) v)⟩
/-- Only one of them. -/
theorem Hx.only (h : Hx w0 F w L) (i : Nat) (hi : L[i]? = some (b, cs, t)) : Hx w0 F w [(b, cs, t)] :=
  ⟨fun p hp => by rw [List.mem_singleton.1 hp]; exact h.get i hi, by simp, h.ext⟩
theorem Hx.left {M : List (Nat × Array Value × TypeId)} (h : Hx w0 F w (L ++ M)) : Hx w0 F w L :=
  ⟨fun p hp => h.blk p (List.mem_append_left _ hp), by have := h.nodup; rw [List.map_append] at this; exact (List.nodup_append.1 this).1, h.ext⟩
/-- Other blocks have turned. -/
theorem Hx.other {G : Nat → Prop} {w2 : World} (h : Hx w0 F w L) (he : Ext G w w2) (hL : ∀ j, G j → j ∉ L.map (·.1)) (hF : ∀ j, G j → F j ∨ w0.heap.size ≤ j) : Hx w0 F w2 L :=
  ⟨fun p hp => he.blk (h.blk p hp) fun hg => hL _ hg (List.mem_map_of_mem hp), h.nodup, h.ext.trans he (fun _ h => h) fun k hk hg => (hF k hg).elim id fun h2 => by omega⟩
theorem Hx.size (h : Hx w0 F w L) : w0.heap.size ≤ w.heap.size := h.ext.size
theorem Hx.start (w : World) (F : Nat → Prop) : Hx w F w [] := ⟨fun _ h => (List.not_mem_nil h).elim, List.nodup_nil, Ext.refl _ _⟩
theorem Hx.one (h : Blk w b cs t) : Hx w F w [(b, cs, t)] := ⟨fun p hp => by rw [List.mem_singleton.1 hp]; exact h, by simp, Ext.refl _ _⟩
/-- The same world, another start. -/
theorem Hx.here (h : Hx w0 F w L) (G : Nat → Prop) : Hx w G w L := ⟨h.blk, h.nodup, Ext.refl _ _⟩
end

/-! ### Blocks that are new and known -/

def arr (L : List (Nat × List Value × TypeId)) : List (Nat × Array Value × TypeId) := L.map fun p => (p.1, p.2.1.toArray, p.2.2)
/-- Blocks made since the start, known whole; nothing older has changed. -/
structure Hn (w0 w : World) (L : List (Nat × List Value × TypeId)) : Prop where
  h : Hx w0 (fun _ => False) w (arr L)
  new : ∀ p ∈ L, w0.heap.size ≤ p.1
section
variable {w0 w : World} {L : List (Nat × List Value × TypeId)} {b o : Nat} {cs : List Value} {t : TypeId}
theorem arr_get {i : Nat} (hi : L[i]? = some (b, cs, t)) : (arr L)[i]? = some (b, cs.toArray, t) := by
  unfold arr
  rw [List.getElem?_map, hi]
  rfl
theorem arr_fst : (arr L).map (·.1) = L.map (·.1) := by
  unfold arr
  rw [List.map_map]
  rfl
theorem Hn.start (w : World) : Hn w w [] := ⟨Hx.start w _, fun _ h => (List.not_mem_nil h).elim⟩
theorem Hn.ext (h : Hn w0 w L) : Ext (fun _ => False) w0 w := h.h.ext
theorem Hn.size (h : Hn w0 w L) : w0.heap.size ≤ w.heap.size := h.h.ext.size
theorem Hn.get (h : Hn w0 w L) (i : Nat) (hi : L[i]? = some (b, cs, t)) : Blk w b cs.toArray t := h.h.get i (arr_get hi)
theorem Hn.lt (h : Hn w0 w L) (i : Nat) (hi : L[i]? = some (b, cs, t)) : b < w.heap.size := (h.get i hi).lt
theorem Hn.ge (h : Hn w0 w L) (i : Nat) (hi : L[i]? = some (b, cs, t)) : w0.heap.size ≤ b := h.new _ (List.mem_of_getElem? hi)
theorem Hn.all_lt (h : Hn w0 w L) {j : Nat} (hj : j ∈ L.map (·.1)) : j < w.heap.size := by
  obtain ⟨p, hp, e⟩ := List.mem_map.1 hj
  obtain ⟨i, hi⟩ := List.getElem?_of_mem hp
  have := h.lt i (b := p.1) (cs := p.2.1) (t := p.2.2) hi
  omega
theorem Hn.ld {α : Type} {V : α → Value} {K : α → Prop} {x : α} (h : Hn w0 w L) (i : Nat) (hi : L[i]? = some (b, cs, t)) (hx : cs[o]? = some (V x)) (hk : K x) : Ld w ⟨b, o, none⟩ V K :=
  h.h.ld i (arr_get hi) (by simpa using hx) hk
theorem Hn.set (h : Hn w0 w L) {w2 : World} {cs' : List Value} (i : Nat) (hi : L[i]? = some (b, cs, t)) (h2 : Hx w0 (fun _ => False) w2 ((arr L).set i (b, cs'.toArray, t))) : Hn w0 w2 (L.set i (b, cs', t)) :=
  ⟨by unfold arr at h2 ⊢; rw [List.map_set]; exact h2, fun p hp => by
    rcases List.mem_or_eq_of_mem_set hp with hp | rfl
    · exact h.new p hp
    · exact h.ge i hi⟩
theorem Hn.st' {v : Value} {K : World → Prop} (h : Hn w0 w L) (i : Nat) (hi : L[i]? = some (b, cs, t)) (ho : o < cs.length)
    (k : ∀ w2, Hn w0 w2 (L.set i (b, cs.set o v, t)) → Ext (· = b) w w2 → K w2) : St w ⟨b, o, none⟩ v K :=
  h.h.st' i (arr_get hi) (by simpa using ho) (.inr (h.ge i hi)) fun w2 h2 he => k w2 (h.set i hi (by simpa using h2)) he
theorem Hn.st {v : Value} {K : World → Prop} (h : Hn w0 w L) (i : Nat) (hi : L[i]? = some (b, cs, t)) (ho : o < cs.length)
    (k : ∀ w2, Hn w0 w2 (L.set i (b, cs.set o v, t)) → K w2) : St w ⟨b, o, none⟩ v K := h.st' i hi ho fun w2 h2 _ => k w2 h2
theorem Hn.keep (h : Hn w0 w L) {w2 : World} (he : Ext (fun _ => False) w w2) : Hn w0 w2 L := ⟨h.h.keep he, h.new⟩
theorem Hn.drew (h : Hn w0 w L) : Hn w0 w.drew L := ⟨h.h.drew, h.new⟩
theorem Hn.drewN (h : Hn w0 w L) {n : Nat} : Hn w0 (w.drewN n) L := ⟨h.h.drewN, h.new⟩
theorem Hn.nw' {K : World → Prop} (h : Hn w0 w L) (k : ∀ w2, Hn w0 w2 (L ++ [(w.heap.size, cs, t)]) → Ext (fun _ => False) w w2 → K w2) : Nw w (.cells cs.toArray t) K :=
  h.h.nw' fun w2 h2 he => k w2 ⟨by unfold arr at h2 ⊢; rw [List.map_append]; exact h2, fun p hp => (List.mem_append.1 hp).elim (h.new p) fun hp => by rw [List.mem_singleton.1 hp]; exact h.size⟩ he
theorem Hn.nw {K : World → Prop} (h : Hn w0 w L) (k : ∀ w2, Hn w0 w2 (L ++ [(w.heap.size, cs, t)]) → K w2) : Nw w (.cells cs.toArray t) K := h.nw' fun w2 h2 _ => k w2 h2
theorem Hn.left {M : List (Nat × List Value × TypeId)} (h : Hn w0 w (L ++ M)) : Hn w0 w L :=
  ⟨by have := h.h; unfold arr at this ⊢; rw [List.map_append] at this; exact this.left, fun p hp => h.new p (List.mem_append_left _ hp)⟩
/-- Other blocks have turned that are new too. -/
theorem Hn.other {G : Nat → Prop} {w2 : World} (h : Hn w0 w L) (he : Ext G w w2) (hG : ∀ j, G j → w0.heap.size ≤ j ∧ j ∉ L.map (·.1)) : Hn w0 w2 L :=
  ⟨h.h.other he (fun j hj => by rw [arr_fst]; exact (hG j hj).2) fun j hj => .inr (hG j hj).1, h.new⟩
theorem Hn.push (h : Hn w0 w L) (hb : Blk w b cs.toArray t) (hn : w0.heap.size ≤ b) (hne : b ∉ L.map (·.1)) : Hn w0 w (L ++ [(b, cs, t)]) :=
  ⟨by have := h.h.push hb (by rw [arr_fst]; exact hne); unfold arr at this ⊢; rw [List.map_append]; exact this, fun p hp => (List.mem_append.1 hp).elim (h.new p) fun hp => by rw [List.mem_singleton.1 hp]; exact hn⟩
end

/-! ### Numbers -/

theorem i64_id {n : Int} (h : -9223372036854775808 ≤ n ∧ n ≤ 9223372036854775807) : IntKind.i64.wrap n = n := IntWalk.i64_in n h
theorem u8_id {n : Int} (h : 0 ≤ n ∧ n ≤ 255) : IntKind.u8.wrap n = n := IntWalk.u8_in n h
theorem tdiv_id {a b : Int} (h : 0 ≤ a) : Int.tdiv a b = a / b := Int.tdiv_eq_ediv_of_nonneg h
theorem tmod_id {a b : Int} (h : 0 ≤ a) : Int.tmod a b = a % b := Int.tmod_eq_emod_of_nonneg h

/-! ### Branches and strings -/

theorem Br.dec {p : Prop} [Decidable p] {A B : Prop} (h1 : p → A) (h2 : ¬ p → B) : Br (decide p) A B := by
  by_cases h : p
  · rw [decide_eq_true h]; exact h1 h
  · rw [decide_eq_false h]; exact h2 h
theorem Br.eq {α : Type} [BEq α] [LawfulBEq α] {a b : α} {A B : Prop} (h1 : a = b → A) (h2 : a ≠ b → B) : Br (a == b) A B :=
  Br_of (fun h => h1 (by simpa using h)) fun h => h2 (by simpa using h)
theorem Br.ne {α : Type} [BEq α] [LawfulBEq α] {a b : α} {A B : Prop} (h1 : a ≠ b → A) (h2 : a = b → B) : Br (a != b) A B :=
  Br_of (fun h => h1 (by simpa using h)) fun h => h2 (by simpa using h)
theorem size_list (s : ByteArray) : s.size = s.data.toList.length := Array.length_toList.symm
theorem extract_list (s : ByteArray) (a b : Nat) : (s.extract a b).data.toList = (s.data.toList.drop a).take (b - a) := by
  rw [ByteArray.data_extract, Array.toList_extract, List.extract_eq_take_drop]
theorem extract_drop (s : ByteArray) (a : Nat) : (s.extract a s.size).data.toList = s.data.toList.drop a := by
  rw [extract_list, List.take_of_length_le]
  rw [List.length_drop, size_list]
  exact Nat.le_refl _
theorem bAt_list (s : ByteArray) (i : Nat) : bAt s (i : Int) = ((s.data.toList.getD i 0).toNat : Int) := by
  unfold bAt
  rw [Int.toNat_natCast, Array.getD_eq_getD_getElem?, List.getD_eq_getElem?_getD, Array.getElem?_toList]
theorem ba_ext {s t : ByteArray} (h : s.data.toList = t.data.toList) : s = t := by
  cases s; cases t
  simp only [ByteArray.mk.injEq]
  exact Array.toList_inj.1 h

@[simp] theorem Slc.v_inj (a b : Slc) : Slc.v a = Slc.v b ↔ a = b := by
  cases a; cases b; simp [Slc.v]
end Sh
end Go.Proofs.YtpkadliieplblaaDoor
