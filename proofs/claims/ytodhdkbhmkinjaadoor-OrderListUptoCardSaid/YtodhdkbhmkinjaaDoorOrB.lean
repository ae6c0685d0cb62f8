/- Reading order: rows one by one, what words hold, boxes. Plain; no condition. -/
import Derived.Test.YtodhdkbhmkinjaaDoorOrA
namespace Go.Proofs.YtodhdkbhmkinjaaDoor
namespace Rdg
set_option linter.unusedVariables false
set_option linter.unusedSimpArgs false
/-! ### Rows, one sign at a time -/
/-- The rows from the last to the first; a sign more. -/
def addRow (rows : List (List Sg)) (x : Sg) : List (List Sg) := match rows with
  | [] => [[x]]
  | c :: cs => match c with
    | [] => [x] :: c :: cs
    | f :: _ => if near f x then (c ++ [x]) :: cs else [x] :: c :: cs
theorem addRow_fold : ∀ (l : List Sg) (n : Nat) (f : Sg) (c : List Sg) (cs : List (List Sg)), l.length ≤ n →
    l.foldl addRow ((f :: c) :: cs) = (splitF n (l.dropWhile (near f))).reverse ++ ((f :: c) ++ l.takeWhile (near f)) :: cs
  | [], n, f, c, cs, _ => by cases n <;> simp [splitF]
  | x :: l, 0, f, c, cs, h => by simp at h
  | x :: l, n + 1, f, c, cs, h => by
    rw [List.length_cons] at h
    rw [List.foldl_cons]
    by_cases hn : near f x = true
    · have e : addRow ((f :: c) :: cs) x = (f :: (c ++ [x])) :: cs := by
        unfold addRow
        simp [hn]
      rw [e, addRow_fold l (n + 1) f (c ++ [x]) cs (by omega), List.dropWhile_cons_of_pos hn, List.takeWhile_cons_of_pos hn]
      simp
    · have e : addRow ((f :: c) :: cs) x = [x] :: (f :: c) :: cs := by
        unfold addRow
        simp [hn]
      rw [e, addRow_fold l n x [] ((f :: c) :: cs) (by omega), List.dropWhile_cons_of_neg hn, List.takeWhile_cons_of_neg hn]
      simp [splitF]
theorem rows_fold : ∀ (l : List Sg), (l.foldl addRow []).reverse = splitF l.length l
  | [] => rfl
  | x :: l => by
    rw [List.foldl_cons]
    have e : addRow [] x = [[x]] := rfl
    rw [e, addRow_fold l l.length x [] [] (Nat.le_refl _)]
    simp [splitF]
theorem dropWhile_len {α : Type} (p : α → Bool) : ∀ l : List α, (l.dropWhile p).length ≤ l.length
  | [] => Nat.le_refl _
  | x :: l => by
    rw [List.dropWhile_cons]
    split
    · have := dropWhile_len p l; rw [List.length_cons]; omega
    · exact Nat.le_refl _
theorem splitF_more : ∀ (n m : Nat) (l : List Sg), l.length ≤ n → n ≤ m → splitF m l = splitF n l
  | n, 0, l, h, h2 => by
    have : n = 0 := by omega
    rw [this]
  | 0, m + 1, [], _, _ => rfl
  | 0, m + 1, x :: l, h, _ => by simp at h
  | n + 1, m + 1, [], _, _ => rfl
  | n + 1, m + 1, x :: l, h, h2 => by
    rw [List.length_cons] at h
    have := dropWhile_len (near x) l
    unfold splitF
    rw [splitF_more n m _ (by omega) (by omega)]
theorem splitF_flat : ∀ (n : Nat) (l : List Sg), l.length ≤ n → (splitF n l).flatten = l
  | 0, l, h => by
    have : l = [] := List.eq_nil_of_length_eq_zero (by omega)
    rw [this]; rfl
  | n + 1, [], _ => rfl
  | n + 1, x :: l, h => by
    rw [List.length_cons] at h
    have := dropWhile_len (near x) l
    unfold splitF
    rw [List.flatten_cons, splitF_flat n _ (by omega), List.cons_append, List.takeWhile_append_dropWhile]
/-! ### What words hold -/
def bytesW (ws : List Wd) : List UInt8 := ws.flatMap fun w => w.s.data.toList
def bytesS (l : List Sg) : List UInt8 := (l.filter fun x => !x.blank).flatMap fun x => x.s.data.toList
theorem app_l (a b : ByteArray) : (a ++ b).data.toList = a.data.toList ++ b.data.toList := by rw [ByteArray.data_append, Array.toList_append]
theorem bytesW_app (a b : List Wd) : bytesW (a ++ b) = bytesW a ++ bytesW b := by unfold bytesW; rw [List.flatMap_append]
theorem stepW_bytes (p : Option Sg) (ws : List Wd) (x : Sg) : bytesW (stepW p ws x).reverse = bytesW ws.reverse ++ bytesS [x] := by
  unfold stepW
  by_cases hb : x.blank = true
  · rw [if_pos hb]
    have : bytesS [x] = [] := by unfold bytesS; simp [hb]
    rw [this, List.append_nil]
  · rw [if_neg hb]
    have e : bytesS [x] = x.s.data.toList := by unfold bytesS; simp [hb]
    rw [e]
    have new : ∀ ws : List Wd, bytesW (⟨x.s, x.box⟩ :: ws : List Wd).reverse = bytesW ws.reverse ++ x.s.data.toList := fun ws => by
      rw [List.reverse_cons, bytesW_app]
      unfold bytesW
      simp
    cases p with
    | none => exact new ws
    | some a => cases ws with
      | nil => exact new []
      | cons w r =>
        dsimp only
        split
        · rw [List.reverse_cons, List.reverse_cons, bytesW_app, bytesW_app]
          unfold joinW bytesW
          simp [app_l]
        · exact new _
theorem wordsR_bytes : ∀ (l : List Sg) (p : Option Sg) (ws : List Wd), bytesW (wordsR p ws l).reverse = bytesW ws.reverse ++ bytesS l
  | [], p, ws => by unfold bytesS; simp [wordsR]
  | x :: l, p, ws => by
    unfold wordsR
    rw [wordsR_bytes l, stepW_bytes, List.append_assoc]
    congr 1
    unfold bytesS
    rw [show x :: l = [x] ++ l from rfl, List.filter_append, List.flatMap_append]
theorem wordsF_bytes (l : List Sg) : bytesW (wordsF l) = bytesS l := by
  unfold wordsF
  rw [wordsR_bytes]
  rfl
theorem bytesS_perm {l m : List Sg} (h : l.Perm m) : (bytesS l).Perm (bytesS m) := (h.filter _).flatMap_right _
/-- The bytes of the words are those of the signs that are not blank. -/
theorem lines_bytes (l : List Sg) : (((linesF l).flatMap fun x => bytesW x.words)).Perm (bytesS l) := by
  have h1 : ((linesF l).flatMap fun x => bytesW x.words) = ((rowsF l).map lineF).flatMap fun x => bytesW x.words := by
    unfold linesF
    generalize (rowsF l).map lineF = L
    induction L with
    | nil => rfl
    | cons x L ih =>
      rw [List.filter_cons]
      split
      · rw [List.flatMap_cons, List.flatMap_cons, ih]
      · rename_i hx
        have : x.words = [] := by simpa using hx
        rw [List.flatMap_cons, this, ih]
        rfl
  rw [h1]
  have h2 : ∀ R : List (List Sg), ((R.map (sortI ltX)).map lineF).flatMap (fun x => bytesW x.words) = R.flatMap fun r => bytesS (sortI ltX r) := by
    intro R
    induction R with
    | nil => rfl
    | cons r R ih =>
      rw [List.map_cons, List.map_cons, List.flatMap_cons, List.flatMap_cons, ih]
      congr 1
      exact wordsF_bytes _
  unfold rowsF
  rw [h2]
  have h3 : ∀ R : List (List Sg), (R.flatMap fun r => bytesS (sortI ltX r)).Perm (bytesS R.flatten) := by
    intro R
    induction R with
    | nil => exact List.Perm.refl _
    | cons r R ih =>
      rw [List.flatMap_cons, List.flatten_cons]
      have : bytesS (r ++ R.flatten) = bytesS r ++ bytesS R.flatten := by unfold bytesS; rw [List.filter_append, List.flatMap_append]
      rw [this]
      exact (bytesS_perm (sortI_perm ltX r)).append ih
  refine (h3 _).trans ?_
  rw [splitF_flat _ _ (Nat.le_refl _)]
  exact bytesS_perm (sortI_perm ltY l)
/-! ### Words are not empty; boxes -/
def Full (ws : List Wd) : Prop := ∀ w ∈ ws, w.s.data.toList ≠ [] ∧ w.box.1 ≤ w.box.2.2.1
theorem Sg.box_x (x : Sg) : x.box.1 ≤ x.box.2.2.1 := by
  unfold Sg.box
  dsimp only
  omega
theorem stepW_full {p : Option Sg} {ws : List Wd} {x : Sg} (h : Full ws) (hx : x.s.data.toList ≠ []) : Full (stepW p ws x) := by
  have hw : Full [(⟨x.s, x.box⟩ : Wd)] := fun w hw => by
    rw [List.mem_singleton.1 hw]
    exact ⟨hx, x.box_x⟩
  have new : ∀ ws : List Wd, Full ws → Full (⟨x.s, x.box⟩ :: ws) := fun ws h w hm => by
    rcases List.mem_cons.1 hm with e | hm
    · exact hw w (by rw [e]; exact List.mem_singleton.2 rfl)
    · exact h w hm
  unfold stepW
  split
  · exact h
  · cases p with
    | none => exact new ws h
    | some a => cases ws with
      | nil => exact new [] h
      | cons w r =>
        dsimp only
        split
        · intro v hv
          rcases List.mem_cons.1 hv with e | hv
          · rw [e]
            have h1 := h w List.mem_cons_self
            have h2 := x.box_x
            unfold joinW both
            dsimp only
            refine ⟨?_, by omega⟩
            rw [app_l]
            intro e
            exact hx (List.append_eq_nil_iff.1 e).2
          · exact h v (List.mem_cons_of_mem _ hv)
        · exact new _ h
theorem wordsR_full : ∀ (l : List Sg) (p : Option Sg) (ws : List Wd), (∀ x ∈ l, x.s.data.toList ≠ []) → Full ws → Full (wordsR p ws l)
  | [], _, _, _, h => h
  | x :: l, p, ws, hx, h => by
    unfold wordsR
    exact wordsR_full l _ _ (fun y hy => hx y (List.mem_cons_of_mem _ hy)) (stepW_full h (hx x List.mem_cons_self))
theorem wordsF_full {l : List Sg} (hx : ∀ x ∈ l, x.s.data.toList ≠ []) : Full (wordsF l) := fun w hw => wordsR_full l none [] hx (fun w hw => by cases hw) w (by unfold wordsF at hw; exact List.mem_reverse.1 hw)
/-- a lies in b. -/
def InB (a b : R4) : Prop := b.1 ≤ a.1 ∧ b.2.1 ≤ a.2.1 ∧ a.2.2.1 ≤ b.2.2.1 ∧ a.2.2.2 ≤ b.2.2.2
theorem InB.both (a b : R4) : InB a (both a b) ∧ InB b (both a b) := by
  unfold InB Rdg.both
  dsimp only
  omega
theorem InB.trans {a b c : R4} (h : InB a b) (k : InB b c) : InB a c := by
  unfold InB at *
  omega
theorem fold_in : ∀ (r : List Wd) (b : R4), InB b (r.foldl (fun b v => both b v.box) b) ∧ ∀ w ∈ r, InB w.box (r.foldl (fun b v => both b v.box) b)
  | [], b => ⟨⟨Int.le_refl _, Int.le_refl _, Int.le_refl _, Int.le_refl _⟩, fun w hw => by cases hw⟩
  | v :: r, b => by
    obtain ⟨h1, h2⟩ := fold_in r (both b v.box)
    rw [List.foldl_cons]
    refine ⟨(InB.both b v.box).1.trans h1, fun w hw => ?_⟩
    rcases List.mem_cons.1 hw with rfl | hw
    · exact (InB.both b w.box).2.trans h1
    · exact h2 w hw
theorem boxW_in (ws : List Wd) : ∀ w ∈ ws, InB w.box (boxW ws) := by
  intro w hw
  cases ws with
  | nil => cases hw
  | cons v r =>
    unfold boxW
    obtain ⟨h1, h2⟩ := fold_in r (both v.box v.box)
    rcases List.mem_cons.1 hw with rfl | hw
    · exact (InB.both w.box w.box).1.trans h1
    · exact h2 w hw
theorem rowsF_mem {l : List Sg} {r : List Sg} (h : r ∈ rowsF l) : ∀ x ∈ r, x ∈ l := by
  intro x hx
  unfold rowsF at h
  obtain ⟨q, hq, rfl⟩ := List.mem_map.1 h
  have hx := (sortI_perm ltX q).mem_iff.1 hx
  have : x ∈ (splitF (sortI ltY l).length (sortI ltY l)).flatten := List.mem_flatten.2 ⟨q, hq, hx⟩
  rw [splitF_flat _ _ (Nat.le_refl _)] at this
  exact (sortI_perm ltY l).mem_iff.1 this
theorem lines_keep {l : List Sg} (hx : ∀ x ∈ l, x.s.data.toList ≠ []) {m : Ln} (hm : m ∈ linesF l) : m.words ≠ [] ∧ ∀ w ∈ m.words, w.s.data.toList ≠ [] ∧ InB w.box m.box ∧ w.box.1 ≤ w.box.2.2.1 := by
  unfold linesF at hm
  obtain ⟨h1, h2⟩ := List.mem_filter.1 hm
  obtain ⟨r, hr, rfl⟩ := List.mem_map.1 h1
  refine ⟨by simpa using h2, fun w hw => ?_⟩
  have := wordsF_full (fun x hx' => hx x (rowsF_mem hr x hx')) w hw
  exact ⟨this.1, boxW_in _ w hw, this.2⟩
end Rdg
end Go.Proofs.YtodhdkbhmkinjaaDoor
