/- Text machines: the sample of the laws, plain. Conditions: none. -/
import Derived.Test.YtcblpehnkogfdaaGreatDoorMaG
namespace Go.Proofs.YtcblpehnkogfdaaGreatDoor
namespace Ma
open Sh Mat Fix Fo Sw Opr Pat
set_option linter.unusedVariables false
set_option linter.unusedSimpArgs false
set_option maxRecDepth 100000
set_option maxHeartbeats 4000000
def usualG : GT := (10000, 0, 0, 10000, 0, 0, 0, 0, 0, 0, ⟨none, 0, 0⟩, 0, 0, 0, 0, 0, 0, 0, 0, 0, 0, 0, 0, 0, 1000000, 0, 100000, 0, ⟨#[70]⟩, 0)
def usual2 (a b c d : Int) : GT := (10000, 0, 0, 10000, 0, 0, 0, 0, 0, 0, ⟨none, 0, 0⟩, 0, 0, 0, 0, 0, 0, 0, 0, 0, 0, 0, a, b, c, 0, d, 0, ⟨#[70]⟩, 0)
def faceF : Font := ⟨⟨#[70]⟩, false, 97, [500], 250, [], []⟩
def noneF : Font := ⟨⟨#[]⟩, false, 0, [], 0, [], []⟩
theorem step1 : stepF usualG faceF 97 = (50000, 0) := by decide
theorem step2 : stepF (usual2 1 3 1000000 100000) faceF 97 = (50001, 0) := by decide
theorem step3 : stepF (usual2 1 3 1000000 100000) faceF 32 = (25004, 0) := by decide
theorem step4 : stepF (usual2 0 0 500000 100000) faceF 97 = (25000, 0) := by decide
theorem step5 : stepF (usual2 0 0 500000 1073741825) faceF 97 = (0, 2) := by decide
theorem step6 : stepF usualG noneF 97 = (0, 1) := by decide
theorem face_chk : chkF faceF = 0 := by decide
theorem len_move (a b : Int) : lenO (moveM a b) (0, 100000) = some 100000 := by
  have h : IsLen (moveM a b) (0, 100000) (100000, 0) := by
    unfold IsLen
    rw [show applyP (flat (moveM a b)) (0, 100000) = some (0, 100000) from (show applyP (10000, 0, 0, 10000, 0, 0) (0, 100000) = some (0, 100000) by decide)]
    exact ⟨100000, ⟨by decide, by decide, by decide⟩, by decide⟩
  exact resI_yes (lenO_eq h)
theorem u97 : usualB.getD 97 [] = [97] := by kernel_rfl
theorem i97 : usualB.findIdx? (fun m => decide (m = [97])) = some 97 := by kernel_rfl
theorem say97 : sayF faceF 97 = [97] := by
  unfold sayF signF
  show (if _ then _ else _) = _
  rw [if_neg (by rw [if_pos (show faceF.names = [] from rfl), usualB_len]; decide)]
  have h : (if faceF.names = [] then usualB else faceF.names.map Fo.bl).getD (97 : Int).toNat [] = [97] := by
    rw [if_pos (show faceF.names = [] from rfl)]
    exact u97
  rw [h]
  rw [if_neg (by decide), i97]
  rfl
theorem u98 : usualB.getD 98 [] = [98] := by kernel_rfl
theorem i98 : usualB.findIdx? (fun m => decide (m = [98])) = some 98 := by kernel_rfl
theorem say98 : sayF faceF 98 = [98] := by
  unfold sayF signF
  show (if _ then _ else _) = _
  rw [if_neg (by rw [if_pos (show faceF.names = [] from rfl), usualB_len]; decide)]
  have h : (if faceF.names = [] then usualB else faceF.names.map Fo.bl).getD (98 : Int).toNat [] = [98] := by
    rw [if_pos (show faceF.names = [] from rfl)]
    exact u98
  rw [h]
  rw [if_neg (by decide), i98]
  rfl
theorem sign0 : signP usualG faceF (moveM 20000 5000) 97 = some ((97, ⟨#[97]⟩, 20000, 5000, 70000, 5000, 100000, ⟨#[70]⟩, 0), moveM 70000 5000) := by
  unfold signP
  rw [show mulP (moveM 20000 5000) (ctm usualG) = some (moveM 20000 5000) by decide, Option.bind_some, show widthP usualG faceF 97 = some 50000 by decide, Option.bind_some, show scaledP usualG 50000 = some 50000 by decide, Option.bind_some,
    show applyP (moveM 20000 5000) (0, trise usualG) = some (20000, 5000) by decide, Option.bind_some, show applyP (moveM 20000 5000) (50000, trise usualG) = some (70000, 5000) by decide, Option.bind_some, show lenO (moveM 20000 5000) (0, tsize usualG) = some 100000 from len_move _ _, Option.bind_some,
    show stepP usualG faceF 97 50000 = some 50000 by decide, Option.bind_some, show mulP (moveM 50000 0) (moveM 20000 5000) = some (moveM 70000 5000) by decide, Option.bind_some, say97]
  rfl
theorem sign1 : signP usualG faceF (moveM 70000 5000) 98 = some ((98, ⟨#[98]⟩, 70000, 5000, 95000, 5000, 100000, ⟨#[70]⟩, 0), moveM 95000 5000) := by
  unfold signP
  rw [show mulP (moveM 70000 5000) (ctm usualG) = some (moveM 70000 5000) by decide, Option.bind_some, show widthP usualG faceF 98 = some 25000 by decide, Option.bind_some, show scaledP usualG 25000 = some 25000 by decide, Option.bind_some,
    show applyP (moveM 70000 5000) (0, trise usualG) = some (70000, 5000) by decide, Option.bind_some, show applyP (moveM 70000 5000) (25000, trise usualG) = some (95000, 5000) by decide, Option.bind_some, show lenO (moveM 70000 5000) (0, tsize usualG) = some 100000 from len_move _ _, Option.bind_some,
    show stepP usualG faceF 98 25000 = some 25000 by decide, Option.bind_some, show mulP (moveM 25000 0) (moveM 70000 5000) = some (moveM 95000 5000) by decide, Option.bind_some, say98]
  rfl
theorem sign2 : signP usualG faceF (moveM 95000 5000) 97 = some ((97, ⟨#[97]⟩, 95000, 5000, 145000, 5000, 100000, ⟨#[70]⟩, 0), moveM 145000 5000) := by
  unfold signP
  rw [show mulP (moveM 95000 5000) (ctm usualG) = some (moveM 95000 5000) by decide, Option.bind_some, show widthP usualG faceF 97 = some 50000 by decide, Option.bind_some, show scaledP usualG 50000 = some 50000 by decide, Option.bind_some,
    show applyP (moveM 95000 5000) (0, trise usualG) = some (95000, 5000) by decide, Option.bind_some, show applyP (moveM 95000 5000) (50000, trise usualG) = some (145000, 5000) by decide, Option.bind_some, show lenO (moveM 95000 5000) (0, tsize usualG) = some 100000 from len_move _ _, Option.bind_some,
    show stepP usualG faceF 97 50000 = some 50000 by decide, Option.bind_some, show mulP (moveM 50000 0) (moveM 95000 5000) = some (moveM 145000 5000) by decide, Option.bind_some, say97]
  rfl
theorem sign3 : signP usualG faceF (moveM 245000 5000) 97 = some ((97, ⟨#[97]⟩, 245000, 5000, 295000, 5000, 100000, ⟨#[70]⟩, 0), moveM 295000 5000) := by
  unfold signP
  rw [show mulP (moveM 245000 5000) (ctm usualG) = some (moveM 245000 5000) by decide, Option.bind_some, show widthP usualG faceF 97 = some 50000 by decide, Option.bind_some, show scaledP usualG 50000 = some 50000 by decide, Option.bind_some,
    show applyP (moveM 245000 5000) (0, trise usualG) = some (245000, 5000) by decide, Option.bind_some, show applyP (moveM 245000 5000) (50000, trise usualG) = some (295000, 5000) by decide, Option.bind_some, show lenO (moveM 245000 5000) (0, tsize usualG) = some 100000 from len_move _ _, Option.bind_some,
    show stepP usualG faceF 97 50000 = some 50000 by decide, Option.bind_some, show mulP (moveM 50000 0) (moveM 245000 5000) = some (moveM 295000 5000) by decide, Option.bind_some, say97]
  rfl
def gA (e : Int) : GlT := (97, ⟨#[97]⟩, e, 5000, e + 50000, 5000, 100000, ⟨#[70]⟩, 0)
theorem ask_sample {s : ByteArray} {e : Int} (he : Mat.okM (moveM e 5000) = true) (hc : (codesF false s).2 = 0) (hl : (codesF false s).1.length ≤ 16384) : askE usualG (moveM e 5000) faceF s = 0 :=
  ask_of (by decide) he face_chk hc hl
theorem str0 : stringF usualG (moveM 20000 5000) faceF ⟨#[97, 98]⟩ = ([(97, ⟨#[97]⟩, 20000, 5000, 70000, 5000, 100000, ⟨#[70]⟩, 0), (98, ⟨#[98]⟩, 70000, 5000, 95000, 5000, 100000, ⟨#[70]⟩, 0)], moveM 95000 5000, 0) := by
  refine string_of (ask_sample (by decide) (by decide) (by decide)) ?_
  rw [show (codesF faceF.wide ⟨#[97, 98]⟩).1 = [97, 98] by decide]
  unfold showP
  rw [sign0, Option.bind_some]
  unfold showP
  rw [sign1, Option.bind_some]
  unfold showP
  rfl
theorem str1 : stringF usualG (moveM 95000 5000) faceF ⟨#[97]⟩ = ([(97, ⟨#[97]⟩, 95000, 5000, 145000, 5000, 100000, ⟨#[70]⟩, 0)], moveM 145000 5000, 0) := by
  refine string_of (ask_sample (by decide) (by decide) (by decide)) ?_
  rw [show (codesF faceF.wide ⟨#[97]⟩).1 = [97] by decide]
  unfold showP
  rw [sign2, Option.bind_some]
  unfold showP
  rfl
theorem str2 : stringF usualG (moveM 245000 5000) faceF ⟨#[97]⟩ = ([(97, ⟨#[97]⟩, 245000, 5000, 295000, 5000, 100000, ⟨#[70]⟩, 0)], moveM 295000 5000, 0) := by
  refine string_of (ask_sample (by decide) (by decide) (by decide)) ?_
  rw [show (codesF faceF.wide ⟨#[97]⟩).1 = [97] by decide]
  unfold showP
  rw [sign3, Option.bind_some]
  unfold showP
  rfl
end Ma
end Go.Proofs.YtcblpehnkogfdaaGreatDoor
/- Text machines: what Do answers in the sample of the laws, plain. Conditions: none. -/
namespace Go.Proofs.YtcblpehnkogfdaaGreatDoor
namespace Ma
open Sh Mat Fix Fo Sw Opr Pat
set_option linter.unusedVariables false
set_option linter.unusedSimpArgs false
set_option maxRecDepth 100000
set_option maxHeartbeats 4000000
theorem chk_of {nm t : Opr.By} {L : List Ob} (ht : takes nm = t) (h63 : t ≠ [63]) (hl : t.length = L.length) (hf : fitsT t L = true) : Opr.chkF nm L [] = 0 := by
  unfold Opr.chkF
  rw [ht, if_neg h63, if_neg (by simpa using hl), if_neg (by rw [hf]; decide), if_neg (by simp)]
theorem doF_eq {g : GT} {f : Font} {m : Mc} {nm d : Opr.By} {L K : List Ob} {n : List Int} (hten : nm ∈ ten) (hchk : Opr.chkF nm L d = 0) (hs : ¬ m.on = decide (nm = [66, 84])) (hn : nmO (L.filter isNum) = some n) :
    doF g f m nm L K d = if (actF g f m nm L K n).1 ≠ 0 then ((actF g f m nm L K n).1, m, []) else actF g f m nm L K n := by
  unfold doF
  rw [if_neg (by simpa using hten), if_neg (by simp [hchk]), if_neg hs, hn]
theorem doF_state {g : GT} {f : Font} {m : Mc} {nm d : Opr.By} {L K : List Ob} (hten : nm ∈ ten) (hchk : Opr.chkF nm L d = 0) (hs : m.on = decide (nm = [66, 84])) : doF g f m nm L K d = (29, m, []) := by
  unfold doF
  rw [if_neg (by simpa using hten), if_neg (by simp [hchk]), if_pos hs]
section
variable {g : GT} {f : Font} {m : Mc} {K : List Ob}
theorem chk_bt : Opr.chkF [66, 84] [] [] = 0 := chk_of (t := []) (by decide +kernel) (by decide) rfl rfl
theorem do_bt (h : m.on = false) : doF g f m [66, 84] [] K [] = (0, ⟨true, one, one⟩, []) := by
  rw [doF_eq (by decide) chk_bt (by rw [h]; decide) (n := []) rfl]
  rfl
theorem do_bt2 (h : m.on = true) : doF g f m [66, 84] [] K [] = (29, m, []) := doF_state (by decide) chk_bt (by rw [h]; decide)
theorem chk_str {nm : Opr.By} (hnm : takes nm = [115]) {o : Ob} (h4 : o.1 = 4) : Opr.chkF nm [o] [] = 0 := chk_of (t := [115]) hnm (by decide) rfl (by simp [fitsT, fitsK, h4])
theorem do_tj_off (h : m.on = false) {o : Ob} (h4 : o.1 = 4) : doF g f m [84, 106] [o] K [] = (29, m, []) := doF_state (by decide) (chk_str (by decide +kernel) h4) (by rw [h]; decide)
theorem do_q {L : List Ob} {d : Opr.By} : doF g f m [113] L K d = (8, m, []) := by
  unfold doF
  rw [if_pos (by decide)]
theorem do_et (h : m.on = true) : doF g f m [69, 84] [] K [] = (0, m0, []) := by
  rw [doF_eq (by decide) (chk_of (t := []) (by decide +kernel) (by decide) rfl rfl) (by rw [h]; decide) (n := []) rfl]
  rfl
theorem num_str {o : Ob} (h4 : o.1 = 4) : [o].filter isNum = [] := by
  simp [isNum, h4]
theorem do_tj {m m' : Mc} {o : Ob} {L : List GlT} {tm : Mx} (hon : m.on = true) (h4 : o.1 = 4) (hs : stringF g m.text f o.2.2.2.1 = (L, tm, 0)) (hl : L.length ≤ 16384) : doF g f m [84, 106] [o] K [] = (0, ⟨true, tm, m.line⟩, L) := by
  have ha : actF g f m [84, 106] [o] K [] = (0, ⟨true, tm, m.line⟩, L) := by
    unfold actF
    rw [if_neg (by decide), if_neg (by decide), if_neg (by decide), if_neg (by decide), if_neg (by decide), if_pos (by decide)]
    unfold shownF showF
    rw [show arg [o] 0 = o from rfl, hs, if_neg (by simp), if_neg (by simp; omega)]
    rw [← hon]
    rfl
  rw [doF_eq (by decide) (chk_str (by decide +kernel) h4) (by rw [hon]; decide) (n := []) (by rw [num_str h4]; rfl), ha, if_neg (by simp)]
theorem do_td {a b : Ob} {x y : Int} {l : Mx} (hon : m.on = true) (ha : numV a = some x) (hb : numV b = some y) (hka : a.1 = 2 ∨ a.1 = 3) (hkb : b.1 = 2 ∨ b.1 = 3) (hl : moveF m.line x y = some l) : doF g f m [84, 100] [a, b] K [] = (0, ⟨true, l, l⟩, []) := by
  have hn : nmO ([a, b].filter isNum) = some [x, y] := by
    have e1 : isNum a = true := by simpa [isNum] using hka
    have e2 : isNum b = true := by simpa [isNum] using hkb
    rw [show [a, b].filter isNum = [a, b] by simp [e1, e2]]
    unfold nmO
    rw [ha]
    show ((nmO [b]).bind fun l => some (x :: l)) = _
    unfold nmO
    rw [hb]
    rfl
  have hact : actF g f m [84, 100] [a, b] K [x, y] = (0, ⟨true, l, l⟩, []) := by
    unfold actF
    rw [if_neg (by decide), if_neg (by decide), if_pos (by decide)]
    show movedF m (moveF m.line x y) = _
    rw [hl, ← hon]
    rfl
  have hchk : Opr.chkF [84, 100] [a, b] [] = 0 := by
    refine chk_of (t := [110, 110]) (by decide +kernel) (by decide) rfl ?_
    rcases hka with h1 | h1 <;> rcases hkb with h2 | h2 <;> simp [fitsT, fitsK, h1, h2]
  rw [doF_eq (by decide) hchk (by rw [hon]; decide) hn, hact, if_neg (by simp)]
theorem chk_arr {o : Ob} (h6 : o.1 = 6) : Opr.chkF [84, 74] [o] [] = 0 := chk_of (t := [97]) (by decide +kernel) (by decide) rfl (by simp [fitsT, fitsK, h6])
theorem act_arr {o : Ob} {n : List Int} : actF g f m [84, 74] [o] K n = if K.all kidOk = false then (28, m, []) else ((rowF g f K m.text []).1, { m with text := (rowF g f K m.text []).2.2 }, (rowF g f K m.text []).2.1) := by
  unfold actF
  rw [if_neg (by decide), if_neg (by decide), if_neg (by decide), if_neg (by decide), if_neg (by decide), if_neg (by decide), if_neg (by decide), if_neg (by decide)]
theorem num_arr {o : Ob} (h6 : o.1 = 6) : [o].filter isNum = [] := by
  simp [isNum, h6]
theorem do_arr_no {o : Ob} (hon : m.on = true) (h6 : o.1 = 6) (hk : K.all kidOk = false) : doF g f m [84, 74] [o] K [] = (28, m, []) := by
  rw [doF_eq (by decide) (chk_arr h6) (by rw [hon]; decide) (n := []) (by rw [num_arr h6]; rfl), act_arr, if_pos hk, if_pos (by simp)]
theorem do_arr {o : Ob} {gl : List GlT} {tm : Mx} (hon : m.on = true) (h6 : o.1 = 6) (hk : K.all kidOk = true) (hr : rowF g f K m.text [] = (0, gl, tm)) : doF g f m [84, 74] [o] K [] = (0, ⟨true, tm, m.line⟩, gl) := by
  have ha : actF g f m [84, 74] [o] K [] = (0, ⟨true, tm, m.line⟩, gl) := by
    rw [act_arr, if_neg (by rw [hk]; decide), hr, ← hon]
  rw [doF_eq (by decide) (chk_arr h6) (by rw [hon]; decide) (n := []) (by rw [num_arr h6]; rfl), ha, if_neg (by simp)]
end
/-- The array of the sample. -/
theorem row_sample {a c : Ob} {b : Ob} (ha : a.1 = 4) (has : a.2.2.2.1 = ⟨#[97]⟩) (hb : b.1 = 2) (hbn : b.2.1 = -1000) (hc : c.1 = 4) (hcs : c.2.2.2.1 = ⟨#[97]⟩) : rowF usualG faceF [a, b, c] (moveM 95000 5000) [] =
    (0, [(97, ⟨#[97]⟩, 95000, 5000, 145000, 5000, 100000, ⟨#[70]⟩, 0), (97, ⟨#[97]⟩, 245000, 5000, 295000, 5000, 100000, ⟨#[70]⟩, 0)], moveM 295000 5000) := by
  have h1 : kidF usualG faceF (moveM 95000 5000) [] a = (0, [(97, ⟨#[97]⟩, 95000, 5000, 145000, 5000, 100000, ⟨#[70]⟩, 0)], moveM 145000 5000) := by
    unfold kidF showF
    rw [if_pos ha, has, str1]
    rfl
  have hbv : numV b = some (-10000000) := by
    unfold numV
    rw [if_pos hb, hbn]
    decide
  have h2 : ∀ gl, kidF usualG faceF (moveM 145000 5000) gl b = (0, gl, moveM 245000 5000) := fun gl => by
    unfold kidF
    rw [if_neg (by rw [hb]; decide), hbv]
    rw [show backF usualG (moveM 145000 5000) ((some (-10000000 : Int)).getD 0) = some (moveM 245000 5000) by decide]
  have h3 : ∀ g1, kidF usualG faceF (moveM 245000 5000) [g1] c = (0, [g1, (97, ⟨#[97]⟩, 245000, 5000, 295000, 5000, 100000, ⟨#[70]⟩, 0)], moveM 295000 5000) := fun g1 => by
    unfold kidF showF
    rw [if_pos hc, hcs, str2]
    rfl
  rw [rowF_step h1, rowF_step (h2 _), rowF_step (h3 _)]
  rfl
end Ma
end Go.Proofs.YtcblpehnkogfdaaGreatDoor
