/- Fonts: what a code says. Conditions: sizes, the laid tables. -/
import Derived.Test.YtcblpehnkogfdaaGreatDoorQYQDoes4
import Derived.Laws.Cover4
import Derived.Test.YtcblpehnkogfdaaGreatDoorQYQDoes2
import Derived.Test.YtcblpehnkogfdaaGreatDoorQYQDoes3
set_option linter.unusedVariables false
set_option linter.unusedSimpArgs false
namespace Go.Proofs.YtcblpehnkogfdaaGreatDoor
namespace Fo
open Sh Go.Lib
set_option maxRecDepth 4000
set_option maxHeartbeats 2000000
theorem enc_eq {c : Nat} (h : c < 55296 \/ (57344 <= c /\ c <= 1114111)) : Utf8.encode (c : Int) = ⟨(encodeRune (c : Int)).toArray⟩ := by
 have hv : Utf8.valid (c : Int) = true := by
  unfold Utf8.valid
  simp only [Bool.or_eq_true,Bool.and_eq_true,decide_eq_true_eq]
  omega
 have nb : ∀ n : Nat,UInt8.ofNat n = ((n : Int).toNat).toUInt8 := fun n=> by rw [Int.toNat_natCast]
 unfold Utf8.encode
 simp only [hv,if_true,Int.toNat_natCast]
 unfold encodeRune
 by_cases h1 : c < 128
 ·rw [if_pos h1,encodeRuneZ_one (by omega) (by omega)]
  rfl
 ·rw [if_neg h1]
  by_cases h2 : c < 2048
  ·rw [if_pos h2,encodeRuneZ_two (by omega) (by omega)]
   have e1 : (192 + (c : Int) / 64).toNat = 192 + c / 64 := by omega
   have e2 : (128 + (c : Int) % 64).toNat = 128 + c % 64 := by omega
   simp only [List.map_cons,List.map_nil,e1,e2]
  ·rw [if_neg h2]
   by_cases h3 : c < 65536
   ·rw [if_pos h3,encodeRuneZ_three (by omega)]
    have e1 : (224 + (c : Int) / 4096).toNat = 224 + c / 4096 := by omega
    have e2 : (128 + (c : Int) / 64 % 64).toNat = 128 + c / 64 % 64 := by omega
    have e3 : (128 + (c : Int) % 64).toNat = 128 + c % 64 := by omega
    simp only [List.map_cons,List.map_nil,e1,e2,e3]
   ·rw [if_neg h3,encodeRuneZ_four (by omega) (by omega)]
    have e1 : (240 + (c : Int) / 262144).toNat = 240 + c / 262144 := by omega
    have e2 : (128 + (c : Int) / 4096 % 64).toNat = 128 + c / 4096 % 64 := by omega
    have e3 : (128 + (c : Int) / 64 % 64).toNat = 128 + c / 64 % 64 := by omega
    have e4 : (128 + (c : Int) % 64).toNat = 128 + c % 64 := by omega
    simp only [List.map_cons,List.map_nil,e1,e2,e3,e4]
attribute [local irreducible] Ld St Nw Nn Lt LdS
theorem c_eqMap (p : Int × ByteArray) {w : World} {b : Nat} {code : Int} (hb : w.cell? ⟨b,0,none⟩ = some (.int .i64 code)) : C152 p (⟨b,0,none⟩ : Addr) w fun r w1=> r = decide (p.1 = code) /\ Ext (fun _=> False) w w1 := by
 refine T152 _ _ _ _ ?_
 unfold S152
 refine (Hn.start w).nw fun w3 H=> ?_
 have H : Hn w w3 [(w.heap.size,mcells p,145)] := H
 refine H.ld 0 rfl (x := p.1) rfl (Ld.mk (x := code) (H.ext.cell_same hb) ⟨?_,H.ext⟩)
 by_cases h : p.1 = code
 ·subst h
  simp
 ·rw [decide_eq_false h]
  exact beq_false_of_ne h
theorem c_find {w : World} {s : Slc} {l : List (Int × ByteArray)} (hV : VRow w s 2 (l.flatMap mcells)) (hl : l.length <= 1048576) (code : Int) : C139 s code w fun r b w1=> (match l.find? (fun x=> decide (x.1 = code)) with
  | some x=> r = x.2 /\ b = true
  | none=> r = ⟨#[]⟩ /\ b = false) /\ Ext (fun _=> False) w w1 := by
 have hlen : s.len = l.length := VRow.count mcells_len (by decide) hV
 refine T139 _ _ _ _ ?_
 unfold S139
 refine (Hn.start w).nw fun w3 H=> ?_
 have H : Hn w w3 [(w.heap.size,icell code,3)] := H
 have hb : w3.cell? ⟨w.heap.size,0,none⟩ = some (.int .i64 code) := by rw [(H.get 0 rfl).cell]; rfl
 have hE := H.ext
 refine T151_F152 _ _ _ _ ?_
 unfold S151_F152
 refine ⟨fun m st w1=> ∃ i : Nat,st = (i : Int) /\ i <= l.length /\ m = l.length - i /\ l.find? (fun x=> decide (x.1 = code)) = (l.drop i).find? (fun x=> decide (x.1 = code)) /\ Ext (fun _=> False) w3 w1,l.length,⟨0,rfl,Nat.zero_le _,rfl,rfl,Ext.refl _ _⟩,?_⟩
 rintro m st w5 ⟨i,rfl,hi,rfl,hf,e5⟩
 unfold S151_F152L1
 rw [hlen]
 have E5 := hE.tr e5
 refine Br.dec (fun q=> ?_) fun q=> ?_
 ·have hil : i < l.length := by omega
  obtain ⟨a,ha,hc⟩ := VRow.elem mcells_len (hV.keep E5) (List.getElem?_eq_getElem hil) (by decide)
  rw [List.drop_eq_getElem_cons hil,List.find?_cons] at hf
  generalize l[i] = x at *
  rw [ha]
  have b1 : (0 : Int) <= (i : Int) := by omega
  have b2 : (i : Int) < ((l.length : Nat) : Int) := by omega
  refine ⟨b1,b2,Nn.of (Ld.mk (x := x.1) (by rw [Int.toNat_natCast]; have := hc 0 _ rfl; simpa using this) (Ld.mk (x := x.2) (by rw [Int.toNat_natCast,add_add']; exact hc 1 _ rfl) ?_))⟩
  refine (c_eqMap x (e5.cell_same hb)).mono ?_
  rintro r w11 ⟨rfl,e11⟩
  have E11 := E5.tr e11
  by_cases h : x.1 = code
  ·rw [decide_eq_true h] at hf ⊢
   refine Br.t rfl (Br.f (by rw [decide_eq_false_iff_not]; omega) ?_)
   rw [hf]
   refine ⟨b1,b2,?_⟩
   refine Nn.of (Ld.mk (x := x.2) (by rw [Int.toNat_natCast,add_add']; exact e11.cell_same (hc 1 _ rfl)) ⟨⟨rfl,rfl⟩,E11⟩)
  ·rw [decide_eq_false h] at hf ⊢
   exact Br.f rfl ⟨l.length - (i + 1),by omega,i + 1,by rw [i64_id (by omega)]; rfl,by omega,rfl,hf,e5.tr e11⟩
 ·have : i = l.length := by omega
  subst this
  rw [List.drop_length] at hf
  rw [hf]
  exact Br.t (by decide) ⟨⟨rfl,rfl⟩,E5⟩
def bcell (l : By) : List Value := [.string ⟨l.toArray⟩]
theorem bcell_len (l : By) : (bcell l).length = 1 := rfl
theorem bmap (L : List By) : L.flatMap bcell = L.map fun l=> Value.string ⟨l.toArray⟩ := by
 induction L with
 | nil=> rfl
 | cons l L ih=> rw [List.flatMap_cons,ih]; rfl
structure UsI (wb w : World) (cb : Nat) (L : List By) : Prop where
 len : L.length = 256
 blk : Blk w cb #[Slc.v ⟨some ⟨wb.heap.size,0,none⟩,256,256⟩] 32
 row : Row w ⟨some ⟨wb.heap.size,0,none⟩,256,256⟩ 9 1 (L.flatMap bcell)
 new : wb.heap.size < cb
 ext : Ext (fun _=> False) wb w
theorem UsI.keep {wb w w' : World} {cb : Nat} {L : List By} (h : UsI wb w cb L) (he : Ext (fun _=> False) w w') : UsI wb w' cb L := ⟨h.len,he.blk h.blk id,h.row.keep he fun _ _ e=> e,h.new,h.ext.tr he⟩
theorem UsI.put {wb w : World} {cb : Nat} {L : List By} (h : UsI wb w cb L) {k : Nat} (hk : k < 256) (n : By) {K : World -> Prop} (kk : ∀ w',UsI wb w' cb (L.set k n) -> Ext (· = wb.heap.size) w w' -> K w') : St w ((⟨wb.heap.size,0,none⟩ : Addr).add (k * 1)) (.string ⟨n.toArray⟩) K := by
 have e : L.flatMap bcell = [] ++ L.flatMap bcell := rfl
 have hr := h.row
 rw [e] at hr
 obtain ⟨g,hg,hst⟩ := row_st (v := .string ⟨n.toArray⟩) (j := k) (K := K) hr (by rw [bmap,List.length_map,h.len]; exact hk) fun w' h' e'=> kk w' ⟨by rw [List.length_set]; exact h.len,e'.blk h.blk (fun ⟨a,ha,hb⟩=> by
  have ha : some (⟨wb.heap.size,0,none⟩ : Addr) = some a := ha
  cases ha
  have := h.new
  have hb : wb.heap.size = cb := hb
  omega),by rw [bmap,List.map_set,<- bmap]; exact h',h.new,ext_new h.ext e' fun j ⟨a,ha,hb⟩=> by
  have ha : some (⟨wb.heap.size,0,none⟩ : Addr) = some a := ha
  cases ha
  have hb : wb.heap.size = j := hb
  omega⟩ (e'.mono fun j _ ⟨a,ha,hb⟩=> by
  have ha : some (⟨wb.heap.size,0,none⟩ : Addr) = some a := ha
  cases ha
  exact hb.symm)
 cases hg
 rw [add_lit,Nat.zero_add,Nat.mul_one]
 rw [List.length_nil,Nat.zero_add] at hst
 exact hst
theorem setAll_take : ∀ (r : List By) (l : List By) (i k : Nat) (h : k < r.length),setAll l i (r.take (k + 1)) = (setAll l i (r.take k)).set (i + k) r[k]
 | [],l,i,k,h=> by simp at h
 | n :: r,l,i,0,h=> rfl
 | n :: r,l,i,k + 1,h=> by
  rw [List.take_succ_cons,List.take_succ_cons]
  show setAll (l.set i n) (i + 1) (r.take (k + 1)) = (setAll (l.set i n) (i + 1) (r.take k)).set _ _
  rw [setAll_take r (l.set i n) (i + 1) k (by simpa using h),show i + 1 + k = i + (k + 1) by omega]
  rfl
theorem c_put {wb w : World} (hT : TB w) {cb : Nat} {L : List By} (h : UsI wb w cb L) {at' : Nat} {s : ByteArray} (hs : s.size < 4294967281) (ha : ∀ (j : Nat) b,s.data.toList[j]? = some b -> b.toNat < 128) (hn : at' + (fields s.data.toList).length <= 256) :
  C153 (at' : Int) s (⟨cb,0,none⟩ : Addr) w fun w1=> UsI wb w1 cb (setAll L at' (fields s.data.toList)) := by
 refine T153 _ _ _ _ _ ?_
 unfold S153
 refine (Tryz.strings_Fields s w hs ha hT.1).mono fun e w' hh=> ?_
 obtain ⟨rfl,rfl⟩ := hh
 refine ⟨⟨some ⟨w.heap.size,0,none⟩,(fields s.data.toList).length,(fields s.data.toList).length⟩,rfl,?_⟩
 have hV : VRow (w.alloc (.cells ((fields s.data.toList).map fun l=> Value.string ⟨l.toArray⟩).toArray 9)) ⟨some ⟨w.heap.size,0,none⟩,(fields s.data.toList).length,(fields s.data.toList).length⟩ 1 ((fields s.data.toList).flatMap bcell) := by
  rw [bmap]
  exact VRow.of (Blk.new w _ _) (by rw [List.length_map]; omega)
 have h := h.keep ((Ext.refl (fun _=> False) w).alloc (.cells ((fields s.data.toList).map fun l=> Value.string ⟨l.toArray⟩).toArray 9))
 have hp : wb.heap.size < w.heap.size := by
  have := h.blk.lt
  have h1 := h.new
  have h2 : (w.alloc (.cells ((fields s.data.toList).map fun l=> Value.string ⟨l.toArray⟩).toArray 9)).heap.size = w.heap.size + 1 := by unfold World.alloc; simp
  omega
 generalize w.alloc (.cells ((fields s.data.toList).map fun l=> Value.string ⟨l.toArray⟩).toArray 9) = w5 at *
 generalize fields s.data.toList = F at *
 refine ⟨fun m st w1=> ∃ i : Nat,st = (i : Int) /\ i <= F.length /\ m = F.length - i /\ UsI wb w1 cb (setAll L at' (F.take i)) /\ VRow w1 ⟨some ⟨w.heap.size,0,none⟩,F.length,F.length⟩ 1 (F.flatMap bcell),F.length,⟨0,rfl,Nat.zero_le _,rfl,h,hV⟩,?_⟩
 clear h hV
 rintro m st w7 ⟨i,rfl,hi,rfl,h,hV⟩
 unfold S153L1
 dsimp only
 refine Br.dec (fun q=> ?_) fun q=> ?_
 ·have hil : i < F.length := by omega
  obtain ⟨a,ha,hc⟩ := VRow.elem bcell_len hV (List.getElem?_eq_getElem hil) (by decide)
  have hst := setAll_take F L at' i hil
  generalize F[i] = n at *
  cases ha
  have ek : IntKind.i64.wrap ((at' : Int) + (i : Int)) = ((at' + i : Nat) : Int) := by rw [i64_id (by omega)]; rfl
  rw [ek]
  refine ⟨by omega,by omega,Nn.of (Ld.mk (x := (⟨n.toArray⟩ : ByteArray)) (by rw [Int.toNat_natCast]; have := hc 0 _ rfl; simpa using this) ?_)⟩
  refine Ld.of (x := (⟨some ⟨wb.heap.size,0,none⟩,256,256⟩ : Slc)) h.blk rfl ⟨by omega,by show ((at' + i : Nat) : Int) < ((256 : Nat) : Int); omega,Nn.of ?_⟩
  rw [Int.toNat_natCast]
  refine UsI.put h (k := at' + i) (by omega) n fun w' h' e'=> ⟨F.length - (i + 1),by omega,i + 1,by rw [i64_id (by omega)]; rfl,hil,rfl,by rw [hst]; exact h',hV.keepF e' fun j ⟨a,ha,hb⟩ e=> ?_⟩
  have ha : some (⟨w.heap.size,0,none⟩ : Addr) = some a := ha
  cases ha
  have hb : w.heap.size = j := hb
  have e : j = wb.heap.size := e
  omega
 ·have : i = F.length := by omega
  subst this
  rw [List.take_length] at h
  exact h
theorem zero_names : (List.replicate 256 [Value.string ⟨#[]⟩]).flatten = (List.replicate 256 ([] : By)).flatMap bcell := by
 rw [bmap,List.map_replicate]
 rfl
theorem elStr : El Tryz.prog 32 9 1 16 (.string ByteArray.empty) := ⟨by kernel_rfl,by kernel_rfl,by kernel_rfl,by kernel_rfl,rfl⟩
theorem low0 : ∀ (j : Nat) b,(⟨signs0.toArray⟩ : ByteArray).data.toList[j]? = some b -> b.toNat < 128 := fun j b h=> by
 have hm : b ∈ signs0 := by simpa using List.mem_of_getElem? h
 have : signs0.all (fun b=> decide (b.toNat < 128)) = true := by decide +kernel
 simpa using List.all_eq_true.1 this b hm
theorem low1 : ∀ (j : Nat) b,(⟨signs1.toArray⟩ : ByteArray).data.toList[j]? = some b -> b.toNat < 128 := fun j b h=> by
 have hm : b ∈ signs1 := by simpa using List.mem_of_getElem? h
 have : signs1.all (fun b=> decide (b.toNat < 128)) = true := by decide +kernel
 simpa using List.all_eq_true.1 this b hm
theorem low2 : ∀ (j : Nat) b,(⟨signs2.toArray⟩ : ByteArray).data.toList[j]? = some b -> b.toNat < 128 := fun j b h=> by
 have hm : b ∈ signs2 := by simpa using List.mem_of_getElem? h
 have : signs2.all (fun b=> decide (b.toNat < 128)) = true := by decide +kernel
 simpa using List.all_eq_true.1 this b hm
theorem num0 : (fields signs0).length = 33 := by decide +kernel
theorem num1 : (fields signs1).length = 6 := by decide +kernel
theorem num2 : (fields signs2).length = 4 := by decide +kernel
theorem byte_str {w : World} {b : Nat} {x : Int} (hb : Blk w b #[.int .u8 (IntKind.u8.wrap x)] 5) : RunV Tryz.prog (convert 169 9 (Slc.v ⟨some ⟨b,0,none⟩,1,1⟩)) w (.string ⟨#[ub x]⟩) w := by
 rw [<- ub_val] at hb
 have h : BRow w ⟨some ⟨b,0,none⟩,1,1⟩ [ub x] := ⟨rfl,.inr ⟨b,_,rfl,hb,Nat.le_refl _,rfl,rfl⟩⟩
 exact str_row h
theorem ub_small {n : Nat} (h : n < 256) : ub (n : Int) = UInt8.ofNat n := by
 unfold ub
 have : ((n : Int) % 256).toNat = n := by omega
 rw [this]
theorem usual_chain {wb w : World} (hT : TB w) {cb : Nat} {L : List By} (h : UsI wb w cb L) {at' : Nat} {sg : By} {k : Nat} (hk : (fields sg).length = k) (hs : sg.length < 4294967281) (ha : ∀ (j : Nat) b,(⟨sg.toArray⟩ : ByteArray).data.toList[j]? = some b -> b.toNat < 128) (hn : at' + k <= 256) {K : World -> Prop} (kk : ∀ w1,UsI wb w1 cb (setAll L at' (fields sg)) -> K w1) :
  C153 (at' : Int) ⟨sg.toArray⟩ (⟨cb,0,none⟩ : Addr) w K := by
 have e : (⟨sg.toArray⟩ : ByteArray).data.toList = sg := by simp
 refine (c_put (s := ⟨sg.toArray⟩) (at' := at') hT h (by show sg.toArray.size < _; rw [List.size_toArray]; exact hs) ha (by rw [e,hk]; exact hn)).mono fun w1 h1=> kk w1 ?_
 rw [e] at h1
 exact h1
theorem c_usual {w : World} (hT : TB w) : C140 w fun r w1=> VRow w1 r 1 (usualB.flatMap bcell) /\ Ext (fun _=> False) w w1 := by
 refine T140 _ _ ?_
 unfold S140
 obtain ⟨w2,hrun,hw2⟩ := elStr.make (zs := [Value.string ⟨#[]⟩]) rfl w 256 (by decide) (by decide)
 refine ⟨_,w2,hrun,?_⟩
 have e2 : Ext (fun _=> False) w w2 := by rw [hw2]; exact (Ext.refl _ w).alloc _
 have hrow : Row w2 ⟨some ⟨w.heap.size,0,none⟩,256,256⟩ 9 1 ((List.replicate 256 ([] : By)).flatMap bcell) := by
  rw [hw2,<- zero_names]
  have := Row.new w ((List.replicate 256 [Value.string ⟨#[]⟩]).flatten).toArray 9 1 256 (by simp)
  rw [List.toList_toArray] at this
  exact this
 have hsz : w2.heap.size = w.heap.size + 1 := by rw [hw2]; unfold World.alloc; simp
 clear hw2 hrun
 refine (Hn.start w2).nw fun w3 H=> ?_
 have H : Hn w2 w3 [(w2.heap.size,[Slc.v ⟨none,0,0⟩],32)] := H
 refine H.st 0 rfl (of_decide_eq_true rfl) fun w4 H=> ?_
 have H : Hn w2 w4 [(w2.heap.size,[Slc.v ⟨some ⟨w.heap.size,0,none⟩,256,256⟩],32)] := H
 have U0 : UsI w w4 w2.heap.size (List.replicate 256 []) := ⟨by simp,H.get 0 rfl,hrow.keep H.ext fun _ _ e=> e,by omega,e2.tr H.ext⟩
 refine usual_chain (at' := 32) (sg := signs0) (hT.keep U0.ext) U0 num0 (by decide +kernel) low0 (by decide) fun w5 U5=> ?_
 refine ⟨fun m st w1=> ∃ i : Nat,st = (i : Int) /\ i <= 26 /\ m = 26 - i /\ UsI w w1 w2.heap.size (letters i (setAll (List.replicate 256 []) 32 (fields signs0))),26,⟨0,rfl,Nat.zero_le _,rfl,U5⟩,?_⟩
 rintro m st w22 ⟨i,rfl,hi,rfl,U⟩
 unfold S140L1
 refine Br.dec (fun q=> ?_) fun q=> ?_
 ·have hi2 : i < 26 := by omega
  have k1 : IntKind.i64.wrap (65 + (i : Int)) = ((65 + i : Nat) : Int) := by rw [i64_id (by omega)]; rfl
  have k2 : IntKind.i64.wrap (97 + (i : Int)) = ((97 + i : Nat) : Int) := by rw [i64_id (by omega)]; rfl
  rw [k1,k2]
  refine Ld.of (x := (⟨some ⟨w.heap.size,0,none⟩,256,256⟩ : Slc)) U.blk rfl (Nw.of ⟨_,_,byte_str (Blk.new _ _ _),by omega,by show ((65 + i : Nat) : Int) < ((256 : Nat) : Int); omega,Nn.of ?_⟩)
  have U2 := U.keep ((Ext.refl (fun _=> False) w22).alloc (.cells #[.int .u8 (IntKind.u8.wrap ((65 + i : Nat) : Int))] 5))
  rw [Int.toNat_natCast]
  refine UsI.put U2 (k := 65 + i) (by omega) [ub ((65 + i : Nat) : Int)] fun w29 U3 _=> ?_
  refine Ld.of (x := (⟨some ⟨w.heap.size,0,none⟩,256,256⟩ : Slc)) U3.blk rfl (Nw.of ⟨_,_,byte_str (Blk.new _ _ _),by omega,by show ((97 + i : Nat) : Int) < ((256 : Nat) : Int); omega,Nn.of ?_⟩)
  have U4 := U3.keep ((Ext.refl (fun _=> False) w29).alloc (.cells #[.int .u8 (IntKind.u8.wrap ((97 + i : Nat) : Int))] 5))
  rw [Int.toNat_natCast]
  refine UsI.put U4 (k := 97 + i) (by omega) [ub ((97 + i : Nat) : Int)] fun w35 U5 _=> ?_
  refine ⟨26 - (i + 1),by omega,i + 1,by rw [i64_id (by omega)]; rfl,by omega,rfl,?_⟩
  rw [ub_small (by omega),ub_small (by omega)] at U5
  exact U5
 ·have : i = 26 := by omega
  subst this
  refine usual_chain (at' := 91) (sg := signs1) (hT.keep U.ext) U num1 (by decide +kernel) low1 (by decide) fun w36 U6=> ?_
  refine usual_chain (at' := 123) (sg := signs2) (hT.keep U6.ext) U6 num2 (by decide +kernel) low2 (by decide) fun w37 U7=> ?_
  exact Ld.of (x := (⟨some ⟨w.heap.size,0,none⟩,256,256⟩ : Slc)) U7.blk rfl ⟨Row.view U7.row,U7.ext⟩
end Fo
end Go.Proofs.YtcblpehnkogfdaaGreatDoor
namespace Go.Proofs.YtcblpehnkogfdaaGreatDoor
namespace Fo
open Sh Go.Lib
set_option maxRecDepth 4000
set_option maxHeartbeats 2000000
attribute [local irreducible] Ld St Nw Nn Lt LdS
theorem bl_size (s : ByteArray) : s.size = (bl s).length := (Array.length_toList (xs := s.data)).symm
theorem bl_ext (s : ByteArray) (a b : Nat) : bl (s.extract a b) = ((bl s).drop a).take (b - a) := extract_list s a b
theorem c_prefix (s p : ByteArray) (w : World) : C162 s p w fun r w1=> r = decide ((bl s).take p.size = bl p) /\ w1 = w := by
 refine T162 _ _ _ _ ?_
 unfold S162
 have h1 := bl_size s
 have h2 := bl_size p
 refine Br.dec (fun q=> ⟨by omega,by omega,?_,rfl⟩) fun q=> ⟨?_,rfl⟩
 ·have e := bl_ext s 0 p.size
  rw [Int.toNat_natCast,eqL]
  rw [show (s.extract 0 p.size).data.toList = bl (s.extract 0 p.size) from rfl,e,List.drop_zero,Nat.sub_zero]
  rfl
 ·refine (decide_eq_false fun e=> ?_).symm
  have := congrArg List.length e
  rw [List.length_take] at this
  omega
theorem c_cutp (s p : ByteArray) (w : World) : C159 s p w fun r b w1=> (if (bl s).take p.size = bl p then bl r = (bl s).drop p.size /\ b = true else r = s /\ b = false) /\ w1 = w := by
 refine T159 _ _ _ _ ?_
 unfold S159
 refine T161 _ _ _ _ ?_
 unfold S161
 refine (c_prefix s p w).mono ?_
 rintro r w1 ⟨rfl,rfl⟩
 by_cases h : (bl s).take p.size = bl p
 ·rw [decide_eq_true h]
  simp only [if_pos h]
  have h1 := bl_size s
  have h2 := bl_size p
  have h3 := congrArg List.length h
  rw [List.length_take] at h3
  refine Br.f rfl ⟨by omega,by omega,⟨?_,by simp⟩,by simp⟩
  rw [Int.toNat_natCast,bl_ext,List.take_of_length_le (by rw [List.length_drop]; omega)]
 ·rw [decide_eq_false h]
  simp only [if_neg h]
  exact Br.t rfl (by simp)
theorem c_digit (b : UInt8) (w : World) : C160 ((b.toNat : Nat) : Int) w fun r w1=> (b.toNat < 97 -> (match hexU b with
  | some d=> r = (d : Int) /\ d < 16
  | none=> r = -1)) /\ w1 = w := by
 refine T160 _ _ _ ?_
 unfold S160
 have hb := b.toNat_lt
 unfold hexU
 generalize b.toNat = n at *
 have u8 : ∀ z : Int,0 <= z -> z < 256 -> IntKind.u8.wrap z = z := fun z h1 h2=> by rw [u8_wrap]; omega
 refine Br.dec (fun h1=> Br.dec (fun h2=> ⟨fun _=> ?_,rfl⟩) fun h2=> ?_) fun h1=> ?_
 ·rw [if_pos (by omega),u8 _ (by omega) (by omega),i64_id (by omega)]
  exact ⟨by omega,by omega⟩
 all_goals refine Br.dec (fun h3=> Br.dec (fun h4=> ⟨fun _=> ?_,rfl⟩) fun h4=> ?_) fun h3=> ?_
 all_goals try (rw [if_neg (by omega),if_pos (by omega),u8 _ (by omega) (by omega),i64_id (n := (n : Int) - 65) (by omega),i64_id (by omega)]; exact ⟨by omega,by omega⟩)
 all_goals refine Br.dec (fun h5=> Br.dec (fun h6=> ⟨fun hlt=> absurd hlt (by omega),rfl⟩) fun h6=> ?_) fun h5=> ?_
 all_goals exact ⟨fun _=> (by rw [if_neg (by omega),if_neg (by omega)]),rfl⟩
theorem runes_one (n : Int) : runesBytes [n] = Utf8.encode n := by
 unfold runesBytes
 simp
theorem c_uni {n : ByteArray} (hn : n.size <= 1048576) (w : World) : C154 n w fun r w1=> r = ⟨(uniF (bl n)).toArray⟩ /\ Ext (fun _=> False) w w1 := by
 refine T154 _ _ _ ?_
 unfold S154
 have hbn := bl_size n
 have hp : bl (⟨#[117,110,105]⟩ : ByteArray) = [117,110,105] := rfl
 have hps : (⟨#[117,110,105]⟩ : ByteArray).size = 3 := rfl
 refine (c_cutp n ⟨#[117,110,105]⟩ w).mono ?_
 rintro r b w4 ⟨hr,rfl⟩
 rw [hp,hps] at hr
 unfold uniF
 by_cases h3 : (bl n).take 3 = [117,110,105]
 ·rw [if_pos h3] at hr
  obtain ⟨hr,rfl⟩ := hr
  have hrs := bl_size r
  rw [hr,List.length_drop] at hrs
  have h3l := congrArg List.length h3
  rw [List.length_take] at h3l
  have h3l : min 3 (bl n).length = 3 := h3l
  refine Br.f rfl (Br.ne (fun h4=> ⟨by rw [if_neg (by rintro ⟨_,h⟩; omega)],Ext.refl _ _⟩) fun h4=> ?_)
  have h7 : (bl n).length = 7 := by omega
  rw [if_pos ⟨h3,h7⟩]
  have hl4 : (bl r).length = 4 := by rw [hr,List.length_drop]; omega
  rw [<- hr]
  refine ⟨fun m st w1=> ∃ (i k : Nat),st = ((k : Int),(i : Int)) /\ i <= 4 /\ m = 4 - i /\ k < 16 ^ i /\ hexs (bl r) 0 = hexs ((bl r).drop i) k /\ w1 = w4,4,⟨0,0,rfl,by omega,rfl,by decide,rfl,rfl⟩,?_⟩
  rintro m st w11 ⟨i,k,rfl,hi,rfl,hk,hh,rfl⟩
  unfold S154L1
  dsimp only
  have hk4 : k < 65536 := Nat.lt_of_lt_of_le hk (Nat.pow_le_pow_right (by decide) hi)
  refine Br.dec (fun q=> ?_) fun q=> ?_
  ·have hil : i < (bl r).length := by omega
   have hbt := bAt_list r i
   have hbb : (bl r).getD i 0 = (bl r)[i] := by rw [List.getD_eq_getElem?_getD,List.getElem?_eq_getElem hil]; rfl
   have hb1 : bAt r (i : Int) = ((bl r)[i].toNat : Int) := by rw [hbt]; exact congrArg (fun b : UInt8=> ((b.toNat : Nat) : Int)) hbb
   rw [List.drop_eq_getElem_cons hil] at hh
   rw [hb1]
   generalize (bl r)[i] = b at *
   have hcons : hexs (b :: (bl r).drop (i + 1)) k = (match hexU b with
    | some d=> hexs ((bl r).drop (i + 1)) (16 * k + d)
    | none=> none) := rfl
   rw [hcons] at hh
   have b1 : (0 : Int) <= (i : Int) := by omega
   have b2 : (i : Int) < ((r.size : Nat) : Int) := by omega
   refine ⟨b1,b2,(c_digit b w11).mono ?_⟩
   rintro rd w14 ⟨hd,rfl⟩
   by_cases hlow : b.toNat < 97
   ·have hd := hd hlow
    cases hx : hexU b with
    | none=>
     rw [hx] at hd hh
     subst hd
     refine Br.t (by decide) ⟨?_,Ext.refl _ _⟩
     rw [hh]
    | some d=>
     rw [hx] at hd hh
     obtain ⟨rfl,hd16⟩ := hd
     refine Br.f (by rw [decide_eq_false_iff_not]; omega) ⟨b1,b2,Br.f (by rw [decide_eq_false_iff_not]; omega) ?_⟩
     refine ⟨4 - (i + 1),by omega,i + 1,16 * k + d,?_,by omega,rfl,?_,hh,rfl⟩
     ·have e1 : IntKind.i64.wrap ((k : Int) * 2 ^ 4) = ((k * 2 ^ 4 : Nat) : Int) := by rw [i64_id (by omega)]; omega
      rw [e1,ior_add (by omega) (by omega) (by omega),i64_id (by omega)]
      refine Prod.ext ?_ rfl
      show ((k * 2 ^ 4 + d : Nat) : Int) = ((16 * k + d : Nat) : Int)
      omega
     ·rw [Nat.pow_succ]
      omega
   ·have hx : hexU b = none := by
     unfold hexU
     rw [if_neg (by omega),if_neg (by omega)]
    rw [hx] at hh
    refine Br.dec (fun _=> ⟨by rw [hh],Ext.refl _ _⟩) fun _=> ⟨b1,b2,Br.t (by rw [decide_eq_true_eq]; omega) ⟨by rw [hh],Ext.refl _ _⟩⟩
  ·have : i = (bl r).length := by omega
   subst this
   rw [List.drop_length] at hh
   have hh : hexs (bl r) 0 = some k := hh
   rw [hh]
   dsimp only
   have fin : ¬ (k = 0 \/ (55296 <= k /\ k <= 57343)) -> ∀ w1 : World,Ext (fun _=> False) w11 w1 -> Nw w1 (.cells #[.int .i32 (IntKind.i32.wrap (k : Int))] 21) fun vw15=>
     Rn Tryz.prog (convert 182 9 (Slc.v ((⟨some ⟨w1.heap.size,0,none⟩,1,1⟩ : Slc)))) vw15 Value.string fun (x16 : ByteArray) vw17=> x16 = ⟨(if k = 0 \/ (55296 <= k /\ k <= 57343) then [] else encodeRune (k : Int)).toArray⟩ /\ Ext (fun _=> False) w11 vw17 := fun hno w1 E1=> by
    have hwr : IntKind.i32.wrap (k : Int) = (k : Int) := IntWalk.i32_in _ ⟨by omega,by omega⟩
    rw [hwr,if_neg hno]
    refine Nw.of ?_
    have hb := Blk.new w1 #[.int .i32 (k : Int)] 21
    have hrun := run_convert_runes (P := Tryz.prog) (w1.alloc (.cells #[.int .i32 (k : Int)] 21)) 182 9 21 ⟨w1.heap.size,0,none⟩ 1 1 [(k : Int)] (Nat.le_refl 1) (by kernel_rfl) (by kernel_rfl) (by kernel_rfl) fun j hj=> by
     have : j = 0 := by simpa using hj
     subst this
     rw [add_lit,hb.cell]
     rfl
    have e : ([(k : Int)] : List Int).take 1 = [(k : Int)] := rfl
    rw [e,runes_one,enc_eq (by omega)] at hrun
    exact ⟨_,_,hrun,rfl,E1.alloc _⟩
   refine Br.eq (fun h0=> ⟨by rw [if_pos (.inl (by omega))],Ext.refl _ _⟩) fun h0=> ?_
   refine Br.dec (fun h1=> Br.dec (fun h2=> ⟨by rw [if_pos (.inr (by omega))],Ext.refl _ _⟩) fun h2=> ?_) fun h1=> ?_
   ·exact fin (by omega) w11 (Ext.refl _ _)
   ·exact fin (by omega) w11 (Ext.refl _ _)
 ·rw [if_neg h3] at hr
  obtain ⟨rfl,rfl⟩ := hr
  rw [if_neg (fun h=> h3 h.1)]
  exact Br.t rfl ⟨rfl,Ext.refl _ _⟩
theorem c_sign {w : World} (hT : TB w) {n : ByteArray} (hn : n.size <= 1048576) : C141 n w fun r w1=> r = ⟨(signF (bl n)).toArray⟩ /\ Ext (fun _=> False) w w1 := by
 refine T141 _ _ _ ?_
 unfold S141 signF
 rw [eqL]
 refine Br.dec (fun h0=> ⟨by rw [if_pos (show bl n = [] from h0)],Ext.refl _ _⟩) fun h0=> ?_
 rw [if_neg (show ¬ bl n = [] from h0)]
 refine (c_usual hT).mono ?_
 rintro r2 w3 ⟨hV,e3⟩
 have hlen : r2.len = usualB.length := VRow.count bcell_len (by decide) hV
 have h256 := usualB_len
 generalize usualB = U at *
 refine ⟨fun m st w1=> ∃ i : Nat,st = (i : Int) /\ i <= U.length /\ m = U.length - i /\ (∀ (j : Nat) (u : By),j < i -> U[j]? = some u -> u ≠ bl n) /\ w1 = w3,U.length,⟨0,rfl,Nat.zero_le _,rfl,fun j u h=> absurd h (Nat.not_lt_zero _),rfl⟩,?_⟩
 rintro m st w5 ⟨i,rfl,hi,rfl,hno,rfl⟩
 unfold S141L1
 rw [hlen]
 refine Br.dec (fun q=> ?_) fun q=> ?_
 ·have hil : i < U.length := by omega
  have gu : U[i]? = some U[i] := List.getElem?_eq_getElem hil
  obtain ⟨a,ha,hc⟩ := VRow.elem bcell_len hV gu (by decide)
  have hfi : U[i] = bl n -> U.findIdx? (fun m=> decide (m = bl n)) = some i := fun he=> by
   rw [List.findIdx?_eq_some_iff_getElem]
   refine ⟨hil,by rw [he]; simp,fun j hj=> ?_⟩
   have := hno j U[j] hj (List.getElem?_eq_getElem (by omega))
   simp [this]
  generalize U[i] = u at *
  rw [ha]
  refine ⟨by omega,by omega,Nn.of (Ld.mk (x := (⟨u.toArray⟩ : ByteArray)) (by rw [Int.toNat_natCast]; have := hc 0 _ rfl; simpa using this) ?_)⟩
  have hu : (⟨u.toArray⟩ : ByteArray).data.toList = u := by simp
  rw [eqL,hu]
  refine Br.dec (fun h1=> ?_) fun h1=> ?_
  ·rw [hfi h1]
   refine Nw.of ⟨_,_,byte_str (Blk.new _ _ _),?_,e3.alloc _⟩
   rw [ub_small (by omega)]
  ·refine ⟨U.length - (i + 1),by omega,i + 1,by rw [i64_id (by omega)]; rfl,by omega,rfl,fun j v hj hv=> ?_,rfl⟩
   by_cases e : j = i
   ·subst e
    rw [gu] at hv
    cases hv
    exact h1
   ·exact hno j v (by omega) hv
 ·have hnone : U.findIdx? (fun m=> decide (m = bl n)) = none := by
   rw [List.findIdx?_eq_none_iff]
   intro u hu
   obtain ⟨j,hj⟩ := List.mem_iff_getElem?.1 hu
   have hlt := (List.getElem?_eq_some_iff.1 hj).1
   have := hno j u (by omega) hj
   simp [this]
  rw [hnone]
  refine (c_uni hn w5).mono ?_
  rintro r w13 ⟨rfl,e13⟩
  exact ⟨rfl,e3.tr e13⟩
theorem c_say {w : World} {x : FT} {f : Font} (hT : TB w) (h : FoV w x f) (code : Int) : C120 x code w fun r w1=> r = ⟨(sayF f code).toArray⟩ /\ Ext (fun _=> False) w w1 := by
 refine T120 _ _ _ _ ?_
 unfold S120
 refine Nw.of ?_
 have H := fo_blk w x
 have hE := H.ext
 have hn := h.nlen
 generalize w.alloc (.cells (Sig.cells LiA34 x).toArray 35) = wd at *
 refine H.ld 0 rfl (x := x.2.2.2.2.2.2) rfl ?_
 refine (c_find (h.keep hE).maps h.lm code).mono ?_
 rintro r9 b10 w11 ⟨hf,e11⟩
 have H := H.keep e11
 have E11 := hE.tr e11
 unfold sayF
 cases hfi : f.maps.find? (fun x=> decide (x.1 = code)) with
 | some p=>
  rw [hfi] at hf
  obtain ⟨rfl,rfl⟩ := hf
  exact Br.t rfl ⟨ba_ext (by simp [bl]),E11⟩
 | none=>
  rw [hfi] at hf
  obtain ⟨rfl,rfl⟩ := hf
  refine Br.f rfl (H.ld 0 rfl (x := x.2.2.2.2.2.1) rfl ?_)
  rw [hn]
  refine Br.eq (fun h0=> ?_) fun h0=> ?_
  ·have hnil : f.names = [] := List.length_eq_zero_iff.1 (by omega)
   rw [if_pos hnil]
   refine (c_usual (hT.keep E11)).mono ?_
   rintro r15 w16 ⟨hV,e16⟩
   have H := H.keep e16
   have E16 := E11.tr e16
   have hlen : r15.len = usualB.length := VRow.count bcell_len (by decide) hV
   have hub := usualB_len
   refine H.ld 0 rfl (x := x.2.1) rfl ?_
   rw [h.wide,hlen]
   cases hw : f.wide with
   | true=> exact Br.t rfl ⟨by rw [if_pos (.inl rfl)],E16⟩
   | false=>
    refine Br.f rfl (Br.dec (fun h1=> ⟨by rw [if_pos (.inr (.inl h1))],E16⟩) fun h1=> Br.dec (fun h2=> ⟨by rw [if_pos (.inr (.inr (by omega)))],E16⟩) fun h2=> ?_)
    have hil : code.toNat < usualB.length := by omega
    have hgd : usualB.getD code.toNat [] = usualB[code.toNat] := by rw [List.getD_eq_getElem?_getD,List.getElem?_eq_getElem hil]; rfl
    obtain ⟨a,ha,hc⟩ := VRow.elem bcell_len hV (List.getElem?_eq_getElem hil) (by decide)
    have hul : usualB.all (fun u=> decide (u.length <= 1048576)) = true := by decide +kernel
    have hu1 := List.all_eq_true.1 hul _ (List.getElem_mem hil)
    rw [if_neg (by rintro (h | h | h); cases h; omega; omega),hgd]
    generalize usualB[code.toNat] = u at *
    have hu1 : u.length <= 1048576 := by simpa using hu1
    rw [ha]
    refine ⟨by omega,by omega,Nn.of (Ld.mk (x := (⟨u.toArray⟩ : ByteArray)) (by have := hc 0 _ rfl; simpa using this) ?_)⟩
    refine (c_sign (hT.keep E16) (n := ⟨u.toArray⟩) (by show u.toArray.size <= _; rw [List.size_toArray]; exact hu1)).mono ?_
    rintro r w22 ⟨rfl,e22⟩
    exact ⟨by simp [bl],E16.tr e22⟩
  ·have hne : f.names ≠ [] := fun e=> h0 (by rw [e]; rfl)
   rw [if_neg hne]
   refine H.ld 0 rfl (x := x.2.1) rfl ?_
   rw [h.wide]
   have hlm : (f.names.map bl).length = f.names.length := List.length_map ..
   cases hw : f.wide with
   | true=> exact Br.t rfl ⟨by rw [if_pos (.inl rfl)],E11⟩
   | false=>
    refine Br.f rfl (Br.dec (fun h1=> ⟨by rw [if_pos (.inr (.inl h1))],E11⟩) fun h1=> Br.dec (fun h2=> ⟨by rw [if_pos (.inr (.inr (by omega)))],E11⟩) fun h2=> ?_)
    have hil : code.toNat < f.names.length := by omega
    have hgd : (f.names.map bl).getD code.toNat [] = bl f.names[code.toNat] := by rw [List.getD_eq_getElem?_getD,List.getElem?_map,List.getElem?_eq_getElem hil]; rfl
    obtain ⟨a,ha,hc⟩ := VRow.elem scell_len (h.keep E11).names (List.getElem?_eq_getElem hil) (by decide)
    have hu1 := h.szs _ (List.getElem_mem hil)
    rw [if_neg (by rintro (h | h | h); cases h; omega; omega),hgd]
    generalize f.names[code.toNat] = u at *
    rw [ha]
    refine ⟨by omega,by omega,Nn.of (Ld.mk (x := u) (by have := hc 0 _ rfl; simpa using this) ?_)⟩
    refine (c_sign (hT.keep E11) hu1).mono ?_
    rintro r w22 ⟨rfl,e22⟩
    exact ⟨rfl,E11.tr e22⟩
end Fo
end Go.Proofs.YtcblpehnkogfdaaGreatDoor

/- The formulas of 19 functions of the program, written by program (gen.py); the kernel checks each. No condition. -/
namespace Go.Proofs.YtcblpehnkogfdaaGreatDoor
set_option maxRecDepth 100000
open Sh
set_option maxRecDepth 100000
def C30 (x1 : Value) (why2 : Option Addr) (w : World) (R : World -> Prop) (PR : Value -> World -> Prop) : Prop :=
 Calls Tryz.prog 30 #[x1,.pointer why2] w fun e w'=> (e = .returned (.tuple #[]) /\ R w') \/ ∃ v,e = .panicked (onePanic v) /\ PR v w'
theorem C30.mono {x1 : Value} {why2 : Option Addr} {w : World} {R R' : World -> Prop} {PR PR' : Value -> World -> Prop} (h : C30 x1 why2 w R PR) (hr : ∀ w',R w' -> R' w') (hp : ∀ v w',PR v w' -> PR' v w') : C30 x1 why2 w R' PR' :=
 Calls.mono h fun _ _ he=> he.elim (fun ⟨he,hR⟩=> .inl ⟨he,hr _ hR⟩) fun ⟨v,he,hP⟩=> .inr ⟨v,he,hp _ _ hP⟩
def C39 (holds1 : Bool) (why2 : Int) (w : World) (R : World -> Prop) (PR : Value -> World -> Prop) : Prop :=
 Calls Tryz.prog 39 #[.bool holds1,.int .i64 why2] w fun e w'=> (e = .returned (.tuple #[]) /\ R w') \/ ∃ v,e = .panicked (onePanic v) /\ PR v w'
theorem C39.mono {holds1 : Bool} {why2 : Int} {w : World} {R R' : World -> Prop} {PR PR' : Value -> World -> Prop} (h : C39 holds1 why2 w R PR) (hr : ∀ w',R w' -> R' w') (hp : ∀ v w',PR v w' -> PR' v w') : C39 holds1 why2 w R' PR' :=
 Calls.mono h fun _ _ he=> he.elim (fun ⟨he,hR⟩=> .inl ⟨he,hr _ hR⟩) fun ⟨v,he,hP⟩=> .inr ⟨v,he,hp _ _ hP⟩
def C56 (x1 : TyA30) (why2 : Int) (w : World) (R : (TyA30) -> World -> Prop) (PR : Value -> World -> Prop) : Prop :=
 Calls Tryz.prog 56 #[.agg (Sig.cells LiA30 x1).toArray,.int .i64 why2] w fun e w'=> (∃ r0 : TyA30,e = .returned (.agg (Sig.cells LiA30 r0).toArray) /\ R r0 w') \/ ∃ v,e = .panicked (onePanic v) /\ PR v w'
theorem C56.mono {x1 : TyA30} {why2 : Int} {w : World} {R R' : (TyA30) -> World -> Prop} {PR PR' : Value -> World -> Prop} (h : C56 x1 why2 w R PR) (hr : ∀ r0 w',R r0 w' -> R' r0 w') (hp : ∀ v w',PR v w' -> PR' v w') : C56 x1 why2 w R' PR' :=
 Calls.mono h fun _ _ he=> he.elim (fun ⟨r0,he,hR⟩=> .inl ⟨r0,he,hr _ _ hR⟩) fun ⟨v,he,hP⟩=> .inr ⟨v,he,hp _ _ hP⟩
def C58 (n1 : Int) (w : World) (R : Int -> World -> Prop) (PR : Value -> World -> Prop) : Prop :=
 Calls Tryz.prog 58 #[.int .i64 n1] w fun e w'=> (∃ r0 : Int,e = .returned (.int .i64 r0) /\ R r0 w') \/ ∃ v,e = .panicked (onePanic v) /\ PR v w'
theorem C58.mono {n1 : Int} {w : World} {R R' : Int -> World -> Prop} {PR PR' : Value -> World -> Prop} (h : C58 n1 w R PR) (hr : ∀ r0 w',R r0 w' -> R' r0 w') (hp : ∀ v w',PR v w' -> PR' v w') : C58 n1 w R' PR' :=
 Calls.mono h fun _ _ he=> he.elim (fun ⟨r0,he,hR⟩=> .inl ⟨r0,he,hr _ _ hR⟩) fun ⟨v,he,hP⟩=> .inr ⟨v,he,hp _ _ hP⟩
def C31 (g1 : TyA30) (w : World) (R : World -> Prop) (PR : Value -> World -> Prop) : Prop :=
 Calls Tryz.prog 31 #[.agg (Sig.cells LiA30 g1).toArray] w fun e w'=> (e = .returned (.tuple #[]) /\ R w') \/ ∃ v,e = .panicked (onePanic v) /\ PR v w'
theorem C31.mono {g1 : TyA30} {w : World} {R R' : World -> Prop} {PR PR' : Value -> World -> Prop} (h : C31 g1 w R PR) (hr : ∀ w',R w' -> R' w') (hp : ∀ v w',PR v w' -> PR' v w') : C31 g1 w R' PR' :=
 Calls.mono h fun _ _ he=> he.elim (fun ⟨he,hR⟩=> .inl ⟨he,hr _ hR⟩) fun ⟨v,he,hP⟩=> .inr ⟨v,he,hp _ _ hP⟩
def C32 (x1 : TyA34) (why2 : Int) (w : World) (R : (TyA34) -> World -> Prop) (PR : Value -> World -> Prop) : Prop :=
 Calls Tryz.prog 32 #[.agg (Sig.cells LiA34 x1).toArray,.int .i64 why2] w fun e w'=> (∃ r0 : TyA34,e = .returned (.agg (Sig.cells LiA34 r0).toArray) /\ R r0 w') \/ ∃ v,e = .panicked (onePanic v) /\ PR v w'
theorem C32.mono {x1 : TyA34} {why2 : Int} {w : World} {R R' : (TyA34) -> World -> Prop} {PR PR' : Value -> World -> Prop} (h : C32 x1 why2 w R PR) (hr : ∀ r0 w',R r0 w' -> R' r0 w') (hp : ∀ v w',PR v w' -> PR' v w') : C32 x1 why2 w R' PR' :=
 Calls.mono h fun _ _ he=> he.elim (fun ⟨r0,he,hR⟩=> .inl ⟨r0,he,hr _ _ hR⟩) fun ⟨v,he,hP⟩=> .inr ⟨v,he,hp _ _ hP⟩
def C89 (x1 : Int × Int × Int × Int × Int × Int) (why2 : Int) (w : World) (R : (Int × Int × Int × Int × Int × Int) -> World -> Prop) (PR : Value -> World -> Prop) : Prop :=
 Calls Tryz.prog 89 #[.agg #[.int .i64 (x1.1),.int .i64 (x1.2.1),.int .i64 (x1.2.2.1),.int .i64 (x1.2.2.2.1),.int .i64 (x1.2.2.2.2.1),.int .i64 (x1.2.2.2.2.2)],.int .i64 why2] w fun e w'=> (∃ r0 : Int × Int × Int × Int × Int × Int,e = .returned (.agg #[.int .i64 (r0.1),.int .i64 (r0.2.1),.int .i64 (r0.2.2.1),.int .i64 (r0.2.2.2.1),.int .i64 (r0.2.2.2.2.1),.int .i64 (r0.2.2.2.2.2)]) /\ R r0 w') \/ ∃ v,e = .panicked (onePanic v) /\ PR v w'
theorem C89.mono {x1 : Int × Int × Int × Int × Int × Int} {why2 : Int} {w : World} {R R' : (Int × Int × Int × Int × Int × Int) -> World -> Prop} {PR PR' : Value -> World -> Prop} (h : C89 x1 why2 w R PR) (hr : ∀ r0 w',R r0 w' -> R' r0 w') (hp : ∀ v w',PR v w' -> PR' v w') : C89 x1 why2 w R' PR' :=
 Calls.mono h fun _ _ he=> he.elim (fun ⟨r0,he,hR⟩=> .inl ⟨r0,he,hr _ _ hR⟩) fun ⟨v,he,hP⟩=> .inr ⟨v,he,hp _ _ hP⟩
def C90 (x1 : Slc) (why2 : Int) (w : World) (R : Slc -> World -> Prop) (PR : Value -> World -> Prop) : Prop :=
 Calls Tryz.prog 90 #[Slc.v x1,.int .i64 why2] w fun e w'=> (∃ r0 : Slc,e = .returned (Slc.v r0) /\ R r0 w') \/ ∃ v,e = .panicked (onePanic v) /\ PR v w'
theorem C90.mono {x1 : Slc} {why2 : Int} {w : World} {R R' : Slc -> World -> Prop} {PR PR' : Value -> World -> Prop} (h : C90 x1 why2 w R PR) (hr : ∀ r0 w',R r0 w' -> R' r0 w') (hp : ∀ v w',PR v w' -> PR' v w') : C90 x1 why2 w R' PR' :=
 Calls.mono h fun _ _ he=> he.elim (fun ⟨r0,he,hR⟩=> .inl ⟨r0,he,hr _ _ hR⟩) fun ⟨v,he,hP⟩=> .inr ⟨v,he,hp _ _ hP⟩
def C62 (x1 : Int) (why2 : Int) (w : World) (R : Int -> World -> Prop) (PR : Value -> World -> Prop) : Prop :=
 Calls Tryz.prog 62 #[.int .i64 x1,.int .i64 why2] w fun e w'=> (∃ r0 : Int,e = .returned (.int .i64 r0) /\ R r0 w') \/ ∃ v,e = .panicked (onePanic v) /\ PR v w'
theorem C62.mono {x1 : Int} {why2 : Int} {w : World} {R R' : Int -> World -> Prop} {PR PR' : Value -> World -> Prop} (h : C62 x1 why2 w R PR) (hr : ∀ r0 w',R r0 w' -> R' r0 w') (hp : ∀ v w',PR v w' -> PR' v w') : C62 x1 why2 w R' PR' :=
 Calls.mono h fun _ _ he=> he.elim (fun ⟨r0,he,hR⟩=> .inl ⟨r0,he,hr _ _ hR⟩) fun ⟨v,he,hP⟩=> .inr ⟨v,he,hp _ _ hP⟩
def C61 (h1 : TyA83) (n2 : Int) (w : World) (R : Int -> World -> Prop) (PR : Value -> World -> Prop) : Prop :=
 Calls Tryz.prog 61 #[.agg (Sig.cells LiA83 h1).toArray,.int .i64 n2] w fun e w'=> (∃ r0 : Int,e = .returned (.int .i64 r0) /\ R r0 w') \/ ∃ v,e = .panicked (onePanic v) /\ PR v w'
theorem C61.mono {h1 : TyA83} {n2 : Int} {w : World} {R R' : Int -> World -> Prop} {PR PR' : Value -> World -> Prop} (h : C61 h1 n2 w R PR) (hr : ∀ r0 w',R r0 w' -> R' r0 w') (hp : ∀ v w',PR v w' -> PR' v w') : C61 h1 n2 w R' PR' :=
 Calls.mono h fun _ _ he=> he.elim (fun ⟨r0,he,hR⟩=> .inl ⟨r0,he,hr _ _ hR⟩) fun ⟨v,he,hP⟩=> .inr ⟨v,he,hp _ _ hP⟩
def C34 (h1 : TyA83) (code2 : Int) (z3 : Int) (w : World) (R : Int -> World -> Prop) (PR : Value -> World -> Prop) : Prop :=
 Calls Tryz.prog 34 #[.agg (Sig.cells LiA83 h1).toArray,.int .i64 code2,.int .i64 z3] w fun e w'=> (∃ r0 : Int,e = .returned (.int .i64 r0) /\ R r0 w') \/ ∃ v,e = .panicked (onePanic v) /\ PR v w'
theorem C34.mono {h1 : TyA83} {code2 : Int} {z3 : Int} {w : World} {R R' : Int -> World -> Prop} {PR PR' : Value -> World -> Prop} (h : C34 h1 code2 z3 w R PR) (hr : ∀ r0 w',R r0 w' -> R' r0 w') (hp : ∀ v w',PR v w' -> PR' v w') : C34 h1 code2 z3 w R' PR' :=
 Calls.mono h fun _ _ he=> he.elim (fun ⟨r0,he,hR⟩=> .inl ⟨r0,he,hr _ _ hR⟩) fun ⟨v,he,hP⟩=> .inr ⟨v,he,hp _ _ hP⟩
def C35 (h1 : TyA83) (code2 : Int) (w : World) (R : Int -> World -> Prop) (PR : Value -> World -> Prop) : Prop :=
 Calls Tryz.prog 35 #[.agg (Sig.cells LiA83 h1).toArray,.int .i64 code2] w fun e w'=> (∃ r0 : Int,e = .returned (.int .i64 r0) /\ R r0 w') \/ ∃ v,e = .panicked (onePanic v) /\ PR v w'
theorem C35.mono {h1 : TyA83} {code2 : Int} {w : World} {R R' : Int -> World -> Prop} {PR PR' : Value -> World -> Prop} (h : C35 h1 code2 w R PR) (hr : ∀ r0 w',R r0 w' -> R' r0 w') (hp : ∀ v w',PR v w' -> PR' v w') : C35 h1 code2 w R' PR' :=
 Calls.mono h fun _ _ he=> he.elim (fun ⟨r0,he,hR⟩=> .inl ⟨r0,he,hr _ _ hR⟩) fun ⟨v,he,hP⟩=> .inr ⟨v,he,hp _ _ hP⟩
def C121 (x1 : Int × Int) (why2 : Int) (w : World) (R : (Int × Int) -> World -> Prop) (PR : Value -> World -> Prop) : Prop :=
 Calls Tryz.prog 121 #[.agg #[.int .i64 (x1.1),.int .i64 (x1.2)],.int .i64 why2] w fun e w'=> (∃ r0 : Int × Int,e = .returned (.agg #[.int .i64 (r0.1),.int .i64 (r0.2)]) /\ R r0 w') \/ ∃ v,e = .panicked (onePanic v) /\ PR v w'
theorem C121.mono {x1 : Int × Int} {why2 : Int} {w : World} {R R' : (Int × Int) -> World -> Prop} {PR PR' : Value -> World -> Prop} (h : C121 x1 why2 w R PR) (hr : ∀ r0 w',R r0 w' -> R' r0 w') (hp : ∀ v w',PR v w' -> PR' v w') : C121 x1 why2 w R' PR' :=
 Calls.mono h fun _ _ he=> he.elim (fun ⟨r0,he,hR⟩=> .inl ⟨r0,he,hr _ _ hR⟩) fun ⟨v,he,hP⟩=> .inr ⟨v,he,hp _ _ hP⟩
def C92 (h1 : TyA83) (m2 : Int × Int × Int × Int × Int × Int) (code3 : Int) (w : World) (R : (TyA69) -> (Int × Int × Int × Int × Int × Int) -> World -> Prop) (PR : Value -> World -> Prop) : Prop :=
 Calls Tryz.prog 92 #[.agg (Sig.cells LiA83 h1).toArray,.agg #[.int .i64 (m2.1),.int .i64 (m2.2.1),.int .i64 (m2.2.2.1),.int .i64 (m2.2.2.2.1),.int .i64 (m2.2.2.2.2.1),.int .i64 (m2.2.2.2.2.2)],.int .i64 code3] w fun e w'=> (∃ r0 : TyA69,∃ r1 : Int × Int × Int × Int × Int × Int,e = .returned (.tuple #[.agg (Sig.cells LiA69 r0).toArray,.agg #[.int .i64 (r1.1),.int .i64 (r1.2.1),.int .i64 (r1.2.2.1),.int .i64 (r1.2.2.2.1),.int .i64 (r1.2.2.2.2.1),.int .i64 (r1.2.2.2.2.2)]]) /\ R r0 r1 w') \/ ∃ v,e = .panicked (onePanic v) /\ PR v w'
theorem C92.mono {h1 : TyA83} {m2 : Int × Int × Int × Int × Int × Int} {code3 : Int} {w : World} {R R' : (TyA69) -> (Int × Int × Int × Int × Int × Int) -> World -> Prop} {PR PR' : Value -> World -> Prop} (h : C92 h1 m2 code3 w R PR) (hr : ∀ r0 r1 w',R r0 r1 w' -> R' r0 r1 w') (hp : ∀ v w',PR v w' -> PR' v w') : C92 h1 m2 code3 w R' PR' :=
 Calls.mono h fun _ _ he=> he.elim (fun ⟨r0,r1,he,hR⟩=> .inl ⟨r0,r1,he,hr _ _ _ hR⟩) fun ⟨v,he,hP⟩=> .inr ⟨v,he,hp _ _ hP⟩
def C55 (h1 : TyA83) (m2 : Int × Int × Int × Int × Int × Int) (s3 : ByteArray) (w : World) (R : Slc -> (Int × Int × Int × Int × Int × Int) -> World -> Prop) (PR : Value -> World -> Prop) : Prop :=
 Calls Tryz.prog 55 #[.agg (Sig.cells LiA83 h1).toArray,.agg #[.int .i64 (m2.1),.int .i64 (m2.2.1),.int .i64 (m2.2.2.1),.int .i64 (m2.2.2.2.1),.int .i64 (m2.2.2.2.2.1),.int .i64 (m2.2.2.2.2.2)],.string s3] w fun e w'=> (∃ r0 : Slc,∃ r1 : Int × Int × Int × Int × Int × Int,e = .returned (.tuple #[Slc.v r0,.agg #[.int .i64 (r1.1),.int .i64 (r1.2.1),.int .i64 (r1.2.2.1),.int .i64 (r1.2.2.2.1),.int .i64 (r1.2.2.2.2.1),.int .i64 (r1.2.2.2.2.2)]]) /\ R r0 r1 w') \/ ∃ v,e = .panicked (onePanic v) /\ PR v w'
theorem C55.mono {h1 : TyA83} {m2 : Int × Int × Int × Int × Int × Int} {s3 : ByteArray} {w : World} {R R' : Slc -> (Int × Int × Int × Int × Int × Int) -> World -> Prop} {PR PR' : Value -> World -> Prop} (h : C55 h1 m2 s3 w R PR) (hr : ∀ r0 r1 w',R r0 r1 w' -> R' r0 r1 w') (hp : ∀ v w',PR v w' -> PR' v w') : C55 h1 m2 s3 w R' PR' :=
 Calls.mono h fun _ _ he=> he.elim (fun ⟨r0,r1,he,hR⟩=> .inl ⟨r0,r1,he,hr _ _ _ hR⟩) fun ⟨v,he,hP⟩=> .inr ⟨v,he,hp _ _ hP⟩
def CD29 (c1 : Addr) (c2 : Addr) (u : Option Value) (w : World) (R : World -> Prop) : Prop := CallD Tryz.prog 29 #[.pointer (some c1),.pointer (some c2)] u w R
def C11 (g1 : TyA30) (f2 : TyA34) (code3 : Int) (w : World) (R : Int -> Int -> World -> Prop) : Prop :=
 Calls Tryz.prog 11 #[.agg (Sig.cells LiA30 g1).toArray,.agg (Sig.cells LiA34 f2).toArray,.int .i64 code3] w fun e w'=> ∃ r0 : Int,∃ r1 : Int,e = .returned (.tuple #[.int .i64 r0,.int .i64 r1]) /\ R r0 r1 w'
theorem C11.mono {g1 : TyA30} {f2 : TyA34} {code3 : Int} {w : World} {R R' : Int -> Int -> World -> Prop} (h : C11 g1 f2 code3 w R) (hr : ∀ r0 r1 w',R r0 r1 w' -> R' r0 r1 w') : C11 g1 f2 code3 w R' :=
 Calls.mono h fun _ _ ⟨r0,r1,he,hR⟩=> ⟨r0,r1,he,hr _ _ _ hR⟩
def S30_nil (why2 : Option Addr) (w : World) (R : World -> Prop) (PR : Value -> World -> Prop) : Prop :=
 R w
def pl30_nil : Plan := (.q (.block (.q (.cond (.reg .seq) (.q (.cond (.q (.reg .seq)) (.q (.reg .seq))))))))
theorem T30_nil (why2 : Option Addr) (w : World) (R : World -> Prop) (PR : Value -> World -> Prop) (h : S30_nil why2 w R PR) : C30 Value.nilIface why2 w R PR := by
 have e : fnT Tryz.prog ⟨FF,MAY,PR⟩ pl30_nil Tryz.f30 [Value.nilIface,.pointer why2] w [] (fun _ w=> R w) = S30_nil why2 w R PR := by kernel_rfl
 exact (fn_callsP okF okM Tryz.func30 (by kernel_rfl) (by kernel_rfl) (e.mpr h)).mono fun _ _ he=> he.elim (fun ⟨_,he,hR⟩=> .inl ⟨he,hR⟩) .inr
def S30_T106 (x2 : Int) (why3 : Option Addr) (w : World) (R : World -> Prop) (PR : Value -> World -> Prop) : Prop :=
 Nw w (.cells #[.int .i64 0] 106) fun z4=>
 St z4 ⟨w.heap.size,0,none⟩ (.int .i64 x2) fun z5=>
 Ld z5 ⟨w.heap.size,0,none⟩ (.int .i64) fun x6=>
 Nn why3 fun a7=>
 St z5 a7 (.int .i64 x6) fun z8=>
 R z8
def pl30_T106 : Plan := (.q (.block (.q (.cond (.reg .seq) (.q (.cond (.q (.reg .seq)) (.q (.reg .seq))))))))
theorem T30_T106 (x2 : Int) (why3 : Option Addr) (w : World) (R : World -> Prop) (PR : Value -> World -> Prop) (h : S30_T106 x2 why3 w R PR) : C30 (.iface 106 (.agg #[.int .i64 x2])) why3 w R PR := by
 have e : fnT Tryz.prog ⟨FF,MAY,PR⟩ pl30_T106 Tryz.f30 [.iface 106 (.agg #[.int .i64 x2]),.pointer why3] w [] (fun _ w=> R w) = S30_T106 x2 why3 w R PR := by kernel_rfl
 exact (fn_callsP okF okM Tryz.func30 (by kernel_rfl) (by kernel_rfl) (e.mpr h)).mono fun _ _ he=> he.elim (fun ⟨_,he,hR⟩=> .inl ⟨he,hR⟩) .inr
def S39 (holds1 : Bool) (why2 : Int) (w : World) (R : World -> Prop) (PR : Value -> World -> Prop) : Prop :=
 Br (!holds1) (PR (.iface 106 (.agg #[.int .i64 why2])) w) (R w)
def pl39 : Plan := (.q (.cond (.reg .seq) .leaf))
theorem T39 (holds1 : Bool) (why2 : Int) (w : World) (R : World -> Prop) (PR : Value -> World -> Prop) (h : S39 holds1 why2 w R PR) : C39 holds1 why2 w R PR := by
 have e : fnT Tryz.prog ⟨FF,MAY,PR⟩ pl39 Tryz.f39 [.bool holds1,.int .i64 why2] w [] (fun _ w=> R w) = S39 holds1 why2 w R PR := by kernel_rfl
 exact (fn_callsP okF okM Tryz.func39 (by kernel_rfl) (by kernel_rfl) (e.mpr h)).mono fun _ _ he=> he.elim (fun ⟨_,he,hR⟩=> .inl ⟨he,hR⟩) .inr
def S56 (x1 : TyA30) (why2 : Int) (w : World) (R : (TyA30) -> World -> Prop) (PR : Value -> World -> Prop) : Prop :=
 Nw w (.cells (Sig.cells LiA30 x1).toArray 31) fun z3=>
 Nw z3 (.cells #[.int .i64 0,.int .i64 0,.int .i64 0,.int .i64 0,.int .i64 0,.int .i64 0,.int .i64 0,.int .i64 0,.int .i64 0,.int .i64 0,Slc.v ((⟨none,0,0⟩ : Slc)),.int .i64 0,.int .i64 0,.int .i64 0,.int .i64 0,.int .i64 0,.int .i64 0,.int .i64 0,.int .i64 0,.int .i64 0,.int .i64 0,.int .i64 0,.int .i64 0,.int .i64 0,.int .i64 0,.int .i64 0,.int .i64 0,.int .i64 0,.string (⟨#[]⟩ : ByteArray),.int .i64 0] 31) fun z4=>
 C39 (why2 == 0) why2 z4 (fun z5=>
  LdT z5 ⟨w.heap.size,0,none⟩ 0 LiA30 fun (x6 : TyA30)=>
  StT ⟨z3.heap.size,0,none⟩ 0 LiA30 x6 z5 fun z7=>
  LdT z7 ⟨z3.heap.size,0,none⟩ 0 LiA30 fun (x8 : TyA30)=>
  R x8 z7) PR
def pl56 : Plan := (.q (.q (.q .leaf)))
theorem T56 (x1 : TyA30) (why2 : Int) (w : World) (R : (TyA30) -> World -> Prop) (PR : Value -> World -> Prop) (h : S56 x1 why2 w R PR) : C56 x1 why2 w R PR := by
 have e : fnT Tryz.prog ⟨FF,MAY,PR⟩ pl56 Tryz.f56 [.agg (Sig.cells LiA30 x1).toArray,.int .i64 why2] w [(.agg [(.int .i64),(.int .i64),(.int .i64),(.int .i64),(.int .i64),(.int .i64),(.int .i64),(.int .i64),(.int .i64),(.int .i64),.slc,(.int .i64),(.int .i64),(.int .i64),(.int .i64),(.int .i64),(.int .i64),(.int .i64),(.int .i64),(.int .i64),(.int .i64),(.int .i64),(.int .i64),(.int .i64),(.int .i64),(.int .i64),(.int .i64),(.int .i64),.str,(.int .i64)])] (fun s w=> R s w) = S56 x1 why2 w R PR := by kernel_rfl
 exact (fn_callsP okF okM Tryz.func56 (by kernel_rfl) (by kernel_rfl) (e.mpr h)).mono fun _ _ he=> he.elim (fun ⟨s,he,hR⟩=> .inl ⟨s,he,hR⟩) .inr
def S58 (n1 : Int) (w : World) (R : Int -> World -> Prop) (PR : Value -> World -> Prop) : Prop :=
 Br (decide (n1 >= (-1073741824))) (C39 (decide (n1 <= 1073741824)) 2 w (fun z2=>
   R n1 z2) PR) (C39 false 2 w (fun z3=>
   R n1 z3) PR)
def pl58 : Plan := (.q (.q (.q .leaf)))
theorem T58 (n1 : Int) (w : World) (R : Int -> World -> Prop) (PR : Value -> World -> Prop) (h : S58 n1 w R PR) : C58 n1 w R PR := by
 have e : fnT Tryz.prog ⟨FF,MAY,PR⟩ pl58 Tryz.f58 [.int .i64 n1] w [(.one (.int .i64))] (fun s w=> R s w) = S58 n1 w R PR := by kernel_rfl
 exact (fn_callsP okF okM Tryz.func58 (by kernel_rfl) (by kernel_rfl) (e.mpr h)).mono fun _ _ he=> he.elim (fun ⟨s,he,hR⟩=> .inl ⟨s,he,hR⟩) .inr
def S31L1 (x18 : Int) (x19 : Int) (x20 : Int) (x21 : Int) (x22 : Int) (x23 : Int) (R : World -> Prop) (PR : Value -> World -> Prop) (I26 : Int -> World -> Prop) (s24 : Int) (z25 : World) : Prop :=
 Br (decide (s24 < 6)) (0 <= s24 /\ s24 < (6 : Nat) /\ ∃ x27 : Int,(#[.int .i64 x18,.int .i64 x19,.int .i64 x20,.int .i64 x21,.int .i64 x22,.int .i64 x23] : Array Value)[(s24).toNat * 1]? = some (.int .i64 x27) /\ C58 x27 z25 (fun r28 z29=>
   I26 (IntKind.i64.wrap (s24 + 1)) z29) PR) (R z25)
def S31 (g1 : TyA30) (w : World) (R : World -> Prop) (PR : Value -> World -> Prop) : Prop :=
 Nw w (.cells (Sig.cells LiA30 g1).toArray 31) fun z2=>
 ∃ vS3 : World -> Prop,vS3 z2.drew /\ LdST vS3 ⟨w.heap.size,0,none⟩ 0 LiA30 fun (x4 : TyA30)=>
 LdS vS3 ⟨w.heap.size,0,none⟩ (.int .i64) fun x5=>
 LdS vS3 (.add ⟨w.heap.size,0,none⟩ 1) (.int .i64) fun x6=>
 LdS vS3 (.add ⟨w.heap.size,0,none⟩ 2) (.int .i64) fun x7=>
 LdS vS3 (.add ⟨w.heap.size,0,none⟩ 3) (.int .i64) fun x8=>
 LdS vS3 (.add ⟨w.heap.size,0,none⟩ 4) (.int .i64) fun x9=>
 LdS vS3 (.add ⟨w.heap.size,0,none⟩ 5) (.int .i64) fun x10=>
 C57 (x5,x6,x7,x8,x9,x10) z2.drew fun r11 z12=>
  vS3 z12 /\ C56 x4 r11 z12 (fun r13 z14=>
   LdT z14 (.add ⟨w.heap.size,0,none⟩ 22) 0 LiA28 fun (x15 : TyA28)=>
   Nw z14 (.cells #[.int .i64 0,.int .i64 0,.int .i64 0,.int .i64 0,.int .i64 0,.int .i64 0,.string (⟨#[]⟩ : ByteArray),.int .i64 0] 29) fun z16=>
   StT ⟨z14.heap.size,0,none⟩ 0 LiA28 x15 z16 fun z17=>
   Ld z17 ⟨z14.heap.size,0,none⟩ (.int .i64) fun x18=>
   Ld z17 (.add ⟨z14.heap.size,0,none⟩ 1) (.int .i64) fun x19=>
   Ld z17 (.add ⟨z14.heap.size,0,none⟩ 2) (.int .i64) fun x20=>
   Ld z17 (.add ⟨z14.heap.size,0,none⟩ 3) (.int .i64) fun x21=>
   Ld z17 (.add ⟨z14.heap.size,0,none⟩ 4) (.int .i64) fun x22=>
   Ld z17 (.add ⟨z14.heap.size,0,none⟩ 5) (.int .i64) fun x23=>
   Lp (σ := Int) (S31L1 x18 x19 x20 x21 x22 x23 R PR) 0 z17) PR
def pl31 : Plan := (.q (.seq (.reg (.held [4] (.take 0 (.take 1 (.take 2 (.eff 3 none (.eff 4 (some []) .done))))))) (.q (.q (.block (.loop [(25,(.one (.int .i64)))] [24] (.q (.seq (.cond .leaf .leaf) (.seq (.block (.q (.reg .seq))) (.reg .seq))))))))))
theorem T31 (g1 : TyA30) (w : World) (R : World -> Prop) (PR : Value -> World -> Prop) (h : S31 g1 w R PR) : C31 g1 w R PR := by
 have e : fnT Tryz.prog ⟨FF,MAY,PR⟩ pl31 Tryz.f31 [.agg (Sig.cells LiA30 g1).toArray] w [] (fun _ w=> R w) = S31 g1 w R PR := by kernel_rfl
 exact (fn_callsP okF okM Tryz.func31 (by kernel_rfl) (by kernel_rfl) (e.mpr h)).mono fun _ _ he=> he.elim (fun ⟨_,he,hR⟩=> .inl ⟨he,hR⟩) .inr
def S32 (x1 : TyA34) (why2 : Int) (w : World) (R : (TyA34) -> World -> Prop) (PR : Value -> World -> Prop) : Prop :=
 Nw w (.cells (Sig.cells LiA34 x1).toArray 35) fun z3=>
 Nw z3 (.cells #[.string (⟨#[]⟩ : ByteArray),.bool false,.int .i64 0,Slc.v ((⟨none,0,0⟩ : Slc)),.int .i64 0,Slc.v ((⟨none,0,0⟩ : Slc)),Slc.v ((⟨none,0,0⟩ : Slc))] 35) fun z4=>
 C39 (why2 == 0) why2 z4 (fun z5=>
  LdT z5 ⟨w.heap.size,0,none⟩ 0 LiA34 fun (x6 : TyA34)=>
  StT ⟨z3.heap.size,0,none⟩ 0 LiA34 x6 z5 fun z7=>
  LdT z7 ⟨z3.heap.size,0,none⟩ 0 LiA34 fun (x8 : TyA34)=>
  R x8 z7) PR
def pl32 : Plan := (.q (.q (.q .leaf)))
theorem T32 (x1 : TyA34) (why2 : Int) (w : World) (R : (TyA34) -> World -> Prop) (PR : Value -> World -> Prop) (h : S32 x1 why2 w R PR) : C32 x1 why2 w R PR := by
 have e : fnT Tryz.prog ⟨FF,MAY,PR⟩ pl32 Tryz.f32 [.agg (Sig.cells LiA34 x1).toArray,.int .i64 why2] w [(.agg [.str,.bool,(.int .i64),.slc,(.int .i64),.slc,.slc])] (fun s w=> R s w) = S32 x1 why2 w R PR := by kernel_rfl
 exact (fn_callsP okF okM Tryz.func32 (by kernel_rfl) (by kernel_rfl) (e.mpr h)).mono fun _ _ he=> he.elim (fun ⟨s,he,hR⟩=> .inl ⟨s,he,hR⟩) .inr
def S89 (x1 : Int × Int × Int × Int × Int × Int) (why2 : Int) (w : World) (R : (Int × Int × Int × Int × Int × Int) -> World -> Prop) (PR : Value -> World -> Prop) : Prop :=
 Nw w (.cells #[.int .i64 (x1.1),.int .i64 (x1.2.1),.int .i64 (x1.2.2.1),.int .i64 (x1.2.2.2.1),.int .i64 (x1.2.2.2.2.1),.int .i64 (x1.2.2.2.2.2)] 24) fun z3=>
 Nw z3 (.cells #[.int .i64 0,.int .i64 0,.int .i64 0,.int .i64 0,.int .i64 0,.int .i64 0] 24) fun z4=>
 C39 (why2 == 0) why2 z4 (fun z5=>
  Ld z5 ⟨w.heap.size,0,none⟩ (.int .i64) fun x6=>
  Ld z5 (.add ⟨w.heap.size,0,none⟩ 1) (.int .i64) fun x7=>
  Ld z5 (.add ⟨w.heap.size,0,none⟩ 2) (.int .i64) fun x8=>
  Ld z5 (.add ⟨w.heap.size,0,none⟩ 3) (.int .i64) fun x9=>
  Ld z5 (.add ⟨w.heap.size,0,none⟩ 4) (.int .i64) fun x10=>
  Ld z5 (.add ⟨w.heap.size,0,none⟩ 5) (.int .i64) fun x11=>
  St z5 ⟨z3.heap.size,0,none⟩ (.int .i64 x6) fun z12=>
  St z12 (.add ⟨z3.heap.size,0,none⟩ 1) (.int .i64 x7) fun z13=>
  St z13 (.add ⟨z3.heap.size,0,none⟩ 2) (.int .i64 x8) fun z14=>
  St z14 (.add ⟨z3.heap.size,0,none⟩ 3) (.int .i64 x9) fun z15=>
  St z15 (.add ⟨z3.heap.size,0,none⟩ 4) (.int .i64 x10) fun z16=>
  St z16 (.add ⟨z3.heap.size,0,none⟩ 5) (.int .i64 x11) fun z17=>
  Ld z17 ⟨z3.heap.size,0,none⟩ (.int .i64) fun x18=>
  Ld z17 (.add ⟨z3.heap.size,0,none⟩ 1) (.int .i64) fun x19=>
  Ld z17 (.add ⟨z3.heap.size,0,none⟩ 2) (.int .i64) fun x20=>
  Ld z17 (.add ⟨z3.heap.size,0,none⟩ 3) (.int .i64) fun x21=>
  Ld z17 (.add ⟨z3.heap.size,0,none⟩ 4) (.int .i64) fun x22=>
  Ld z17 (.add ⟨z3.heap.size,0,none⟩ 5) (.int .i64) fun x23=>
  R (x18,x19,x20,x21,x22,x23) z17) PR
def pl89 : Plan := (.q (.q (.q .leaf)))
theorem T89 (x1 : Int × Int × Int × Int × Int × Int) (why2 : Int) (w : World) (R : (Int × Int × Int × Int × Int × Int) -> World -> Prop) (PR : Value -> World -> Prop) (h : S89 x1 why2 w R PR) : C89 (x1.1,x1.2.1,x1.2.2.1,x1.2.2.2.1,x1.2.2.2.2.1,x1.2.2.2.2.2) why2 w R PR := by
 have e : fnT Tryz.prog ⟨FF,MAY,PR⟩ pl89 Tryz.f89 [.agg #[.int .i64 (x1.1),.int .i64 (x1.2.1),.int .i64 (x1.2.2.1),.int .i64 (x1.2.2.2.1),.int .i64 (x1.2.2.2.2.1),.int .i64 (x1.2.2.2.2.2)],.int .i64 why2] w [(.agg [(.int .i64),(.int .i64),(.int .i64),(.int .i64),(.int .i64),(.int .i64)])] (fun s w=> R s w) = S89 x1 why2 w R PR := by kernel_rfl
 exact (fn_callsP okF okM Tryz.func89 (by kernel_rfl) (by kernel_rfl) (e.mpr h)).mono fun _ _ he=> he.elim (fun ⟨s,he,hR⟩=> .inl ⟨s,he,hR⟩) .inr
def S90 (x1 : Slc) (why2 : Int) (w : World) (R : Slc -> World -> Prop) (PR : Value -> World -> Prop) : Prop :=
 C39 (why2 == 0) why2 w (fun z3=>
  R x1 z3) PR
def pl90 : Plan := (.q (.q (.q .leaf)))
theorem T90 (x1 : Slc) (why2 : Int) (w : World) (R : Slc -> World -> Prop) (PR : Value -> World -> Prop) (h : S90 x1 why2 w R PR) : C90 x1 why2 w R PR := by
 have e : fnT Tryz.prog ⟨FF,MAY,PR⟩ pl90 Tryz.f90 [Slc.v x1,.int .i64 why2] w [(.one .slc)] (fun s w=> R s w) = S90 x1 why2 w R PR := by kernel_rfl
 exact (fn_callsP okF okM Tryz.func90 (by kernel_rfl) (by kernel_rfl) (e.mpr h)).mono fun _ _ he=> he.elim (fun ⟨s,he,hR⟩=> .inl ⟨s,he,hR⟩) .inr
def S62 (x1 : Int) (why2 : Int) (w : World) (R : Int -> World -> Prop) (PR : Value -> World -> Prop) : Prop :=
 C39 (why2 == 0) why2 w (fun z3=>
  R x1 z3) PR
def pl62 : Plan := (.q (.q (.q .leaf)))
theorem T62 (x1 : Int) (why2 : Int) (w : World) (R : Int -> World -> Prop) (PR : Value -> World -> Prop) (h : S62 x1 why2 w R PR) : C62 x1 why2 w R PR := by
 have e : fnT Tryz.prog ⟨FF,MAY,PR⟩ pl62 Tryz.f62 [.int .i64 x1,.int .i64 why2] w [(.one (.int .i64))] (fun s w=> R s w) = S62 x1 why2 w R PR := by kernel_rfl
 exact (fn_callsP okF okM Tryz.func62 (by kernel_rfl) (by kernel_rfl) (e.mpr h)).mono fun _ _ he=> he.elim (fun ⟨s,he,hR⟩=> .inl ⟨s,he,hR⟩) .inr
def S61 (h1 : TyA83) (n2 : Int) (w : World) (R : Int -> World -> Prop) (PR : Value -> World -> Prop) : Prop :=
 Nw w (.cells (Sig.cells LiA83 h1).toArray 84) fun z3=>
 Ld z3 (((⟨w.heap.size,0,none⟩ : Addr).add 22).add 2) (.int .i64) fun x4=>
 C100 (IntKind.i64.wrap (n2 * x4)) 1000000 z3 fun r5 r6 z7=>
  C62 r5 r6 z7 (fun r8 z9=>
   C58 r8 z9 (fun r10 z11=>
    R r10 z11) PR) PR
def pl61 : Plan := (.q (.q .leaf))
theorem T61 (h1 : TyA83) (n2 : Int) (w : World) (R : Int -> World -> Prop) (PR : Value -> World -> Prop) (h : S61 h1 n2 w R PR) : C61 h1 n2 w R PR := by
 have e : fnT Tryz.prog ⟨FF,MAY,PR⟩ pl61 Tryz.f61 [.agg (Sig.cells LiA83 h1).toArray,.int .i64 n2] w [(.one (.int .i64))] (fun s w=> R s w) = S61 h1 n2 w R PR := by kernel_rfl
 exact (fn_callsP okF okM Tryz.func61 (by kernel_rfl) (by kernel_rfl) (e.mpr h)).mono fun _ _ he=> he.elim (fun ⟨s,he,hR⟩=> .inl ⟨s,he,hR⟩) .inr
def S34 (h1 : TyA83) (code2 : Int) (z3 : Int) (w : World) (R : Int -> World -> Prop) (PR : Value -> World -> Prop) : Prop :=
 Nw w (.cells (Sig.cells LiA83 h1).toArray 84) fun z4=>
 Ld z4 (.add ⟨w.heap.size,0,none⟩ 22) (.int .i64) fun x5=>
 Nw z4 (.cells #[.int .i64 z3,.int .i64 x5] 2) fun z6=>
 Br (code2 == 32) (Ld z6 (((⟨w.heap.size,0,none⟩ : Addr).add 30).add 1) Value.bool fun (x12 : Bool)=>
  Br (!x12) (Ld z6 (((⟨w.heap.size,0,none⟩ : Addr).add 22).add 1) (.int .i64) fun x13=>
   Nw z6 (.cells #[.int .i64 x13] 2) fun z14=>
   Rn Tryz.prog (Builtin.append_ #[25,25] 25 #[Slc.v ((⟨some ⟨z4.heap.size,0,none⟩,2,2⟩ : Slc)),Slc.v ((⟨some ⟨z6.heap.size,0,none⟩,1,1⟩ : Slc))]) z14 Slc.v fun (x15 : Slc) z16=>
   ∃ vS17 : World -> Prop,vS17 z16.drew /\ LdST vS17 ⟨w.heap.size,0,none⟩ 0 LiA83 fun (x18 : TyA83)=>
   C63 x15 z16.drew fun r19 r20 z21=>
    vS17 z21 /\ C62 r19 r20 z21 (fun r22 z23=>
     vS17 z23 /\ C61 x18 r22 z23 (fun r24 z25=>
      R r24 z25) PR) PR) (∃ vS26 : World -> Prop,vS26 z6.drew /\ LdST vS26 ⟨w.heap.size,0,none⟩ 0 LiA83 fun (x27 : TyA83)=>
   C63 (⟨some ⟨z4.heap.size,0,none⟩,2,2⟩ : Slc) z6.drew fun r28 r29 z30=>
    vS26 z30 /\ C62 r28 r29 z30 (fun r31 z32=>
     vS26 z32 /\ C61 x27 r31 z32 (fun r33 z34=>
      R r33 z34) PR) PR)) (∃ vS35 : World -> Prop,vS35 z6.drew /\ LdST vS35 ⟨w.heap.size,0,none⟩ 0 LiA83 fun (x36 : TyA83)=>
  C63 (⟨some ⟨z4.heap.size,0,none⟩,2,2⟩ : Slc) z6.drew fun r37 r38 z39=>
   vS35 z39 /\ C62 r37 r38 z39 (fun r40 z41=>
    vS35 z41 /\ C61 x36 r40 z41 (fun r42 z43=>
     R r42 z43) PR) PR)
def pl34 : Plan := (.q (.q (.seq (.q (.cond (.reg .seq) .leaf)) (.seq (.reg (.held [6] (.take 0 (.take 1 (.eff 2 none (.take 3 (.take 4 (.eff 5 none (.eff 6 (some []) (.take 7 .done)))))))))) .leaf))))
theorem T34 (h1 : TyA83) (code2 : Int) (z3 : Int) (w : World) (R : Int -> World -> Prop) (PR : Value -> World -> Prop) (h : S34 h1 code2 z3 w R PR) : C34 h1 code2 z3 w R PR := by
 have e : fnT Tryz.prog ⟨FF,MAY,PR⟩ pl34 Tryz.f34 [.agg (Sig.cells LiA83 h1).toArray,.int .i64 code2,.int .i64 z3] w [(.one (.int .i64))] (fun s w=> R s w) = S34 h1 code2 z3 w R PR := by kernel_rfl
 exact (fn_callsP okF okM Tryz.func34 (by kernel_rfl) (by kernel_rfl) (e.mpr h)).mono fun _ _ he=> he.elim (fun ⟨s,he,hR⟩=> .inl ⟨s,he,hR⟩) .inr
def S35 (h1 : TyA83) (code2 : Int) (w : World) (R : Int -> World -> Prop) (PR : Value -> World -> Prop) : Prop :=
 Nw w (.cells (Sig.cells LiA83 h1).toArray 84) fun z3=>
 ∃ vS4 : World -> Prop,vS4 z3.drew /\ LdS vS4 (((⟨w.heap.size,0,none⟩ : Addr).add 22).add 4) (.int .i64) fun x5=>
 LdST vS4 (.add ⟨w.heap.size,0,none⟩ 30) 0 LiA34 fun (x6 : TyA34)=>
 C65 x6 code2 z3.drew fun r7 z8=>
  vS4 z8 /\ C64 x5 (IntKind.i64.wrap (10 * r7)) z8 fun r9 r10 z11=>
   C62 r9 r10 z11 (fun r12 z13=>
    R r12 z13) PR
def pl35 : Plan := (.q (.seq (.reg (.held [9] (.take 0 (.take 1 (.take 2 (.take 3 (.take 4 (.take 5 (.take 6 (.eff 7 none (.take 8 (.eff 9 (some [12]) (.take 10 (.take 11 (.eff 12 (some []) (.take 13 .done)))))))))))))))) .leaf))
theorem T35 (h1 : TyA83) (code2 : Int) (w : World) (R : Int -> World -> Prop) (PR : Value -> World -> Prop) (h : S35 h1 code2 w R PR) : C35 h1 code2 w R PR := by
 have e : fnT Tryz.prog ⟨FF,MAY,PR⟩ pl35 Tryz.f35 [.agg (Sig.cells LiA83 h1).toArray,.int .i64 code2] w [(.one (.int .i64))] (fun s w=> R s w) = S35 h1 code2 w R PR := by kernel_rfl
 exact (fn_callsP okF okM Tryz.func35 (by kernel_rfl) (by kernel_rfl) (e.mpr h)).mono fun _ _ he=> he.elim (fun ⟨s,he,hR⟩=> .inl ⟨s,he,hR⟩) .inr
def S121 (x1 : Int × Int) (why2 : Int) (w : World) (R : (Int × Int) -> World -> Prop) (PR : Value -> World -> Prop) : Prop :=
 Nw w (.cells #[.int .i64 (x1.1),.int .i64 (x1.2)] 68) fun z3=>
 Nw z3 (.cells #[.int .i64 0,.int .i64 0] 68) fun z4=>
 C39 (why2 == 0) why2 z4 (fun z5=>
  Ld z5 ⟨w.heap.size,0,none⟩ (.int .i64) fun x6=>
  Ld z5 (.add ⟨w.heap.size,0,none⟩ 1) (.int .i64) fun x7=>
  St z5 ⟨z3.heap.size,0,none⟩ (.int .i64 x6) fun z8=>
  St z8 (.add ⟨z3.heap.size,0,none⟩ 1) (.int .i64 x7) fun z9=>
  Ld z9 ⟨z3.heap.size,0,none⟩ (.int .i64) fun x10=>
  Ld z9 (.add ⟨z3.heap.size,0,none⟩ 1) (.int .i64) fun x11=>
  R (x10,x11) z9) PR
def pl121 : Plan := (.q (.q (.q .leaf)))
theorem T121 (x1 : Int × Int) (why2 : Int) (w : World) (R : (Int × Int) -> World -> Prop) (PR : Value -> World -> Prop) (h : S121 x1 why2 w R PR) : C121 (x1.1,x1.2) why2 w R PR := by
 have e : fnT Tryz.prog ⟨FF,MAY,PR⟩ pl121 Tryz.f121 [.agg #[.int .i64 (x1.1),.int .i64 (x1.2)],.int .i64 why2] w [(.agg [(.int .i64),(.int .i64)])] (fun s w=> R s w) = S121 x1 why2 w R PR := by kernel_rfl
 exact (fn_callsP okF okM Tryz.func121 (by kernel_rfl) (by kernel_rfl) (e.mpr h)).mono fun _ _ he=> he.elim (fun ⟨s,he,hR⟩=> .inl ⟨s,he,hR⟩) .inr
def S92J1 (w : World) (code3 : Int) (z4 : World) (z5 : World) (z6 : World) (r36 : Int) (R : (TyA69) -> (Int × Int × Int × Int × Int × Int) -> World -> Prop) (PR : Value -> World -> Prop) (s167 : Addr) (z168 : World) : Prop :=
 ∃ vS169 : World -> Prop,vS169 z168.drew /\ LdST vS169 s167 0 LiA69 fun (x170 : TyA69)=>
 LdST vS169 ⟨w.heap.size,0,none⟩ 0 LiA83 fun (x171 : TyA83)=>
 LdS vS169 ⟨z4.heap.size,0,none⟩ (.int .i64) fun x172=>
 LdS vS169 (.add ⟨z4.heap.size,0,none⟩ 1) (.int .i64) fun x173=>
 LdS vS169 (.add ⟨z4.heap.size,0,none⟩ 2) (.int .i64) fun x174=>
 LdS vS169 (.add ⟨z4.heap.size,0,none⟩ 3) (.int .i64) fun x175=>
 LdS vS169 (.add ⟨z4.heap.size,0,none⟩ 4) (.int .i64) fun x176=>
 LdS vS169 (.add ⟨z4.heap.size,0,none⟩ 5) (.int .i64) fun x177=>
 C34 x171 code3 r36 z168.drew (fun r178 z179=>
  vS169 z179 /\ C116 r178 0 z179 fun r180 z181=>
   vS169 z181 /\ C115 (r180.1,r180.2.1,r180.2.2.1,r180.2.2.2.1,r180.2.2.2.2.1,r180.2.2.2.2.2) (x172,x173,x174,x175,x176,x177) z181 fun r182 r183 z184=>
    vS169 z184 /\ C89 (r182.1,r182.2.1,r182.2.2.1,r182.2.2.2.1,r182.2.2.2.2.1,r182.2.2.2.2.2) r183 z184 (fun r185 z186=>
     vS169 z186 /\ StT ⟨z5.heap.size,0,none⟩ 0 LiA69 x170 z186 fun z187=>
     St z187 ⟨z6.heap.size,0,none⟩ (.int .i64 (r185.1)) fun z188=>
     St z188 (.add ⟨z6.heap.size,0,none⟩ 1) (.int .i64 (r185.2.1)) fun z189=>
     St z189 (.add ⟨z6.heap.size,0,none⟩ 2) (.int .i64 (r185.2.2.1)) fun z190=>
     St z190 (.add ⟨z6.heap.size,0,none⟩ 3) (.int .i64 (r185.2.2.2.1)) fun z191=>
     St z191 (.add ⟨z6.heap.size,0,none⟩ 4) (.int .i64 (r185.2.2.2.2.1)) fun z192=>
     St z192 (.add ⟨z6.heap.size,0,none⟩ 5) (.int .i64 (r185.2.2.2.2.2)) fun z193=>
     LdT z193 ⟨z5.heap.size,0,none⟩ 0 LiA69 fun (x194 : TyA69)=>
     Ld z193 ⟨z6.heap.size,0,none⟩ (.int .i64) fun x195=>
     Ld z193 (.add ⟨z6.heap.size,0,none⟩ 1) (.int .i64) fun x196=>
     Ld z193 (.add ⟨z6.heap.size,0,none⟩ 2) (.int .i64) fun x197=>
     Ld z193 (.add ⟨z6.heap.size,0,none⟩ 3) (.int .i64) fun x198=>
     Ld z193 (.add ⟨z6.heap.size,0,none⟩ 4) (.int .i64) fun x199=>
     Ld z193 (.add ⟨z6.heap.size,0,none⟩ 5) (.int .i64) fun x200=>
     R x194 (x195,x196,x197,x198,x199,x200) z193) PR) PR
def S92 (h1 : TyA83) (m2 : Int × Int × Int × Int × Int × Int) (code3 : Int) (w : World) (R : (TyA69) -> (Int × Int × Int × Int × Int × Int) -> World -> Prop) (PR : Value -> World -> Prop) : Prop :=
 Nw w (.cells (Sig.cells LiA83 h1).toArray 84) fun z4=>
 Nw z4 (.cells #[.int .i64 (m2.1),.int .i64 (m2.2.1),.int .i64 (m2.2.2.1),.int .i64 (m2.2.2.2.1),.int .i64 (m2.2.2.2.2.1),.int .i64 (m2.2.2.2.2.2)] 24) fun z5=>
 Nw z5 (.cells #[.int .i64 0,.string (⟨#[]⟩ : ByteArray),.int .i64 0,.int .i64 0,.int .i64 0,.int .i64 0,.int .i64 0,.string (⟨#[]⟩ : ByteArray),.int .i64 0] 70) fun z6=>
 Nw z6 (.cells #[.int .i64 0,.int .i64 0,.int .i64 0,.int .i64 0,.int .i64 0,.int .i64 0] 24) fun z7=>
 LdT z7 (.add ⟨w.heap.size,0,none⟩ 22) 0 LiA28 fun (x8 : TyA28)=>
 Nw z7 (.cells #[.int .i64 0,.int .i64 0,.int .i64 0,.int .i64 0,.int .i64 0,.int .i64 0,.string (⟨#[]⟩ : ByteArray),.int .i64 0] 29) fun z9=>
 StT ⟨z7.heap.size,0,none⟩ 0 LiA28 x8 z9 fun z10=>
 Ld z10 ⟨z4.heap.size,0,none⟩ (.int .i64) fun x11=>
 Ld z10 (.add ⟨z4.heap.size,0,none⟩ 1) (.int .i64) fun x12=>
 Ld z10 (.add ⟨z4.heap.size,0,none⟩ 2) (.int .i64) fun x13=>
 Ld z10 (.add ⟨z4.heap.size,0,none⟩ 3) (.int .i64) fun x14=>
 Ld z10 (.add ⟨z4.heap.size,0,none⟩ 4) (.int .i64) fun x15=>
 Ld z10 (.add ⟨z4.heap.size,0,none⟩ 5) (.int .i64) fun x16=>
 Ld z10 ⟨w.heap.size,0,none⟩ (.int .i64) fun x17=>
 Ld z10 (.add ⟨w.heap.size,0,none⟩ 1) (.int .i64) fun x18=>
 Ld z10 (.add ⟨w.heap.size,0,none⟩ 2) (.int .i64) fun x19=>
 Ld z10 (.add ⟨w.heap.size,0,none⟩ 3) (.int .i64) fun x20=>
 Ld z10 (.add ⟨w.heap.size,0,none⟩ 4) (.int .i64) fun x21=>
 Ld z10 (.add ⟨w.heap.size,0,none⟩ 5) (.int .i64) fun x22=>
 C115 (x11,x12,x13,x14,x15,x16) (x17,x18,x19,x20,x21,x22) z10 fun r23 r24 z25=>
  C89 (r23.1,r23.2.1,r23.2.2.1,r23.2.2.2.1,r23.2.2.2.2.1,r23.2.2.2.2.2) r24 z25 (fun r26 z27=>
   Nw z27 (.cells #[.int .i64 0,.int .i64 0,.int .i64 0,.int .i64 0,.int .i64 0,.int .i64 0] 24) fun z28=>
   St z28 ⟨z27.heap.size,0,none⟩ (.int .i64 (r26.1)) fun z29=>
   St z29 (.add ⟨z27.heap.size,0,none⟩ 1) (.int .i64 (r26.2.1)) fun z30=>
   St z30 (.add ⟨z27.heap.size,0,none⟩ 2) (.int .i64 (r26.2.2.1)) fun z31=>
   St z31 (.add ⟨z27.heap.size,0,none⟩ 3) (.int .i64 (r26.2.2.2.1)) fun z32=>
   St z32 (.add ⟨z27.heap.size,0,none⟩ 4) (.int .i64 (r26.2.2.2.2.1)) fun z33=>
   St z33 (.add ⟨z27.heap.size,0,none⟩ 5) (.int .i64 (r26.2.2.2.2.2)) fun z34=>
   LdT z34 ⟨w.heap.size,0,none⟩ 0 LiA83 fun (x35 : TyA83)=>
   C35 x35 code3 z34 (fun r36 z37=>
    LdT z37 ⟨w.heap.size,0,none⟩ 0 LiA83 fun (x38 : TyA83)=>
    C61 x38 r36 z37 (fun r39 z40=>
     Join (S92J1 w code3 z4 z5 z6 r36 R PR) fun (vJ201 : Addr -> World -> Prop)=>
      ∃ vS202 : World -> Prop,vS202 z40.drew /\ LdST vS202 (.add ⟨w.heap.size,0,none⟩ 30) 0 LiA34 fun (x203 : TyA34)=>
      LdS vS202 ⟨z27.heap.size,0,none⟩ (.int .i64) fun x204=>
      LdS vS202 (.add ⟨z27.heap.size,0,none⟩ 1) (.int .i64) fun x205=>
      LdS vS202 (.add ⟨z27.heap.size,0,none⟩ 2) (.int .i64) fun x206=>
      LdS vS202 (.add ⟨z27.heap.size,0,none⟩ 3) (.int .i64) fun x207=>
      LdS vS202 (.add ⟨z27.heap.size,0,none⟩ 4) (.int .i64) fun x208=>
      LdS vS202 (.add ⟨z27.heap.size,0,none⟩ 5) (.int .i64) fun x209=>
      LdS vS202 (.add ⟨z7.heap.size,0,none⟩ 5) (.int .i64) fun x210=>
      LdS vS202 ⟨z27.heap.size,0,none⟩ (.int .i64) fun x211=>
      LdS vS202 (.add ⟨z27.heap.size,0,none⟩ 1) (.int .i64) fun x212=>
      LdS vS202 (.add ⟨z27.heap.size,0,none⟩ 2) (.int .i64) fun x213=>
      LdS vS202 (.add ⟨z27.heap.size,0,none⟩ 3) (.int .i64) fun x214=>
      LdS vS202 (.add ⟨z27.heap.size,0,none⟩ 4) (.int .i64) fun x215=>
      LdS vS202 (.add ⟨z27.heap.size,0,none⟩ 5) (.int .i64) fun x216=>
      LdS vS202 (.add ⟨z7.heap.size,0,none⟩ 5) (.int .i64) fun x217=>
      LdS vS202 ⟨z27.heap.size,0,none⟩ (.int .i64) fun x218=>
      LdS vS202 (.add ⟨z27.heap.size,0,none⟩ 1) (.int .i64) fun x219=>
      LdS vS202 (.add ⟨z27.heap.size,0,none⟩ 2) (.int .i64) fun x220=>
      LdS vS202 (.add ⟨z27.heap.size,0,none⟩ 3) (.int .i64) fun x221=>
      LdS vS202 (.add ⟨z27.heap.size,0,none⟩ 4) (.int .i64) fun x222=>
      LdS vS202 (.add ⟨z27.heap.size,0,none⟩ 5) (.int .i64) fun x223=>
      LdS vS202 (.add ⟨z7.heap.size,0,none⟩ 4) (.int .i64) fun x224=>
      LdS vS202 (.add ⟨z7.heap.size,0,none⟩ 6) .string fun x225=>
      LdS vS202 (.add ⟨z7.heap.size,0,none⟩ 7) (.int .i64) fun x226=>
      (C120 x203 code3 z40.drew fun r227 z228=>
        vS202 z228 /\ (C122 (x204,x205,x206,x207,x208,x209) (0,x210) z228 fun r229 r230 z231=>
          vS202 z231 /\ (C121 (r229.1,r229.2) r230 z231 (fun r232 z233=>
            vS202 z233 /\ (C122 (x211,x212,x213,x214,x215,x216) (r39,x217) z233 fun r234 r235 z236=>
              vS202 z236 /\ (C121 (r234.1,r234.2) r235 z236 (fun r237 z238=>
                vS202 z238 /\ (C123 (x218,x219,x220,x221,x222,x223) (0,x224) z238 fun r239 r240 z241=>
                  vS202 z241 /\ (C62 r239 r240 z241 (fun r242 z243=>
                    vS202 z243 /\ Nw z243 (.cells #[.int .i64 0,.string (⟨#[]⟩ : ByteArray),.int .i64 0,.int .i64 0,.int .i64 0,.int .i64 0,.int .i64 0,.string (⟨#[]⟩ : ByteArray),.int .i64 0] 70) fun z244=>
                    vS202 z244 /\ StT ⟨z243.heap.size,0,none⟩ 0 LiA69 ((code3,r227,r232.1,r232.2,r237.1,r237.2,r242,x225,x226) : TyA69) z244 fun z245=>
                    vJ201 ⟨z243.heap.size,0,none⟩ z245) PR) /\
                  (Nw z241 (.cells #[.int .i64 0,.string (⟨#[]⟩ : ByteArray),.int .i64 0,.int .i64 0,.int .i64 0,.int .i64 0,.int .i64 0,.string (⟨#[]⟩ : ByteArray),.int .i64 0] 70) fun z246=>
                   vS202 z246 /\ C62 r239 r240 z246 (fun r247 z248=>
                    vS202 z248 /\ StT ⟨z241.heap.size,0,none⟩ 0 LiA69 ((code3,r227,r232.1,r232.2,r237.1,r237.2,r247,x225,x226) : TyA69) z248 fun z249=>
                    vJ201 ⟨z241.heap.size,0,none⟩ z249) PR)) /\
                (Nw z238 (.cells #[.int .i64 0,.string (⟨#[]⟩ : ByteArray),.int .i64 0,.int .i64 0,.int .i64 0,.int .i64 0,.int .i64 0,.string (⟨#[]⟩ : ByteArray),.int .i64 0] 70) fun z250=>
                 vS202 z250 /\ C123 (x218,x219,x220,x221,x222,x223) (0,x224) z250 fun r251 r252 z253=>
                  vS202 z253 /\ C62 r251 r252 z253 (fun r254 z255=>
                   vS202 z255 /\ StT ⟨z238.heap.size,0,none⟩ 0 LiA69 ((code3,r227,r232.1,r232.2,r237.1,r237.2,r254,x225,x226) : TyA69) z255 fun z256=>
                   vJ201 ⟨z238.heap.size,0,none⟩ z256) PR)) PR) /\
              (Nw z236 (.cells #[.int .i64 0,.string (⟨#[]⟩ : ByteArray),.int .i64 0,.int .i64 0,.int .i64 0,.int .i64 0,.int .i64 0,.string (⟨#[]⟩ : ByteArray),.int .i64 0] 70) fun z257=>
               vS202 z257 /\ C121 (r234.1,r234.2) r235 z257 (fun r258 z259=>
                vS202 z259 /\ C123 (x218,x219,x220,x221,x222,x223) (0,x224) z259 fun r260 r261 z262=>
                 vS202 z262 /\ C62 r260 r261 z262 (fun r263 z264=>
                  vS202 z264 /\ StT ⟨z236.heap.size,0,none⟩ 0 LiA69 ((code3,r227,r232.1,r232.2,r258.1,r258.2,r263,x225,x226) : TyA69) z264 fun z265=>
                  vJ201 ⟨z236.heap.size,0,none⟩ z265) PR) PR)) /\
            (Nw z233 (.cells #[.int .i64 0,.string (⟨#[]⟩ : ByteArray),.int .i64 0,.int .i64 0,.int .i64 0,.int .i64 0,.int .i64 0,.string (⟨#[]⟩ : ByteArray),.int .i64 0] 70) fun z266=>
             vS202 z266 /\ C122 (x211,x212,x213,x214,x215,x216) (r39,x217) z266 fun r267 r268 z269=>
              vS202 z269 /\ C121 (r267.1,r267.2) r268 z269 (fun r270 z271=>
               vS202 z271 /\ C123 (x218,x219,x220,x221,x222,x223) (0,x224) z271 fun r272 r273 z274=>
                vS202 z274 /\ C62 r272 r273 z274 (fun r275 z276=>
                 vS202 z276 /\ StT ⟨z233.heap.size,0,none⟩ 0 LiA69 ((code3,r227,r232.1,r232.2,r270.1,r270.2,r275,x225,x226) : TyA69) z276 fun z277=>
                 vJ201 ⟨z233.heap.size,0,none⟩ z277) PR) PR)) PR) /\
          (Nw z231 (.cells #[.int .i64 0,.string (⟨#[]⟩ : ByteArray),.int .i64 0,.int .i64 0,.int .i64 0,.int .i64 0,.int .i64 0,.string (⟨#[]⟩ : ByteArray),.int .i64 0] 70) fun z278=>
           vS202 z278 /\ C121 (r229.1,r229.2) r230 z278 (fun r279 z280=>
            vS202 z280 /\ C122 (x211,x212,x213,x214,x215,x216) (r39,x217) z280 fun r281 r282 z283=>
             vS202 z283 /\ C121 (r281.1,r281.2) r282 z283 (fun r284 z285=>
              vS202 z285 /\ C123 (x218,x219,x220,x221,x222,x223) (0,x224) z285 fun r286 r287 z288=>
               vS202 z288 /\ C62 r286 r287 z288 (fun r289 z290=>
                vS202 z290 /\ StT ⟨z231.heap.size,0,none⟩ 0 LiA69 ((code3,r227,r279.1,r279.2,r284.1,r284.2,r289,x225,x226) : TyA69) z290 fun z291=>
                vJ201 ⟨z231.heap.size,0,none⟩ z291) PR) PR) PR)) /\
        (Nw z228 (.cells #[.int .i64 0,.string (⟨#[]⟩ : ByteArray),.int .i64 0,.int .i64 0,.int .i64 0,.int .i64 0,.int .i64 0,.string (⟨#[]⟩ : ByteArray),.int .i64 0] 70) fun z292=>
         vS202 z292 /\ C122 (x204,x205,x206,x207,x208,x209) (0,x210) z292 fun r293 r294 z295=>
          vS202 z295 /\ C121 (r293.1,r293.2) r294 z295 (fun r296 z297=>
           vS202 z297 /\ C122 (x211,x212,x213,x214,x215,x216) (r39,x217) z297 fun r298 r299 z300=>
            vS202 z300 /\ C121 (r298.1,r298.2) r299 z300 (fun r301 z302=>
             vS202 z302 /\ C123 (x218,x219,x220,x221,x222,x223) (0,x224) z302 fun r303 r304 z305=>
              vS202 z305 /\ C62 r303 r304 z305 (fun r306 z307=>
               vS202 z307 /\ StT ⟨z228.heap.size,0,none⟩ 0 LiA69 ((code3,r227,r296.1,r296.2,r301.1,r301.2,r306,x225,x226) : TyA69) z307 fun z308=>
               vJ201 ⟨z228.heap.size,0,none⟩ z308) PR) PR) PR)) /\
      (Nw z40.drew (.cells #[.int .i64 0,.string (⟨#[]⟩ : ByteArray),.int .i64 0,.int .i64 0,.int .i64 0,.int .i64 0,.int .i64 0,.string (⟨#[]⟩ : ByteArray),.int .i64 0] 70) fun z309=>
       vS202 z309 /\ C120 x203 code3 z309 fun r310 z311=>
        vS202 z311 /\ C122 (x204,x205,x206,x207,x208,x209) (0,x210) z311 fun r312 r313 z314=>
         vS202 z314 /\ C121 (r312.1,r312.2) r313 z314 (fun r315 z316=>
          vS202 z316 /\ C122 (x211,x212,x213,x214,x215,x216) (r39,x217) z316 fun r317 r318 z319=>
           vS202 z319 /\ C121 (r317.1,r317.2) r318 z319 (fun r320 z321=>
            vS202 z321 /\ C123 (x218,x219,x220,x221,x222,x223) (0,x224) z321 fun r322 r323 z324=>
             vS202 z324 /\ C62 r322 r323 z324 (fun r325 z326=>
              vS202 z326 /\ StT ⟨z40.drew.heap.size,0,none⟩ 0 LiA69 ((code3,r310,r315.1,r315.2,r320.1,r320.2,r325,x225,x226) : TyA69) z326 fun z327=>
              vJ201 ⟨z40.drew.heap.size,0,none⟩ z327) PR) PR) PR)) PR) PR) PR
def pl92 : Plan := (.q (.q (.q (.q (.q (.join [(12,(.one .addr))] [2,3,4,6,7,10] (.reg (.held [36] (.take 0 (.take 1 (.take 2 (.take 3 (.take 5 (.take 6 (.take 7 (.take 8 (.take 13 (.take 14 (.take 15 (.take 16 (.take 17 (.take 22 (.take 23 (.take 24 (.take 25 (.take 30 (.take 31 (.take 32 (.take 33 (.effs 4 none (.effs 9 none (.take 10 (.take 11 (.effs 12 none (.effs 18 none (.take 19 (.take 20 (.effs 21 none (.effs 26 none (.take 27 (.take 28 (.effs 29 none (.take 34 (.eff 35 none (.eff 36 (some []) .done))) (.eff 35 none (.eff 29 none (.take 34 (.eff 36 (some []) .done))))))) (.eff 35 none (.eff 26 none (.take 27 (.take 28 (.eff 29 none (.take 34 (.eff 36 (some []) .done)))))))) (.eff 35 none (.eff 21 none (.eff 26 none (.take 27 (.take 28 (.eff 29 none (.take 34 (.eff 36 (some []) .done))))))))))) (.eff 35 none (.eff 18 none (.take 19 (.take 20 (.eff 21 none (.eff 26 none (.take 27 (.take 28 (.eff 29 none (.take 34 (.eff 36 (some []) .done)))))))))))) (.eff 35 none (.eff 12 none (.eff 18 none (.take 19 (.take 20 (.eff 21 none (.eff 26 none (.take 27 (.take 28 (.eff 29 none (.take 34 (.eff 36 (some []) .done))))))))))))))) (.eff 35 none (.eff 9 none (.take 10 (.take 11 (.eff 12 none (.eff 18 none (.take 19 (.take 20 (.eff 21 none (.eff 26 none (.take 27 (.take 28 (.eff 29 none (.take 34 (.eff 36 (some []) .done)))))))))))))))) (.eff 35 none (.eff 4 none (.eff 9 none (.take 10 (.take 11 (.eff 12 none (.eff 18 none (.take 19 (.take 20 (.eff 21 none (.eff 26 none (.take 27 (.take 28 (.eff 29 none (.take 34 (.eff 36 (some []) .done)))))))))))))))))))))))))))))))))))))))) (.seq (.reg (.held [11] (.take 0 (.take 1 (.take 2 (.take 3 (.take 6 (.eff 4 none (.eff 5 none (.eff 7 none (.take 8 (.take 9 (.eff 10 none (.eff 11 (some [12]) (.eff 12 (some []) .done))))))))))))))) .leaf)))))))
theorem T92 (h1 : TyA83) (m2 : Int × Int × Int × Int × Int × Int) (code3 : Int) (w : World) (R : (TyA69) -> (Int × Int × Int × Int × Int × Int) -> World -> Prop) (PR : Value -> World -> Prop) (h : S92 h1 m2 code3 w R PR) : C92 h1 (m2.1,m2.2.1,m2.2.2.1,m2.2.2.2.1,m2.2.2.2.2.1,m2.2.2.2.2.2) code3 w R PR := by
 have e : fnT Tryz.prog ⟨FF,MAY,PR⟩ pl92 Tryz.f92 [.agg (Sig.cells LiA83 h1).toArray,.agg #[.int .i64 (m2.1),.int .i64 (m2.2.1),.int .i64 (m2.2.2.1),.int .i64 (m2.2.2.2.1),.int .i64 (m2.2.2.2.2.1),.int .i64 (m2.2.2.2.2.2)],.int .i64 code3] w [(.agg [(.int .i64),.str,(.int .i64),(.int .i64),(.int .i64),(.int .i64),(.int .i64),.str,(.int .i64)]),(.agg [(.int .i64),(.int .i64),(.int .i64),(.int .i64),(.int .i64),(.int .i64)])] (fun s w=> R s.1 s.2 w) = S92 h1 m2 code3 w R PR := by kernel_rfl
 exact (fn_callsP okF okM Tryz.func92 (by kernel_rfl) (by kernel_rfl) (e.mpr h)).mono fun _ _ he=> he.elim (fun ⟨s,he,hR⟩=> .inl ⟨s.1,s.2,he,hR⟩) .inr
def S55L1 (w : World) (z4 : World) (z5 : World) (r37 : Slc) (R : Slc -> (Int × Int × Int × Int × Int × Int) -> World -> Prop) (PR : Value -> World -> Prop) (I42 : (Slc × Int) -> World -> Prop) (s40 : Slc × Int) (z41 : World) : Prop :=
 Br (decide (s40.2 < ((r37.len : Nat) : Int))) (0 <= s40.2 /\ s40.2 < (r37.len : Nat) /\ Nn r37.p fun a43=>
  Ld z41 (a43.add ((s40.2).toNat * 1)) (.int .i64) fun x44=>
  LdT z41 ⟨w.heap.size,0,none⟩ 0 LiA83 fun (x45 : TyA83)=>
  Ld z41 ⟨z4.heap.size,0,none⟩ (.int .i64) fun x46=>
  Ld z41 (.add ⟨z4.heap.size,0,none⟩ 1) (.int .i64) fun x47=>
  Ld z41 (.add ⟨z4.heap.size,0,none⟩ 2) (.int .i64) fun x48=>
  Ld z41 (.add ⟨z4.heap.size,0,none⟩ 3) (.int .i64) fun x49=>
  Ld z41 (.add ⟨z4.heap.size,0,none⟩ 4) (.int .i64) fun x50=>
  Ld z41 (.add ⟨z4.heap.size,0,none⟩ 5) (.int .i64) fun x51=>
  C92 x45 (x46,x47,x48,x49,x50,x51) x44 z41 (fun r52 r53 z54=>
   Nw z54 (.cells #[.int .i64 0,.string (⟨#[]⟩ : ByteArray),.int .i64 0,.int .i64 0,.int .i64 0,.int .i64 0,.int .i64 0,.string (⟨#[]⟩ : ByteArray),.int .i64 0] 70) fun z55=>
   Nw z55 (.cells #[.int .i64 0,.int .i64 0,.int .i64 0,.int .i64 0,.int .i64 0,.int .i64 0] 24) fun z56=>
   StT ⟨z54.heap.size,0,none⟩ 0 LiA69 r52 z56 fun z57=>
   St z57 ⟨z55.heap.size,0,none⟩ (.int .i64 (r53.1)) fun z58=>
   St z58 (.add ⟨z55.heap.size,0,none⟩ 1) (.int .i64 (r53.2.1)) fun z59=>
   St z59 (.add ⟨z55.heap.size,0,none⟩ 2) (.int .i64 (r53.2.2.1)) fun z60=>
   St z60 (.add ⟨z55.heap.size,0,none⟩ 3) (.int .i64 (r53.2.2.2.1)) fun z61=>
   St z61 (.add ⟨z55.heap.size,0,none⟩ 4) (.int .i64 (r53.2.2.2.2.1)) fun z62=>
   St z62 (.add ⟨z55.heap.size,0,none⟩ 5) (.int .i64 (r53.2.2.2.2.2)) fun z63=>
   LdT z63 ⟨z54.heap.size,0,none⟩ 0 LiA69 fun (x64 : TyA69)=>
   Nw z63 (.cells #[.int .i64 (x64.1),.string x64.2.1,.int .i64 (x64.2.2.1),.int .i64 (x64.2.2.2.1),.int .i64 (x64.2.2.2.2.1),.int .i64 (x64.2.2.2.2.2.1),.int .i64 (x64.2.2.2.2.2.2.1),.string x64.2.2.2.2.2.2.2.1,.int .i64 (x64.2.2.2.2.2.2.2.2)] 70) fun z65=>
   Rn Tryz.prog (Builtin.append_ #[49,49] 49 #[Slc.v s40.1,Slc.v ((⟨some ⟨z63.heap.size,0,none⟩,1,1⟩ : Slc))]) z65 Slc.v fun (x66 : Slc) z67=>
   Ld z67 ⟨z55.heap.size,0,none⟩ (.int .i64) fun x68=>
   Ld z67 (.add ⟨z55.heap.size,0,none⟩ 1) (.int .i64) fun x69=>
   Ld z67 (.add ⟨z55.heap.size,0,none⟩ 2) (.int .i64) fun x70=>
   Ld z67 (.add ⟨z55.heap.size,0,none⟩ 3) (.int .i64) fun x71=>
   Ld z67 (.add ⟨z55.heap.size,0,none⟩ 4) (.int .i64) fun x72=>
   Ld z67 (.add ⟨z55.heap.size,0,none⟩ 5) (.int .i64) fun x73=>
   St z67 ⟨z4.heap.size,0,none⟩ (.int .i64 x68) fun z74=>
   St z74 (.add ⟨z4.heap.size,0,none⟩ 1) (.int .i64 x69) fun z75=>
   St z75 (.add ⟨z4.heap.size,0,none⟩ 2) (.int .i64 x70) fun z76=>
   St z76 (.add ⟨z4.heap.size,0,none⟩ 3) (.int .i64 x71) fun z77=>
   St z77 (.add ⟨z4.heap.size,0,none⟩ 4) (.int .i64 x72) fun z78=>
   St z78 (.add ⟨z4.heap.size,0,none⟩ 5) (.int .i64 x73) fun z79=>
   I42 (x66,IntKind.i64.wrap (s40.2 + 1)) z79) PR) (Ld z41.drew ⟨z4.heap.size,0,none⟩ (.int .i64) fun x80=>
  Ld z41.drew (.add ⟨z4.heap.size,0,none⟩ 1) (.int .i64) fun x81=>
  Ld z41.drew (.add ⟨z4.heap.size,0,none⟩ 2) (.int .i64) fun x82=>
  Ld z41.drew (.add ⟨z4.heap.size,0,none⟩ 3) (.int .i64) fun x83=>
  Ld z41.drew (.add ⟨z4.heap.size,0,none⟩ 4) (.int .i64) fun x84=>
  Ld z41.drew (.add ⟨z4.heap.size,0,none⟩ 5) (.int .i64) fun x85=>
  St z41.drew ⟨z5.heap.size,0,none⟩ (.int .i64 x80) fun z86=>
  St z86 (.add ⟨z5.heap.size,0,none⟩ 1) (.int .i64 x81) fun z87=>
  St z87 (.add ⟨z5.heap.size,0,none⟩ 2) (.int .i64 x82) fun z88=>
  St z88 (.add ⟨z5.heap.size,0,none⟩ 3) (.int .i64 x83) fun z89=>
  St z89 (.add ⟨z5.heap.size,0,none⟩ 4) (.int .i64 x84) fun z90=>
  St z90 (.add ⟨z5.heap.size,0,none⟩ 5) (.int .i64 x85) fun z91=>
  Ld z91 ⟨z5.heap.size,0,none⟩ (.int .i64) fun x92=>
  Ld z91 (.add ⟨z5.heap.size,0,none⟩ 1) (.int .i64) fun x93=>
  Ld z91 (.add ⟨z5.heap.size,0,none⟩ 2) (.int .i64) fun x94=>
  Ld z91 (.add ⟨z5.heap.size,0,none⟩ 3) (.int .i64) fun x95=>
  Ld z91 (.add ⟨z5.heap.size,0,none⟩ 4) (.int .i64) fun x96=>
  Ld z91 (.add ⟨z5.heap.size,0,none⟩ 5) (.int .i64) fun x97=>
  R s40.1 (x92,x93,x94,x95,x96,x97) z91)
def S55 (h1 : TyA83) (m2 : Int × Int × Int × Int × Int × Int) (s3 : ByteArray) (w : World) (R : Slc -> (Int × Int × Int × Int × Int × Int) -> World -> Prop) (PR : Value -> World -> Prop) : Prop :=
 Nw w (.cells (Sig.cells LiA83 h1).toArray 84) fun z4=>
 Nw z4 (.cells #[.int .i64 (m2.1),.int .i64 (m2.2.1),.int .i64 (m2.2.2.1),.int .i64 (m2.2.2.2.1),.int .i64 (m2.2.2.2.2.1),.int .i64 (m2.2.2.2.2.2)] 24) fun z5=>
 Nw z5 (.cells #[.int .i64 0,.int .i64 0,.int .i64 0,.int .i64 0,.int .i64 0,.int .i64 0] 24) fun z6=>
 LdT z6 ⟨w.heap.size,0,none⟩ 0 LiA30 fun (x7 : TyA30)=>
 C31 x7 z6 (fun z8=>
  ∃ vS9 : World -> Prop,vS9 z8.drew /\ LdS vS9 ⟨z4.heap.size,0,none⟩ (.int .i64) fun x10=>
  LdS vS9 (.add ⟨z4.heap.size,0,none⟩ 1) (.int .i64) fun x11=>
  LdS vS9 (.add ⟨z4.heap.size,0,none⟩ 2) (.int .i64) fun x12=>
  LdS vS9 (.add ⟨z4.heap.size,0,none⟩ 3) (.int .i64) fun x13=>
  LdS vS9 (.add ⟨z4.heap.size,0,none⟩ 4) (.int .i64) fun x14=>
  LdS vS9 (.add ⟨z4.heap.size,0,none⟩ 5) (.int .i64) fun x15=>
  LdS vS9 ⟨z4.heap.size,0,none⟩ (.int .i64) fun x16=>
  LdS vS9 (.add ⟨z4.heap.size,0,none⟩ 1) (.int .i64) fun x17=>
  LdS vS9 (.add ⟨z4.heap.size,0,none⟩ 2) (.int .i64) fun x18=>
  LdS vS9 (.add ⟨z4.heap.size,0,none⟩ 3) (.int .i64) fun x19=>
  LdS vS9 (.add ⟨z4.heap.size,0,none⟩ 4) (.int .i64) fun x20=>
  LdS vS9 (.add ⟨z4.heap.size,0,none⟩ 5) (.int .i64) fun x21=>
  C57 (x16,x17,x18,x19,x20,x21) z8.drew fun r22 z23=>
   vS9 z23 /\ C89 (x10,x11,x12,x13,x14,x15) r22 z23 (fun r24 z25=>
    ∃ vS26 : World -> Prop,vS26 z25.drew /\ LdST vS26 (.add ⟨w.heap.size,0,none⟩ 30) 0 LiA34 fun (x27 : TyA34)=>
    LdST vS26 (.add ⟨w.heap.size,0,none⟩ 30) 0 LiA34 fun (x28 : TyA34)=>
    C33 x28 z25.drew fun r29 z30=>
     vS26 z30 /\ C32 x27 r29 z30 (fun r31 z32=>
      LdT z32 (.add ⟨w.heap.size,0,none⟩ 30) 0 LiA34 fun (x33 : TyA34)=>
      C91 x33 s3 z32 fun r34 r35 z36=>
       C90 r34 r35 z36 (fun r37 z38=>
        C39 (decide (((r37.len : Nat) : Int) <= 16384)) 6 z38 (fun z39=>
         Lp (σ := Slc × Int) (S55L1 w z4 z5 r37 R PR) ((⟨none,0,0⟩ : Slc),0) z39) PR) PR) PR) PR) PR
def pl55 : Plan := (.q (.q (.seq (.reg (.held [3] (.take 0 (.take 1 (.eff 2 none (.eff 3 (some []) .done)))))) (.seq (.reg (.held [5] (.take 0 (.take 1 (.take 2 (.take 3 (.eff 4 none (.eff 5 (some []) .done)))))))) (.q (.q (.q (.seq (.q (.block (.loop [(9,(.one .slc)),(40,(.one (.int .i64)))] [3,4,7,38,39] (.q (.seq (.cond .leaf .leaf) (.seq (.block (.q (.q (.q (.reg .seq))))) (.reg .seq))))))) (.seq (.reg (.tail 3)) .leaf)))))))))
theorem T55 (h1 : TyA83) (m2 : Int × Int × Int × Int × Int × Int) (s3 : ByteArray) (w : World) (R : Slc -> (Int × Int × Int × Int × Int × Int) -> World -> Prop) (PR : Value -> World -> Prop) (h : S55 h1 m2 s3 w R PR) : C55 h1 (m2.1,m2.2.1,m2.2.2.1,m2.2.2.2.1,m2.2.2.2.2.1,m2.2.2.2.2.2) s3 w R PR := by
 have e : fnT Tryz.prog ⟨FF,MAY,PR⟩ pl55 Tryz.f55 [.agg (Sig.cells LiA83 h1).toArray,.agg #[.int .i64 (m2.1),.int .i64 (m2.2.1),.int .i64 (m2.2.2.1),.int .i64 (m2.2.2.2.1),.int .i64 (m2.2.2.2.2.1),.int .i64 (m2.2.2.2.2.2)],.string s3] w [(.one .slc),(.agg [(.int .i64),(.int .i64),(.int .i64),(.int .i64),(.int .i64),(.int .i64)])] (fun s w=> R s.1 s.2 w) = S55 h1 m2 s3 w R PR := by kernel_rfl
 exact (fn_callsP okF okM Tryz.func55 (by kernel_rfl) (by kernel_rfl) (e.mpr h)).mono fun _ _ he=> he.elim (fun ⟨s,he,hR⟩=> .inl ⟨s.1,s.2,he,hR⟩) .inr
def S29_nil (c1 : Addr) (c2 : Addr) (w : World) (R : World -> Prop) : Prop :=
 C30 Value.nilIface (some c1) w (fun z3=>
  Ld z3 c1 (.int .i64) fun x4=>
  Br (x4 != 0) (St z3 c2 (.int .i64 0) fun z5=>
   R z5) (R z3)) (fun _ _=> False)
def pl29_nil : Plan := (.q (.cond (.reg .seq) .leaf))
theorem T29_nil (c1 : Addr) (c2 : Addr) (w : World) (R : World -> Prop) (h : S29_nil c1 c2 w R) : CD29 c1 c2 none w R := by
 have e : fnTS Tryz.prog FF MAY pl29_nil Tryz.f29 [.pointer (some c1),.pointer (some c2)] none w R = S29_nil c1 c2 w R := by kernel_rfl
 exact fnS_calls okF okM Tryz.func29 (by kernel_rfl) (by kernel_rfl) (e.mpr h)
def S29_T106 (c1 : Addr) (c2 : Addr) (u3 : Int) (w : World) (R : World -> Prop) : Prop :=
 C30 (.iface 106 (.agg #[.int .i64 u3])) (some c1) w (fun z4=>
  Ld z4 c1 (.int .i64) fun x5=>
  Br (x5 != 0) (St z4 c2 (.int .i64 0) fun z6=>
   R z6) (R z4)) (fun _ _=> False)
def pl29_T106 : Plan := (.q (.cond (.reg .seq) .leaf))
theorem T29_T106 (c1 : Addr) (c2 : Addr) (u3 : Int) (w : World) (R : World -> Prop) (h : S29_T106 c1 c2 u3 w R) : CD29 c1 c2 (some (.iface 106 (.agg #[.int .i64 u3]))) w R := by
 have e : fnTS Tryz.prog FF MAY pl29_T106 Tryz.f29 [.pointer (some c1),.pointer (some c2)] (some (.iface 106 (.agg #[.int .i64 u3]))) w R = S29_T106 c1 c2 u3 w R := by kernel_rfl
 exact fnS_calls okF okM Tryz.func29 (by kernel_rfl) (by kernel_rfl) (e.mpr h)
def S11P (z5 : World) (z6 : World) (R : Int -> Int -> World -> Prop) (x9 : Value) (z8 : World) : Prop :=
 CD29 ⟨z6.heap.size,0,none⟩ ⟨z5.heap.size,0,none⟩ (some x9) z8 fun z10=>
  Ld z10 ⟨z5.heap.size,0,none⟩ (.int .i64) fun x11=>
  Ld z10 ⟨z6.heap.size,0,none⟩ (.int .i64) fun x12=>
  R x11 x12 z10
def S11 (g1 : TyA30) (f2 : TyA34) (code3 : Int) (w : World) (R : Int -> Int -> World -> Prop) : Prop :=
 Nw w (.cells (Sig.cells LiA30 g1).toArray 31) fun z4=>
 Nw z4 (.cells (Sig.cells LiA34 f2).toArray 35) fun z5=>
 Nw z5 (.cells #[.int .i64 0] 2) fun z6=>
 Nw z6 (.cells #[.int .i64 0] 43) fun z7=>
 LdT z7 ⟨w.heap.size,0,none⟩ 0 LiA30 fun (x13 : TyA30)=>
 C31 x13 z7 (fun z14=>
  ∃ vS15 : World -> Prop,vS15 z14.drew /\ LdST vS15 ⟨z4.heap.size,0,none⟩ 0 LiA34 fun (x16 : TyA34)=>
  LdST vS15 ⟨z4.heap.size,0,none⟩ 0 LiA34 fun (x17 : TyA34)=>
  C33 x17 z14.drew fun r18 z19=>
   vS15 z19 /\ C32 x16 r18 z19 (fun r20 z21=>
    LdT z21 ⟨w.heap.size,0,none⟩ 0 LiA30 fun (x22 : TyA30)=>
    LdT z21 ⟨z4.heap.size,0,none⟩ 0 LiA34 fun (x23 : TyA34)=>
    Nw z21 (.cells #[.int .i64 0,.int .i64 0,.int .i64 0,.int .i64 0,.int .i64 0,.int .i64 0,.int .i64 0,.int .i64 0,.int .i64 0,.int .i64 0,Slc.v ((⟨none,0,0⟩ : Slc)),.int .i64 0,.int .i64 0,.int .i64 0,.int .i64 0,.int .i64 0,.int .i64 0,.int .i64 0,.int .i64 0,.int .i64 0,.int .i64 0,.int .i64 0,.int .i64 0,.int .i64 0,.int .i64 0,.int .i64 0,.int .i64 0,.int .i64 0,.string (⟨#[]⟩ : ByteArray),.int .i64 0,.string (⟨#[]⟩ : ByteArray),.bool false,.int .i64 0,Slc.v ((⟨none,0,0⟩ : Slc)),.int .i64 0,Slc.v ((⟨none,0,0⟩ : Slc)),Slc.v ((⟨none,0,0⟩ : Slc))] 84) fun z24=>
    StT ⟨z21.heap.size,0,none⟩ 0 LiA83 ((x22.1,x22.2.1,x22.2.2.1,x22.2.2.2.1,x22.2.2.2.2.1,x22.2.2.2.2.2.1,x22.2.2.2.2.2.2.1,x22.2.2.2.2.2.2.2.1,x22.2.2.2.2.2.2.2.2.1,x22.2.2.2.2.2.2.2.2.2.1,x22.2.2.2.2.2.2.2.2.2.2.1,x22.2.2.2.2.2.2.2.2.2.2.2.1,x22.2.2.2.2.2.2.2.2.2.2.2.2.1,x22.2.2.2.2.2.2.2.2.2.2.2.2.2.1,x22.2.2.2.2.2.2.2.2.2.2.2.2.2.2.1,x22.2.2.2.2.2.2.2.2.2.2.2.2.2.2.2.1,x22.2.2.2.2.2.2.2.2.2.2.2.2.2.2.2.2.1,x22.2.2.2.2.2.2.2.2.2.2.2.2.2.2.2.2.2.1,x22.2.2.2.2.2.2.2.2.2.2.2.2.2.2.2.2.2.2.1,x22.2.2.2.2.2.2.2.2.2.2.2.2.2.2.2.2.2.2.2.1,x22.2.2.2.2.2.2.2.2.2.2.2.2.2.2.2.2.2.2.2.2.1,x22.2.2.2.2.2.2.2.2.2.2.2.2.2.2.2.2.2.2.2.2.2.1,x22.2.2.2.2.2.2.2.2.2.2.2.2.2.2.2.2.2.2.2.2.2.2.1,x22.2.2.2.2.2.2.2.2.2.2.2.2.2.2.2.2.2.2.2.2.2.2.2.1,x22.2.2.2.2.2.2.2.2.2.2.2.2.2.2.2.2.2.2.2.2.2.2.2.2.1,x22.2.2.2.2.2.2.2.2.2.2.2.2.2.2.2.2.2.2.2.2.2.2.2.2.2.1,x22.2.2.2.2.2.2.2.2.2.2.2.2.2.2.2.2.2.2.2.2.2.2.2.2.2.2.1,x22.2.2.2.2.2.2.2.2.2.2.2.2.2.2.2.2.2.2.2.2.2.2.2.2.2.2.2.1,x22.2.2.2.2.2.2.2.2.2.2.2.2.2.2.2.2.2.2.2.2.2.2.2.2.2.2.2.2.1,x22.2.2.2.2.2.2.2.2.2.2.2.2.2.2.2.2.2.2.2.2.2.2.2.2.2.2.2.2.2,x23.1,x23.2.1,x23.2.2.1,x23.2.2.2.1,x23.2.2.2.2.1,x23.2.2.2.2.2.1,x23.2.2.2.2.2.2) : TyA83) z24 fun z25=>
    ∃ vS26 : World -> Prop,vS26 z25.drew /\ LdST vS26 ⟨z21.heap.size,0,none⟩ 0 LiA83 fun (x27 : TyA83)=>
    LdST vS26 ⟨z21.heap.size,0,none⟩ 0 LiA83 fun (x28 : TyA83)=>
    C35 x28 code3 z25.drew (fun r29 z30=>
     vS26 z30 /\ C34 x27 code3 r29 z30 (fun r31 z32=>
      St z32 ⟨z5.heap.size,0,none⟩ (.int .i64 r31) fun z33=>
      St z33 ⟨z6.heap.size,0,none⟩ (.int .i64 0) fun z34=>
      CD29 ⟨z6.heap.size,0,none⟩ ⟨z5.heap.size,0,none⟩ none z34 fun z35=>
       Ld z35 ⟨z5.heap.size,0,none⟩ (.int .i64) fun x36=>
       Ld z35 ⟨z6.heap.size,0,none⟩ (.int .i64) fun x37=>
       R x36 x37 z35) (S11P z5 z6 R)) (S11P z5 z6 R)) (S11P z5 z6 R)) (S11P z5 z6 R)
def pl11 : DPlan := (.pre (.reg .seq) (.here [6,7] (.q (.seq (.reg (.held [3] (.take 0 (.take 1 (.eff 2 none (.eff 3 (some []) .done)))))) (.q (.seq (.reg (.held [5] (.take 0 (.take 1 (.take 2 (.take 3 (.eff 4 none (.eff 5 (some [6]) (.eff 6 (some [7]) (.eff 7 (some []) .done)))))))))) .leaf))))))
theorem T11 (g1 : TyA30) (f2 : TyA34) (code3 : Int) (w : World) (R : Int -> Int -> World -> Prop) (h : S11 g1 f2 code3 w R) : C11 g1 f2 code3 w R := by
 have e : fnTD Tryz.prog FF MAY (fun _ _=> False) pl11 Tryz.f11 [.agg (Sig.cells LiA30 g1).toArray,.agg (Sig.cells LiA34 f2).toArray,.int .i64 code3] w [(.one (.int .i64)),(.one (.int .i64))] (fun s w=> R s.1 s.2 w) = S11 g1 f2 code3 w R := by kernel_rfl
 exact (fnD_calls okF okM Tryz.func11 (by kernel_rfl) (by kernel_rfl) (e.mpr h)).mono fun _ _ ⟨s,he,hR⟩=> ⟨s.1,s.2,he,hR⟩
end Go.Proofs.YtcblpehnkogfdaaGreatDoor

/- Shown strings: what a glyph, a step and a text are, plain; numbers rounded. Conditions: sizes. -/
namespace Go.Proofs.YtcblpehnkogfdaaGreatDoor
namespace Sw
open Sh Mat Fix Fo
set_option maxRecDepth 4000
set_option maxHeartbeats 2000000
abbrev GT := TyA30
abbrev HT := TyA83
abbrev GlT := TyA69
abbrev TxT := TyA28
def hand (g : GT) (f : FT) : HT := (g.1,g.2.1,g.2.2.1,g.2.2.2.1,g.2.2.2.2.1,g.2.2.2.2.2.1,g.2.2.2.2.2.2.1,g.2.2.2.2.2.2.2.1,g.2.2.2.2.2.2.2.2.1,g.2.2.2.2.2.2.2.2.2.1,g.2.2.2.2.2.2.2.2.2.2.1,g.2.2.2.2.2.2.2.2.2.2.2.1,g.2.2.2.2.2.2.2.2.2.2.2.2.1,g.2.2.2.2.2.2.2.2.2.2.2.2.2.1,g.2.2.2.2.2.2.2.2.2.2.2.2.2.2.1,g.2.2.2.2.2.2.2.2.2.2.2.2.2.2.2.1,g.2.2.2.2.2.2.2.2.2.2.2.2.2.2.2.2.1,g.2.2.2.2.2.2.2.2.2.2.2.2.2.2.2.2.2.1,g.2.2.2.2.2.2.2.2.2.2.2.2.2.2.2.2.2.2.1,g.2.2.2.2.2.2.2.2.2.2.2.2.2.2.2.2.2.2.2.1,g.2.2.2.2.2.2.2.2.2.2.2.2.2.2.2.2.2.2.2.2.1,g.2.2.2.2.2.2.2.2.2.2.2.2.2.2.2.2.2.2.2.2.2.1,g.2.2.2.2.2.2.2.2.2.2.2.2.2.2.2.2.2.2.2.2.2.2.1,g.2.2.2.2.2.2.2.2.2.2.2.2.2.2.2.2.2.2.2.2.2.2.2.1,g.2.2.2.2.2.2.2.2.2.2.2.2.2.2.2.2.2.2.2.2.2.2.2.2.1,g.2.2.2.2.2.2.2.2.2.2.2.2.2.2.2.2.2.2.2.2.2.2.2.2.2.1,g.2.2.2.2.2.2.2.2.2.2.2.2.2.2.2.2.2.2.2.2.2.2.2.2.2.2.1,g.2.2.2.2.2.2.2.2.2.2.2.2.2.2.2.2.2.2.2.2.2.2.2.2.2.2.2.1,g.2.2.2.2.2.2.2.2.2.2.2.2.2.2.2.2.2.2.2.2.2.2.2.2.2.2.2.2.1,g.2.2.2.2.2.2.2.2.2.2.2.2.2.2.2.2.2.2.2.2.2.2.2.2.2.2.2.2.2,f.1,f.2.1,f.2.2.1,f.2.2.2.1,f.2.2.2.2.1,f.2.2.2.2.2.1,f.2.2.2.2.2.2)
def ctm (g : GT) : Mx := (g.1,g.2.1,g.2.2.1,g.2.2.2.1,g.2.2.2.2.1,g.2.2.2.2.2.1)
def tx (g : GT) : TxT := g.2.2.2.2.2.2.2.2.2.2.2.2.2.2.2.2.2.2.2.2.2.2
def tchar (g : GT) : Int := (tx g).1
def tword (g : GT) : Int := (tx g).2.1
def tscale (g : GT) : Int := (tx g).2.2.1
def tlead (g : GT) : Int := (tx g).2.2.2.1
def tsize (g : GT) : Int := (tx g).2.2.2.2.1
def trise (g : GT) : Int := (tx g).2.2.2.2.2.1
def tfont (g : GT) : ByteArray := (tx g).2.2.2.2.2.2.1
def tmode (g : GT) : Int := (tx g).2.2.2.2.2.2.2
def texts (g : GT) : List Int := [tchar g,tword g,tscale g,tlead g,tsize g,trise g]
def useG (g : GT) : Bool := Mat.okM (ctm g) && (texts g).all inW
def near6 (n : Int) : Int := (n + 500000) / 1000000
def mulO (a b : Int) : Option Int := if inW a = true /\ inW b = true /\ inW (near (a * b)) = true then some (near (a * b)) else none
def sumO (l : List Int) : Option Int := if l.all inW = true /\ inW (Pat.ps l l.length) = true then some (Pat.ps l l.length) else none
def resI : Option Int -> Int × Int
 | some n=> (n,0)
 | none=> (0,2)
theorem sumF_res (l : List Int) : Pat.sumF l = resI (sumO l) := by
 unfold Pat.sumF sumO
 split <;> rfl
theorem sumO_in {l : List Int} {n : Int} (h : sumO l = some n) : inW n = true := by
 unfold sumO at h
 split at h
 ·rename_i h1
  cases h
  exact h1.2
 ·cases h
theorem mulO_in {a b n : Int} (h : mulO a b = some n) : inW n = true := by
 unfold mulO at h
 split at h
 ·rename_i h1
  cases h
  exact h1.2.2
 ·cases h
open Classical in
noncomputable def lenO (m : Mx) (p : Int × Int) : Option Int := if IsLen m p (0,2) then none else if h : ∃ n,IsLen m p (n,0) then some (Classical.choose h) else none
theorem lenO_eq {m : Mx} {p : Int × Int} {r e : Int} (h : IsLen m p (r,e)) : (r,e) = resI (lenO m p) := by
 unfold lenO
 have he : (r,e) = (0,2) \/ e = 0 := by
  unfold IsLen at h
  split at h
  ·exact .inl h
  ·obtain ⟨s,_,h2⟩ := h
   split at h2
   ·exact .inl h2
   ·exact .inr (Prod.mk.inj h2).2
 rcases he with he | rfl
 ·rw [he] at h ⊢
  rw [if_pos h]
  rfl
 ·rw [if_neg fun h2=> by cases isLen_eq h h2]
  have hx : ∃ n,IsLen m p (n,0) := ⟨r,h⟩
  rw [dif_pos hx]
  exact isLen_eq h (Classical.choose_spec hx)
def scaledP (g : GT) (n : Int) : Option Int := if inW (near6 (n * tscale g)) = true then some (near6 (n * tscale g)) else none
def widthP (g : GT) (f : Font) (code : Int) : Option Int := mulO (tsize g) (10 * widthF f code)
def stepL (g : GT) (f : Font) (code w : Int) : List Int := [w,tchar g] ++ (if code = 32 /\ f.wide = false then [tword g] else [])
def stepP (g : GT) (f : Font) (code w : Int) : Option Int := (sumO (stepL g f code w)).bind fun n=> scaledP g n
noncomputable def signP (g : GT) (f : Font) (m : Mx) (code : Int) : Option (GlT × Mx) :=
 (mulP m (ctm g)).bind fun all=> (widthP g f code).bind fun w=> (scaledP g w).bind fun en=> (applyP all (0,trise g)).bind fun a=> (applyP all (en,trise g)).bind fun b=>
  (lenO all (0,tsize g)).bind fun hi=> (stepP g f code w).bind fun st=> (mulP (moveM st 0) m).bind fun m'=> some ((code,⟨(sayF f code).toArray⟩,a.1,a.2,b.1,b.2,hi,tfont g,tmode g),m')
noncomputable def showP (g : GT) (f : Font) : List Int -> Mx -> Option (List GlT × Mx)
 | [],m=> some ([],m)
 | c :: r,m=> (signP g f m c).bind fun x=> (showP g f r x.2).bind fun y=> some (x.1 :: y.1,y.2)
def noM : Mx := (0,0,0,0,0,0)
def askE (g : GT) (m : Mx) (f : Font) (s : ByteArray) : Int :=
 if useG g = false \/ Mat.okM m = false then 2 else if chkF f ≠ 0 then chkF f else if (codesF f.wide s).2 ≠ 0 then (codesF f.wide s).2 else if 16384 < (codesF f.wide s).1.length then 6 else 0
noncomputable def stringF (g : GT) (m : Mx) (f : Font) (s : ByteArray) : List GlT × Mx × Int :=
 if askE g m f s ≠ 0 then ([],noM,askE g m f s) else match showP g f (codesF f.wide s).1 m with
 | some x=> (x.1,x.2,0)
 | none=> ([],noM,2)
def stepF (g : GT) (f : Font) (code : Int) : Int × Int :=
 if useG g = false then (0,2) else if chkF f ≠ 0 then (0,chkF f) else resI ((widthP g f code).bind fun w=> stepP g f code w)
theorem td6 (n : Int) : 1000000 * Int.tdiv n 1000000 + Int.tmod n 1000000 = n /\ -1000000 < Int.tmod n 1000000 /\ Int.tmod n 1000000 < 1000000 /\ (0 <= n -> 0 <= Int.tmod n 1000000) /\ (n <= 0 -> Int.tmod n 1000000 <= 0) := by
 rcases Int.le_total 0 n with h | h
 ·rw [tdiv_id h,tmod_id h]; omega
 ·obtain ⟨m,rfl⟩ : ∃ m,n = -m := ⟨-n,by omega⟩
  rw [Int.neg_tdiv,Int.neg_tmod,tdiv_id (by omega),tmod_id (by omega)]; omega
theorem near6_eq {n : Int} (hn : -5000000000000000000 <= n /\ n <= 5000000000000000000) : (if Int.tmod n 1000000 < 0 then (if Int.tmod n 1000000 + 1000000 >= 1000000 - (Int.tmod n 1000000 + 1000000) then Int.tdiv n 1000000 - 1 + 1 else Int.tdiv n 1000000 - 1) else if Int.tmod n 1000000 >= 1000000 - Int.tmod n 1000000 then Int.tdiv n 1000000 + 1 else Int.tdiv n 1000000) = near6 n := by
 unfold near6
 have := td6 n
 split
 ·split <;> omega
 ·split <;> omega
theorem c_near6 {n : Int} (hn : -5000000000000000000 <= n /\ n <= 5000000000000000000) (w : World) : C104 n 1000000 w fun r w1=> r = near6 n /\ Ext (fun _=> False) w w1 := by
 refine T104 _ _ _ _ ?_
 unfold S104
 have he : Ext (fun _=> False) w w.drew := (Ext.refl _ w).drew
 have e := near6_eq hn
 have := td6 n
 refine ⟨by omega,by omega,Br.dec (fun h=> ?_) fun h=> ?_⟩
 ·rw [if_pos h] at e
  rw [i64_id (n := Int.tmod n 1000000 + 1000000) (by omega),i64_id (n := 1000000 - (Int.tmod n 1000000 + 1000000)) (by omega),i64_id (n := Int.tdiv n 1000000) (by omega),i64_id (n := Int.tdiv n 1000000 - 1) (by omega),i64_id (n := Int.tdiv n 1000000 - 1 + 1) (by omega)]
  refine Lt.of (Br.dec (fun h2=> ⟨?_,he⟩) fun h2=> ⟨?_,he⟩)
  ·rw [if_pos h2] at e; exact e
  ·rw [if_neg h2] at e; exact e
 ·rw [if_neg h] at e
  rw [i64_id (n := 1000000 - Int.tmod n 1000000) (by omega),i64_id (n := Int.tdiv n 1000000) (by omega),i64_id (n := Int.tdiv n 1000000 + 1) (by omega)]
  refine Br.dec (fun h2=> ⟨?_,he⟩) fun h2=> ⟨?_,he⟩
  ·rw [if_pos h2] at e; exact e
  ·rw [if_neg h2] at e; exact e
theorem c_Near {n : Int} (hn : -4611686018427387904 <= n /\ n <= 4611686018427387904) (w : World) : C100 n 1000000 w fun r e w1=> r = near6 n /\ e = 0 /\ Ext (fun _=> False) w w1 := by
 refine T100 _ _ _ _ ?_
 unfold S100
 refine Br.f (by decide) (Br.dec (fun h=> absurd h (by omega)) fun _=> Br.dec (fun h=> absurd h (by omega)) fun _=> (c_near6 (by omega) w).mono ?_)
 rintro r w1 ⟨rfl,he⟩
 exact ⟨rfl,rfl,he⟩
theorem row2 {w : World} {b : Nat} {t : TypeId} {x0 x1 : Int} (h : Blk w b #[.int .i64 x0,.int .i64 x1] t) : IRow w ⟨some ⟨b,0,none⟩,2,2⟩ [x0,x1] :=
 IRow.of h rfl fun i hi=> by
  rcases i with _ | _ | i
  ·rfl
  ·rfl
  ·simp only [List.length_cons,List.length_nil] at hi
   omega
theorem c_mul2 (a b : Int) (w : World) : C64 a b w fun r e w1=> (r,e) = resI (mulO a b) /\ Ext (fun _=> False) w w1 := by
 refine T64 _ _ _ _ ?_
 unfold S64
 refine (Hx.start w (fun _=> False)).nw fun w2 H=> ?_
 have hs := H.size
 refine H.nw fun w3 H=> ?_
 have caught : ∀ (cs1 cs2 : Int) (w4 : World),Hx w (fun _=> False) w4 [(w.heap.size,#[.int .i64 cs1],2),(w2.heap.size,#[.int .i64 cs2],43)] -> (mulO a b = none) ->
   S64P w w2 (fun r e w1=> (r,e) = resI (mulO a b) /\ Ext (fun _=> False) w w1) (refused 2) w4 := fun cs1 cs2 w4 H hd=> by
  unfold S64P
  refine T101_T170 _ _ 2 _ _ ?_
  unfold S101_T170
  refine Nn.of (H.st 0 rfl (by simp) (.inr (Nat.le_refl _)) fun w5 H=> Nn.of (H.st 1 rfl (by simp) (.inr hs) fun w6 H=> H.ld 0 rfl rfl (H.ld 1 rfl rfl ⟨by rw [hd]; rfl,H.ext⟩)))
 have done : ∀ (r e : Int) (w4 : World),Hx w (fun _=> False) w4 [(w.heap.size,#[.int .i64 r],2),(w2.heap.size,#[.int .i64 e],43)] -> resI (mulO a b) = (r,e) ->
   CD101 (some (⟨w.heap.size,0,none⟩ : Addr)) (some (⟨w2.heap.size,0,none⟩ : Addr)) none w4 fun vw15=>
    Ld vw15 (⟨w.heap.size,0,none⟩ : Addr) (Value.int .i64) fun (x16 : Int)=>
    Ld vw15 (⟨w2.heap.size,0,none⟩ : Addr) (Value.int .i64) fun (x17 : Int)=>
    (x16,x17) = resI (mulO a b) /\ Ext (fun _=> False) w vw15 := fun r e w4 H hd=> by
  refine T101_nil _ _ _ _ ?_
  unfold S101_nil
  exact H.ld 0 rfl rfl (H.ld 1 rfl rfl ⟨hd.symm,H.ext⟩)
 refine H.nw fun w4 H=> ?_
 have HB := H.get 2 rfl
 have H := H.left (L := [(w.heap.size,#[.int .i64 0],2),(w2.heap.size,#[.int .i64 0],43)])
 refine (c_bounded (l := [a,b]) (row2 HB) (by simp)).mono (fun w5 h5=> ?_) fun v w5 h5=> ?_
 case refine_2=>
  obtain ⟨rfl,rfl,ha⟩ := h5
  refine caught _ _ _ H (if_neg fun hc=> ha fun i hi=> ?_)
  rcases i with _ | _ | i
  ·exact hc.1
  ·exact hc.2.1
  ·simp only [List.length_cons,List.length_nil] at hi
   omega
 obtain ⟨rfl,ha⟩ := h5
 have h1 : inW a = true := ha 0 (by simp)
 have h2 : inW b = true := ha 1 (by simp)
 have hb := mul_bd (inW_spec.1 h1) (inW_spec.1 h2)
 rw [i64_id (n := a * b) (by omega)]
 refine (c_near (by omega) _).mono ?_
 rintro r w6 ⟨rfl,e6⟩
 have H := H.keep e6
 refine (c_answer _ _).mono (fun r w7 h7=> ?_) fun v w7 h7=> ?_
 ·obtain ⟨rfl,hw,he⟩ := h7
  have H := H.keep he
  exact H.st 0 rfl (by simp) (.inr (Nat.le_refl _)) fun w8 H=> H.st 1 rfl (by simp) (.inr hs) fun w9 H=> done _ 0 _ H (by unfold mulO; rw [if_pos ⟨h1,h2,hw⟩]; rfl)
 ·obtain ⟨rfl,hw,he⟩ := h7
  exact caught _ _ _ (H.keep he) (if_neg fun hc=> by rw [hc.2.2] at hw; cases hw)
end Sw
end Go.Proofs.YtcblpehnkogfdaaGreatDoor
namespace Go.Proofs.YtcblpehnkogfdaaGreatDoor
namespace Sw
open Sh Mat Fix Fo
set_option maxRecDepth 4000
set_option maxHeartbeats 2000000
attribute [local irreducible] Ld St Nw Nn Lt LdS
def gup (e : Int) : Value := .iface 106 (.agg #[.int .i64 e])
theorem c_need (b : Bool) (e : Int) (w : World) : C39 b e w (fun w1=> b = true /\ w1 = w) fun v w1=> v = gup e /\ b = false /\ w1 = w := by
 refine T39 _ _ _ _ _ ?_
 unfold S39
 cases b with
 | true=> exact Br.f rfl ⟨rfl,rfl⟩
 | false=> exact Br.t rfl ⟨rfl,rfl,rfl⟩
theorem c_mustI (x e : Int) (w : World) : C62 x e w (fun r w1=> r = x /\ e = 0 /\ w1 = w) fun v w1=> v = gup e /\ e ≠ 0 /\ w1 = w := by
 refine T62 _ _ _ _ _ ?_
 unfold S62
 exact (c_need _ e w).mono (fun w1 h=> ⟨rfl,by simpa using h.1,h.2⟩) fun v w1 h=> ⟨h.1,by simpa using h.2.1,h.2.2⟩
theorem c_mustS (x : Slc) (e : Int) (w : World) : C90 x e w (fun r w1=> r = x /\ e = 0 /\ w1 = w) fun v w1=> v = gup e /\ e ≠ 0 /\ w1 = w := by
 refine T90 _ _ _ _ _ ?_
 unfold S90
 exact (c_need _ e w).mono (fun w1 h=> ⟨rfl,by simpa using h.1,h.2⟩) fun v w1 h=> ⟨h.1,by simpa using h.2.1,h.2.2⟩
theorem c_mustP (x : Int × Int) (e : Int) (w : World) : C121 x e w (fun r w1=> r = x /\ e = 0 /\ Ext (fun _=> False) w w1) fun v w1=> v = gup e /\ e ≠ 0 /\ Ext (fun _=> False) w w1 := by
 refine T121 _ _ _ _ _ ?_
 unfold S121
 refine (Hn.start w).nw fun w3 H=> H.nw fun w4 H=> ?_
 refine (c_need _ e _).mono (fun w5 h=> ?_) fun v w5 h=> ⟨h.1,by simpa using h.2.1,by rw [h.2.2]; exact H.ext⟩
 obtain ⟨h1,rfl⟩ := h
 repeat (first | refine Lt.of ?_ | refine Nn.of ?_ | refine H.ld 0 rfl rfl ?_ | refine H.ld 1 rfl rfl ?_ | refine H.ld 2 rfl rfl ?_ | refine H.ld 3 rfl rfl ?_ | refine H.ld 4 rfl rfl ?_ | refine H.ld 5 rfl rfl ?_ | (refine H.st 0 rfl (by simp) fun _ H=> ?_; simp only [List.nil_append,List.cons_append,List.set_cons_zero,List.set_cons_succ,Nat.zero_add] at H) | (refine H.st 1 rfl (by simp) fun _ H=> ?_; simp only [List.nil_append,List.cons_append,List.set_cons_zero,List.set_cons_succ,Nat.zero_add] at H) | (refine H.st 2 rfl (by simp) fun _ H=> ?_; simp only [List.nil_append,List.cons_append,List.set_cons_zero,List.set_cons_succ,Nat.zero_add] at H) | (refine H.st 3 rfl (by simp) fun _ H=> ?_; simp only [List.nil_append,List.cons_append,List.set_cons_zero,List.set_cons_succ,Nat.zero_add] at H) | (refine H.st 4 rfl (by simp) fun _ H=> ?_; simp only [List.nil_append,List.cons_append,List.set_cons_zero,List.set_cons_succ,Nat.zero_add] at H) | (refine H.st 5 rfl (by simp) fun _ H=> ?_; simp only [List.nil_append,List.cons_append,List.set_cons_zero,List.set_cons_succ,Nat.zero_add] at H))
 exact ⟨rfl,by simpa using h1,H.ext⟩
theorem c_mustM (x : Mx) (e : Int) (w : World) : C89 x e w (fun r w1=> r = x /\ e = 0 /\ Ext (fun _=> False) w w1) fun v w1=> v = gup e /\ e ≠ 0 /\ Ext (fun _=> False) w w1 := by
 refine T89 _ _ _ _ _ ?_
 unfold S89
 refine (Hn.start w).nw fun w3 H=> H.nw fun w4 H=> ?_
 refine (c_need _ e _).mono (fun w5 h=> ?_) fun v w5 h=> ⟨h.1,by simpa using h.2.1,by rw [h.2.2]; exact H.ext⟩
 obtain ⟨h1,rfl⟩ := h
 repeat (first | refine Lt.of ?_ | refine Nn.of ?_ | refine H.ld 0 rfl rfl ?_ | refine H.ld 1 rfl rfl ?_ | refine H.ld 2 rfl rfl ?_ | refine H.ld 3 rfl rfl ?_ | refine H.ld 4 rfl rfl ?_ | refine H.ld 5 rfl rfl ?_ | (refine H.st 0 rfl (by simp) fun _ H=> ?_; simp only [List.nil_append,List.cons_append,List.set_cons_zero,List.set_cons_succ,Nat.zero_add] at H) | (refine H.st 1 rfl (by simp) fun _ H=> ?_; simp only [List.nil_append,List.cons_append,List.set_cons_zero,List.set_cons_succ,Nat.zero_add] at H) | (refine H.st 2 rfl (by simp) fun _ H=> ?_; simp only [List.nil_append,List.cons_append,List.set_cons_zero,List.set_cons_succ,Nat.zero_add] at H) | (refine H.st 3 rfl (by simp) fun _ H=> ?_; simp only [List.nil_append,List.cons_append,List.set_cons_zero,List.set_cons_succ,Nat.zero_add] at H) | (refine H.st 4 rfl (by simp) fun _ H=> ?_; simp only [List.nil_append,List.cons_append,List.set_cons_zero,List.set_cons_succ,Nat.zero_add] at H) | (refine H.st 5 rfl (by simp) fun _ H=> ?_; simp only [List.nil_append,List.cons_append,List.set_cons_zero,List.set_cons_succ,Nat.zero_add] at H))
 exact ⟨rfl,by simpa using h1,H.ext⟩
theorem gr_blk (w : World) (g : GT) : Hn w (w.alloc (.cells (Sig.cells LiA30 g).toArray 31)) [(w.heap.size,[.int .i64 (g.1),.int .i64 (g.2.1),.int .i64 (g.2.2.1),.int .i64 (g.2.2.2.1),.int .i64 (g.2.2.2.2.1),.int .i64 (g.2.2.2.2.2.1),.int .i64 (g.2.2.2.2.2.2.1),.int .i64 (g.2.2.2.2.2.2.2.1),.int .i64 (g.2.2.2.2.2.2.2.2.1),.int .i64 (g.2.2.2.2.2.2.2.2.2.1),Slc.v (g.2.2.2.2.2.2.2.2.2.2.1),.int .i64 (g.2.2.2.2.2.2.2.2.2.2.2.1),.int .i64 (g.2.2.2.2.2.2.2.2.2.2.2.2.1),.int .i64 (g.2.2.2.2.2.2.2.2.2.2.2.2.2.1),.int .i64 (g.2.2.2.2.2.2.2.2.2.2.2.2.2.2.1),.int .i64 (g.2.2.2.2.2.2.2.2.2.2.2.2.2.2.2.1),.int .i64 (g.2.2.2.2.2.2.2.2.2.2.2.2.2.2.2.2.1),.int .i64 (g.2.2.2.2.2.2.2.2.2.2.2.2.2.2.2.2.2.1),.int .i64 (g.2.2.2.2.2.2.2.2.2.2.2.2.2.2.2.2.2.2.1),.int .i64 (g.2.2.2.2.2.2.2.2.2.2.2.2.2.2.2.2.2.2.2.1),.int .i64 (g.2.2.2.2.2.2.2.2.2.2.2.2.2.2.2.2.2.2.2.2.1),.int .i64 (g.2.2.2.2.2.2.2.2.2.2.2.2.2.2.2.2.2.2.2.2.2.1),.int .i64 (g.2.2.2.2.2.2.2.2.2.2.2.2.2.2.2.2.2.2.2.2.2.2.1),.int .i64 (g.2.2.2.2.2.2.2.2.2.2.2.2.2.2.2.2.2.2.2.2.2.2.2.1),.int .i64 (g.2.2.2.2.2.2.2.2.2.2.2.2.2.2.2.2.2.2.2.2.2.2.2.2.1),.int .i64 (g.2.2.2.2.2.2.2.2.2.2.2.2.2.2.2.2.2.2.2.2.2.2.2.2.2.1),.int .i64 (g.2.2.2.2.2.2.2.2.2.2.2.2.2.2.2.2.2.2.2.2.2.2.2.2.2.2.1),.int .i64 (g.2.2.2.2.2.2.2.2.2.2.2.2.2.2.2.2.2.2.2.2.2.2.2.2.2.2.2.1),.string (g.2.2.2.2.2.2.2.2.2.2.2.2.2.2.2.2.2.2.2.2.2.2.2.2.2.2.2.2.1),.int .i64 (g.2.2.2.2.2.2.2.2.2.2.2.2.2.2.2.2.2.2.2.2.2.2.2.2.2.2.2.2.2)],31)] := by
 have h := Hn.push (Hn.start w |>.keep ((Ext.refl (fun _=> False) w).alloc (.cells (Sig.cells LiA30 g).toArray 31))) (Blk.new w (Sig.cells LiA30 g).toArray 31) (Nat.le_refl _) (by simp)
 exact h
theorem ha_blk (w : World) (g : GT) (x : FT) : Hn w (w.alloc (.cells (Sig.cells LiA83 (hand g x)).toArray 84)) [(w.heap.size,[.int .i64 (g.1),.int .i64 (g.2.1),.int .i64 (g.2.2.1),.int .i64 (g.2.2.2.1),.int .i64 (g.2.2.2.2.1),.int .i64 (g.2.2.2.2.2.1),.int .i64 (g.2.2.2.2.2.2.1),.int .i64 (g.2.2.2.2.2.2.2.1),.int .i64 (g.2.2.2.2.2.2.2.2.1),.int .i64 (g.2.2.2.2.2.2.2.2.2.1),Slc.v (g.2.2.2.2.2.2.2.2.2.2.1),.int .i64 (g.2.2.2.2.2.2.2.2.2.2.2.1),.int .i64 (g.2.2.2.2.2.2.2.2.2.2.2.2.1),.int .i64 (g.2.2.2.2.2.2.2.2.2.2.2.2.2.1),.int .i64 (g.2.2.2.2.2.2.2.2.2.2.2.2.2.2.1),.int .i64 (g.2.2.2.2.2.2.2.2.2.2.2.2.2.2.2.1),.int .i64 (g.2.2.2.2.2.2.2.2.2.2.2.2.2.2.2.2.1),.int .i64 (g.2.2.2.2.2.2.2.2.2.2.2.2.2.2.2.2.2.1),.int .i64 (g.2.2.2.2.2.2.2.2.2.2.2.2.2.2.2.2.2.2.1),.int .i64 (g.2.2.2.2.2.2.2.2.2.2.2.2.2.2.2.2.2.2.2.1),.int .i64 (g.2.2.2.2.2.2.2.2.2.2.2.2.2.2.2.2.2.2.2.2.1),.int .i64 (g.2.2.2.2.2.2.2.2.2.2.2.2.2.2.2.2.2.2.2.2.2.1),.int .i64 (g.2.2.2.2.2.2.2.2.2.2.2.2.2.2.2.2.2.2.2.2.2.2.1),.int .i64 (g.2.2.2.2.2.2.2.2.2.2.2.2.2.2.2.2.2.2.2.2.2.2.2.1),.int .i64 (g.2.2.2.2.2.2.2.2.2.2.2.2.2.2.2.2.2.2.2.2.2.2.2.2.1),.int .i64 (g.2.2.2.2.2.2.2.2.2.2.2.2.2.2.2.2.2.2.2.2.2.2.2.2.2.1),.int .i64 (g.2.2.2.2.2.2.2.2.2.2.2.2.2.2.2.2.2.2.2.2.2.2.2.2.2.2.1),.int .i64 (g.2.2.2.2.2.2.2.2.2.2.2.2.2.2.2.2.2.2.2.2.2.2.2.2.2.2.2.1),.string (g.2.2.2.2.2.2.2.2.2.2.2.2.2.2.2.2.2.2.2.2.2.2.2.2.2.2.2.2.1),.int .i64 (g.2.2.2.2.2.2.2.2.2.2.2.2.2.2.2.2.2.2.2.2.2.2.2.2.2.2.2.2.2),.string (x.1),.bool (x.2.1),.int .i64 (x.2.2.1),Slc.v (x.2.2.2.1),.int .i64 (x.2.2.2.2.1),Slc.v (x.2.2.2.2.2.1),Slc.v (x.2.2.2.2.2.2)],84)] := by
 have h := Hn.push (Hn.start w |>.keep ((Ext.refl (fun _=> False) w).alloc (.cells (Sig.cells LiA83 (hand g x)).toArray 84))) (Blk.new w (Sig.cells LiA83 (hand g x)).toArray 84) (Nat.le_refl _) (by simp)
 exact h
theorem c_mustF (x : FT) (e : Int) (w : World) : C32 x e w (fun r w1=> r = x /\ e = 0 /\ Ext (fun _=> False) w w1) fun v w1=> v = gup e /\ e ≠ 0 /\ Ext (fun _=> False) w w1 := by
 refine T32 _ _ _ _ _ ?_
 unfold S32
 refine Nw.of ?_
 have H := fo_blk w x
 generalize w.alloc (.cells (Sig.cells LiA34 x).toArray 35) = wd at *
 refine H.nw fun w4 H=> ?_
 refine (c_need _ e _).mono (fun w5 h=> ?_) fun v w5 h=> ⟨h.1,by simpa using h.2.1,by rw [h.2.2]; exact H.ext⟩
 obtain ⟨h1,rfl⟩ := h
 refine H.ldT (i := 0) (pre := []) (post := []) (ts := LiA34) (x := x) rfl rfl ?_
 refine H.stT (i := 1) (pre := []) (post := []) (zs := [.string ⟨#[]⟩,.bool false,.int .i64 0,Slc.v ⟨none,0,0⟩,.int .i64 0,Slc.v ⟨none,0,0⟩,Slc.v ⟨none,0,0⟩]) rfl rfl rfl fun w7 H=> ?_
 exact H.ldT (i := 1) (pre := []) (post := []) (ts := LiA34) (x := x) rfl rfl ⟨rfl,by simpa using h1,H.ext⟩
theorem c_mustG (x : GT) (e : Int) (w : World) : C56 x e w (fun r w1=> r = x /\ e = 0 /\ Ext (fun _=> False) w w1) fun v w1=> v = gup e /\ e ≠ 0 /\ Ext (fun _=> False) w w1 := by
 refine T56 _ _ _ _ _ ?_
 unfold S56
 refine Nw.of ?_
 have H := gr_blk w x
 generalize w.alloc (.cells (Sig.cells LiA30 x).toArray 31) = wd at *
 refine H.nw fun w4 H=> ?_
 refine (c_need _ e _).mono (fun w5 h=> ?_) fun v w5 h=> ⟨h.1,by simpa using h.2.1,by rw [h.2.2]; exact H.ext⟩
 obtain ⟨h1,rfl⟩ := h
 refine H.ldT (i := 0) (pre := []) (post := []) (ts := LiA30) (x := x) rfl rfl ?_
 refine H.stT (i := 1) (pre := []) (post := []) (zs := [.int .i64 0,.int .i64 0,.int .i64 0,.int .i64 0,.int .i64 0,.int .i64 0,.int .i64 0,.int .i64 0,.int .i64 0,.int .i64 0,Slc.v ⟨none,0,0⟩,.int .i64 0,.int .i64 0,.int .i64 0,.int .i64 0,.int .i64 0,.int .i64 0,.int .i64 0,.int .i64 0,.int .i64 0,.int .i64 0,.int .i64 0,.int .i64 0,.int .i64 0,.int .i64 0,.int .i64 0,.int .i64 0,.int .i64 0,.string ⟨#[]⟩,.int .i64 0]) rfl rfl rfl fun w7 H=> ?_
 exact H.ldT (i := 1) (pre := []) (post := []) (ts := LiA30) (x := x) rfl rfl ⟨rfl,by simpa using h1,H.ext⟩
theorem c_fits (n : Int) (w : World) : C58 n w (fun r w1=> r = n /\ inW n = true /\ w1 = w) fun v w1=> v = gup 2 /\ inW n = false /\ w1 = w := by
 refine T58 _ _ _ _ ?_
 unfold S58
 refine Br.dec (fun h=> ?_) fun h=> ?_
 ·refine (c_need _ 2 w).mono (fun w1 h2=> ?_) fun v w1 h2=> ?_
  ·have := h2.1
   rw [decide_eq_true_eq] at this
   exact ⟨rfl,inW_spec.2 (by omega),h2.2⟩
  ·have := h2.2.1
   rw [decide_eq_false_iff_not] at this
   exact ⟨h2.1,inW_no.2 (by omega),h2.2.2⟩
 ·exact (c_need _ 2 w).mono (fun w1 h2=> by cases h2.1) fun v w1 h2=> ⟨h2.1,inW_no.2 (by omega),h2.2.2⟩
theorem c_use (g : GT) (w : World) : C31 g w (fun w1=> useG g = true /\ Ext (fun _=> False) w w1) fun v w1=> v = gup 2 /\ useG g = false /\ Ext (fun _=> False) w w1 := by
 refine T31 _ _ _ _ ?_
 unfold S31
 refine Nw.of ?_
 have H := gr_blk w g
 have hE := H.ext
 generalize w.alloc (.cells (Sig.cells LiA30 g).toArray 31) = wd at *
 have cl : ∀ {j : Nat} {v : Value},([.int .i64 (g.1),.int .i64 (g.2.1),.int .i64 (g.2.2.1),.int .i64 (g.2.2.2.1),.int .i64 (g.2.2.2.2.1),.int .i64 (g.2.2.2.2.2.1),.int .i64 (g.2.2.2.2.2.2.1),.int .i64 (g.2.2.2.2.2.2.2.1),.int .i64 (g.2.2.2.2.2.2.2.2.1),.int .i64 (g.2.2.2.2.2.2.2.2.2.1),Slc.v (g.2.2.2.2.2.2.2.2.2.2.1),.int .i64 (g.2.2.2.2.2.2.2.2.2.2.2.1),.int .i64 (g.2.2.2.2.2.2.2.2.2.2.2.2.1),.int .i64 (g.2.2.2.2.2.2.2.2.2.2.2.2.2.1),.int .i64 (g.2.2.2.2.2.2.2.2.2.2.2.2.2.2.1),.int .i64 (g.2.2.2.2.2.2.2.2.2.2.2.2.2.2.2.1),.int .i64 (g.2.2.2.2.2.2.2.2.2.2.2.2.2.2.2.2.1),.int .i64 (g.2.2.2.2.2.2.2.2.2.2.2.2.2.2.2.2.2.1),.int .i64 (g.2.2.2.2.2.2.2.2.2.2.2.2.2.2.2.2.2.2.1),.int .i64 (g.2.2.2.2.2.2.2.2.2.2.2.2.2.2.2.2.2.2.2.1),.int .i64 (g.2.2.2.2.2.2.2.2.2.2.2.2.2.2.2.2.2.2.2.2.1),.int .i64 (g.2.2.2.2.2.2.2.2.2.2.2.2.2.2.2.2.2.2.2.2.2.1),.int .i64 (g.2.2.2.2.2.2.2.2.2.2.2.2.2.2.2.2.2.2.2.2.2.2.1),.int .i64 (g.2.2.2.2.2.2.2.2.2.2.2.2.2.2.2.2.2.2.2.2.2.2.2.1),.int .i64 (g.2.2.2.2.2.2.2.2.2.2.2.2.2.2.2.2.2.2.2.2.2.2.2.2.1),.int .i64 (g.2.2.2.2.2.2.2.2.2.2.2.2.2.2.2.2.2.2.2.2.2.2.2.2.2.1),.int .i64 (g.2.2.2.2.2.2.2.2.2.2.2.2.2.2.2.2.2.2.2.2.2.2.2.2.2.2.1),.int .i64 (g.2.2.2.2.2.2.2.2.2.2.2.2.2.2.2.2.2.2.2.2.2.2.2.2.2.2.2.1),.string (g.2.2.2.2.2.2.2.2.2.2.2.2.2.2.2.2.2.2.2.2.2.2.2.2.2.2.2.2.1),.int .i64 (g.2.2.2.2.2.2.2.2.2.2.2.2.2.2.2.2.2.2.2.2.2.2.2.2.2.2.2.2.2)] : List Value)[j]? = some v -> wd.drew.cell? ⟨w.heap.size,j,none⟩ = some v := fun {j v} hj=> by
  rw [(H.drew.get 0 rfl).cell,List.getElem?_toArray]
  exact hj
 have h2 : Ext (fun _=> False) wd.drew wd.drew := Ext.refl _ _
 refine ⟨Ext (fun _=> False) wd.drew,h2,?_⟩
 refine LdST.blk (ts := LiA30) (pre := []) (post := []) (t := 31) (x := g) (fun w' hw=> hw.blk (H.drew.get 0 rfl) id) rfl ?_
 refine ldS_ext (cl rfl) (ldS_ext (cl rfl) (ldS_ext (cl rfl) (ldS_ext (cl rfl) (ldS_ext (cl rfl) (ldS_ext (cl rfl) ?_)))))
 refine (Mat.c_check (ctm g) _).mono ?_
 rintro r w12 ⟨rfl,e12⟩
 refine ⟨e12,(c_mustG g _ _).mono (fun r w14 h=> ?_) fun v w14 h=> ?_⟩
 case refine_2=>
  obtain ⟨rfl,h0,e14⟩ := h
  have hm : Mat.okM (ctm g) = false := by
   cases hm : Mat.okM (ctm g) with
   | false=> rfl
   | true=> rw [hm] at h0; exact absurd rfl h0
  refine ⟨by rw [hm]; rfl,by unfold useG; rw [hm]; rfl,(hE.drew.tr e12).tr e14⟩
 obtain ⟨rfl,h0,e14⟩ := h
 have hm : Mat.okM (ctm r) = true := by
  cases hm : Mat.okM (ctm r) with
  | true=> rfl
  | false=> rw [hm] at h0; cases h0
 have H := (H.drew.keep e12).keep e14
 refine H.ldT (i := 0) (pre := (Sig.cells LiA30 r).take 22) (post := []) (ts := LiA28) (x := tx r) rfl rfl ?_
 refine H.nw fun w16 H=> ?_
 refine H.stT (i := 1) (pre := []) (post := []) (zs := [.int .i64 0,.int .i64 0,.int .i64 0,.int .i64 0,.int .i64 0,.int .i64 0,.string ⟨#[]⟩,.int .i64 0]) rfl rfl rfl fun w17 H=> ?_
 refine H.ld 1 rfl (x := tchar r) rfl (H.ld 1 rfl (x := tword r) rfl (H.ld 1 rfl (x := tscale r) rfl (H.ld 1 rfl (x := tlead r) rfl (H.ld 1 rfl (x := tsize r) rfl (H.ld 1 rfl (x := trise r) rfl ?_)))))
 have e17 := H.ext
 refine ⟨fun n st w1=> ∃ k : Nat,st = (k : Int) /\ k <= 6 /\ n = 6 - k /\ w1 = w17 /\ ∀ i,i < k -> inW ((texts r).getD i 0) = true,6,⟨0,rfl,by omega,rfl,rfl,fun i hi=> by omega⟩,?_⟩
 rintro n st w1 ⟨k,rfl,hk,rfl,rfl,hall⟩
 unfold S31L1
 refine Br.dec (fun q=> ?_) fun q=> ?_
 ·refine ⟨by omega,by omega,(texts r).getD k 0,?_,(c_fits _ _).mono (fun r2 w2 h=> ?_) fun v w2 h=> ?_⟩
  ·have hk6 : k < 6 := by omega
   rw [Int.toNat_natCast,Nat.mul_one]
   clear hall q
   rcases k with _ | _ | _ | _ | _ | _ | k
   all_goals first | rfl | omega
  ·obtain ⟨rfl,hw,rfl⟩ := h
   refine ⟨6 - (k + 1),by omega,k + 1,by rw [i64_id (by omega)]; rfl,by omega,rfl,rfl,fun i hi=> ?_⟩
   by_cases hik : i = k
   ·rw [hik]; exact hw
   ·exact hall i (by omega)
  ·obtain ⟨rfl,hw,rfl⟩ := h
   refine ⟨rfl,?_,e17⟩
   unfold useG
   rw [hm,Bool.true_and]
   cases ha : (texts r).all inW with
   | false=> rfl
   | true=>
    have := (all_iff _).1 ha k (by show k < 6; omega)
    rw [hw] at this
    cases this
 ·refine ⟨?_,e17⟩
  unfold useG
  rw [hm,Bool.true_and]
  exact (all_iff _).2 fun i hi=> hall i (by have : i < 6 := hi; omega)
theorem useG_in {g : GT} (h : useG g = true) : Mat.okM (ctm g) = true /\ inW (tchar g) = true /\ inW (tword g) = true /\ inW (tscale g) = true /\ inW (tsize g) = true /\ inW (trise g) = true := by
 unfold useG texts at h
 simp only [Bool.and_eq_true,List.all_cons,List.all_nil] at h
 exact ⟨h.1,h.2.1,h.2.2.1,h.2.2.2.1,h.2.2.2.2.2.1,h.2.2.2.2.2.2.1⟩
section
variable {w : World} {g : GT} {x : FT} {f : Font}
theorem c_scaled (x : FT) {n : Int} (hn : inW n = true) (hs : inW (tscale g) = true) (w : World) : C61 (hand g x) n w (fun r w1=> scaledP g n = some r /\ Ext (fun _=> False) w w1) fun v w1=> v = gup 2 /\ scaledP g n = none /\ Ext (fun _=> False) w w1 := by
 refine T61 _ _ _ _ _ ?_
 unfold S61
 refine Nw.of ?_
 have H := ha_blk w g x
 have hE := H.ext
 generalize w.alloc (.cells (Sig.cells LiA83 (hand g x)).toArray 84) = wd at *
 refine H.ld 0 rfl (x := tscale g) rfl ?_
 have hb := mul_bd (inW_spec.1 hn) (inW_spec.1 hs)
 rw [i64_id (n := n * tscale g) (by omega)]
 refine (c_Near (by omega) _).mono ?_
 rintro r e w2 ⟨rfl,rfl,e2⟩
 refine (c_mustI _ 0 _).mono (fun r w3 h=> ?_) fun v w3 h=> absurd rfl h.2.1
 obtain ⟨rfl,_,rfl⟩ := h
 refine (c_fits _ _).mono (fun r w3 h=> ?_) fun v w3 h=> ?_
 ·obtain ⟨rfl,hw,rfl⟩ := h
  exact ⟨by unfold scaledP; rw [if_pos hw],hE.tr e2⟩
 ·obtain ⟨rfl,hw,rfl⟩ := h
  exact ⟨rfl,by unfold scaledP; rw [if_neg (by rw [hw]; decide)],hE.tr e2⟩
theorem widthF_bd (h : mayF f = true) (code : Int) : 0 <= widthF f code /\ widthF f code <= 100000 := by
 unfold mayF at h
 simp only [Bool.and_eq_true,Fo.bnd,decide_eq_true_eq,List.all_eq_true] at h
 unfold widthF
 split
 ·exact h.1.1.1.2
 ·rename_i q
  have hil : (code - f.first).toNat < f.widths.length := by omega
  have := h.1.1.2 _ (List.getElem_mem hil)
  rw [List.getD_eq_getElem?_getD,List.getElem?_eq_getElem hil]
  exact this
theorem mayF_first (h : mayF f = true) : 0 <= f.first := by
 unfold mayF at h
 simp only [Bool.and_eq_true,Fo.bnd,decide_eq_true_eq,List.all_eq_true] at h
 exact h.1.1.1.1.1.1.2
theorem chk_may (h : chkF f = 0) : mayF f = true := by
 unfold chkF at h
 cases hm : mayF f with
 | true=> rfl
 | false=> rw [hm] at h; cases h
theorem c_wide (h : FoV w x f) (hm : mayF f = true) {code : Int} (hc : I64 code) : C35 (hand g x) code w (fun r w1=> widthP g f code = some r /\ Ext (fun _=> False) w w1) fun v w1=> v = gup 2 /\ widthP g f code = none /\ Ext (fun _=> False) w w1 := by
 refine T35 _ _ _ _ _ ?_
 unfold S35
 refine Nw.of ?_
 have H := ha_blk w g x
 have hE := H.ext
 generalize w.alloc (.cells (Sig.cells LiA83 (hand g x)).toArray 84) = wd at *
 have cl : ∀ {j : Nat} {v : Value},([.int .i64 (g.1),.int .i64 (g.2.1),.int .i64 (g.2.2.1),.int .i64 (g.2.2.2.1),.int .i64 (g.2.2.2.2.1),.int .i64 (g.2.2.2.2.2.1),.int .i64 (g.2.2.2.2.2.2.1),.int .i64 (g.2.2.2.2.2.2.2.1),.int .i64 (g.2.2.2.2.2.2.2.2.1),.int .i64 (g.2.2.2.2.2.2.2.2.2.1),Slc.v (g.2.2.2.2.2.2.2.2.2.2.1),.int .i64 (g.2.2.2.2.2.2.2.2.2.2.2.1),.int .i64 (g.2.2.2.2.2.2.2.2.2.2.2.2.1),.int .i64 (g.2.2.2.2.2.2.2.2.2.2.2.2.2.1),.int .i64 (g.2.2.2.2.2.2.2.2.2.2.2.2.2.2.1),.int .i64 (g.2.2.2.2.2.2.2.2.2.2.2.2.2.2.2.1),.int .i64 (g.2.2.2.2.2.2.2.2.2.2.2.2.2.2.2.2.1),.int .i64 (g.2.2.2.2.2.2.2.2.2.2.2.2.2.2.2.2.2.1),.int .i64 (g.2.2.2.2.2.2.2.2.2.2.2.2.2.2.2.2.2.2.1),.int .i64 (g.2.2.2.2.2.2.2.2.2.2.2.2.2.2.2.2.2.2.2.1),.int .i64 (g.2.2.2.2.2.2.2.2.2.2.2.2.2.2.2.2.2.2.2.2.1),.int .i64 (g.2.2.2.2.2.2.2.2.2.2.2.2.2.2.2.2.2.2.2.2.2.1),.int .i64 (g.2.2.2.2.2.2.2.2.2.2.2.2.2.2.2.2.2.2.2.2.2.2.1),.int .i64 (g.2.2.2.2.2.2.2.2.2.2.2.2.2.2.2.2.2.2.2.2.2.2.2.1),.int .i64 (g.2.2.2.2.2.2.2.2.2.2.2.2.2.2.2.2.2.2.2.2.2.2.2.2.1),.int .i64 (g.2.2.2.2.2.2.2.2.2.2.2.2.2.2.2.2.2.2.2.2.2.2.2.2.2.1),.int .i64 (g.2.2.2.2.2.2.2.2.2.2.2.2.2.2.2.2.2.2.2.2.2.2.2.2.2.2.1),.int .i64 (g.2.2.2.2.2.2.2.2.2.2.2.2.2.2.2.2.2.2.2.2.2.2.2.2.2.2.2.1),.string (g.2.2.2.2.2.2.2.2.2.2.2.2.2.2.2.2.2.2.2.2.2.2.2.2.2.2.2.2.1),.int .i64 (g.2.2.2.2.2.2.2.2.2.2.2.2.2.2.2.2.2.2.2.2.2.2.2.2.2.2.2.2.2),.string (x.1),.bool (x.2.1),.int .i64 (x.2.2.1),Slc.v (x.2.2.2.1),.int .i64 (x.2.2.2.2.1),Slc.v (x.2.2.2.2.2.1),Slc.v (x.2.2.2.2.2.2)] : List Value)[j]? = some v -> wd.drew.cell? ⟨w.heap.size,j,none⟩ = some v := fun {j v} hj=> by
  rw [(H.drew.get 0 rfl).cell,List.getElem?_toArray]
  exact hj
 refine ⟨Ext (fun _=> False) wd.drew,Ext.refl _ _,ldS_ext (x := tsize g) (cl rfl) ?_⟩
 refine LdST.blk (ts := LiA34) (pre := [.int .i64 (g.1),.int .i64 (g.2.1),.int .i64 (g.2.2.1),.int .i64 (g.2.2.2.1),.int .i64 (g.2.2.2.2.1),.int .i64 (g.2.2.2.2.2.1),.int .i64 (g.2.2.2.2.2.2.1),.int .i64 (g.2.2.2.2.2.2.2.1),.int .i64 (g.2.2.2.2.2.2.2.2.1),.int .i64 (g.2.2.2.2.2.2.2.2.2.1),Slc.v (g.2.2.2.2.2.2.2.2.2.2.1),.int .i64 (g.2.2.2.2.2.2.2.2.2.2.2.1),.int .i64 (g.2.2.2.2.2.2.2.2.2.2.2.2.1),.int .i64 (g.2.2.2.2.2.2.2.2.2.2.2.2.2.1),.int .i64 (g.2.2.2.2.2.2.2.2.2.2.2.2.2.2.1),.int .i64 (g.2.2.2.2.2.2.2.2.2.2.2.2.2.2.2.1),.int .i64 (g.2.2.2.2.2.2.2.2.2.2.2.2.2.2.2.2.1),.int .i64 (g.2.2.2.2.2.2.2.2.2.2.2.2.2.2.2.2.2.1),.int .i64 (g.2.2.2.2.2.2.2.2.2.2.2.2.2.2.2.2.2.2.1),.int .i64 (g.2.2.2.2.2.2.2.2.2.2.2.2.2.2.2.2.2.2.2.1),.int .i64 (g.2.2.2.2.2.2.2.2.2.2.2.2.2.2.2.2.2.2.2.2.1),.int .i64 (g.2.2.2.2.2.2.2.2.2.2.2.2.2.2.2.2.2.2.2.2.2.1),.int .i64 (g.2.2.2.2.2.2.2.2.2.2.2.2.2.2.2.2.2.2.2.2.2.2.1),.int .i64 (g.2.2.2.2.2.2.2.2.2.2.2.2.2.2.2.2.2.2.2.2.2.2.2.1),.int .i64 (g.2.2.2.2.2.2.2.2.2.2.2.2.2.2.2.2.2.2.2.2.2.2.2.2.1),.int .i64 (g.2.2.2.2.2.2.2.2.2.2.2.2.2.2.2.2.2.2.2.2.2.2.2.2.2.1),.int .i64 (g.2.2.2.2.2.2.2.2.2.2.2.2.2.2.2.2.2.2.2.2.2.2.2.2.2.2.1),.int .i64 (g.2.2.2.2.2.2.2.2.2.2.2.2.2.2.2.2.2.2.2.2.2.2.2.2.2.2.2.1),.string (g.2.2.2.2.2.2.2.2.2.2.2.2.2.2.2.2.2.2.2.2.2.2.2.2.2.2.2.2.1),.int .i64 (g.2.2.2.2.2.2.2.2.2.2.2.2.2.2.2.2.2.2.2.2.2.2.2.2.2.2.2.2.2)]) (post := []) (t := 84) (x := x) (fun w' hw=> hw.blk (H.drew.get 0 rfl) id) rfl ?_
 refine (c_width (h.keep hE.drew) (mayF_first hm) hc).mono ?_
 rintro r w8 ⟨rfl,e8⟩
 have hb := widthF_bd hm code
 rw [i64_id (n := 10 * widthF f code) (by omega)]
 refine ⟨e8,(c_mul2 _ _ _).mono ?_⟩
 rintro r e w11 ⟨hr,e11⟩
 have E := (hE.drew.tr e8).tr e11
 unfold widthP
 cases hp : mulO (tsize g) (10 * widthF f code) with
 | some n=>
  rw [hp] at hr
  obtain ⟨rfl,rfl⟩ := Prod.mk.inj hr
  exact (c_mustI _ 0 _).mono (fun r w3 h=> ⟨by rw [h.1],by rw [h.2.2]; exact E⟩) fun v w3 h=> absurd rfl h.2.1
 | none=>
  rw [hp] at hr
  obtain ⟨rfl,rfl⟩ := Prod.mk.inj hr
  exact (c_mustI _ 2 _).mono (fun r w3 h=> by cases h.2.1) fun v w3 h=> ⟨h.1,rfl,by rw [h.2.2]; exact E⟩
theorem elJ : El Tryz.prog 25 2 1 8 (.int .i64 0) := ⟨by kernel_rfl,by kernel_rfl,by kernel_rfl,by kernel_rfl,rfl⟩
theorem irow_of {s : Slc} {l : List Int} (h : VRow w s 1 (l.flatMap icell)) : IRow w s l := by
 refine ⟨VRow.count icell_len (by decide) h,fun i hi=> ?_⟩
 obtain ⟨a,ha,hc⟩ := VRow.elem icell_len h (List.getElem?_eq_getElem hi) (by decide)
 refine ⟨a,ha,?_⟩
 have := hc 0 _ rfl
 rw [Nat.mul_one,Nat.add_zero] at this
 rw [List.getD_eq_getElem?_getD,List.getElem?_eq_getElem hi]
 exact this
theorem c_step (h : FoV w x f) (hs : inW (tscale g) = true) {code wd : Int} : C34 (hand g x) code wd w (fun r w1=> stepP g f code wd = some r /\ Ext (fun _=> False) w w1) fun v w1=> v = gup 2 /\ stepP g f code wd = none /\ Ext (fun _=> False) w w1 := by
 refine T34 _ _ _ _ _ _ ?_
 unfold S34
 refine Nw.of ?_
 have H := ha_blk w g x
 generalize w.alloc (.cells (Sig.cells LiA83 (hand g x)).toArray 84) = wa at *
 have hlt := H.lt 0 rfl
 refine H.ld 0 rfl (x := tchar g) rfl (H.nw fun w6 H=> ?_)
 have key : ∀ (s : Slc) (wb : World),Hn w wb [(w.heap.size,[.int .i64 (g.1),.int .i64 (g.2.1),.int .i64 (g.2.2.1),.int .i64 (g.2.2.2.1),.int .i64 (g.2.2.2.2.1),.int .i64 (g.2.2.2.2.2.1),.int .i64 (g.2.2.2.2.2.2.1),.int .i64 (g.2.2.2.2.2.2.2.1),.int .i64 (g.2.2.2.2.2.2.2.2.1),.int .i64 (g.2.2.2.2.2.2.2.2.2.1),Slc.v (g.2.2.2.2.2.2.2.2.2.2.1),.int .i64 (g.2.2.2.2.2.2.2.2.2.2.2.1),.int .i64 (g.2.2.2.2.2.2.2.2.2.2.2.2.1),.int .i64 (g.2.2.2.2.2.2.2.2.2.2.2.2.2.1),.int .i64 (g.2.2.2.2.2.2.2.2.2.2.2.2.2.2.1),.int .i64 (g.2.2.2.2.2.2.2.2.2.2.2.2.2.2.2.1),.int .i64 (g.2.2.2.2.2.2.2.2.2.2.2.2.2.2.2.2.1),.int .i64 (g.2.2.2.2.2.2.2.2.2.2.2.2.2.2.2.2.2.1),.int .i64 (g.2.2.2.2.2.2.2.2.2.2.2.2.2.2.2.2.2.2.1),.int .i64 (g.2.2.2.2.2.2.2.2.2.2.2.2.2.2.2.2.2.2.2.1),.int .i64 (g.2.2.2.2.2.2.2.2.2.2.2.2.2.2.2.2.2.2.2.2.1),.int .i64 (g.2.2.2.2.2.2.2.2.2.2.2.2.2.2.2.2.2.2.2.2.2.1),.int .i64 (g.2.2.2.2.2.2.2.2.2.2.2.2.2.2.2.2.2.2.2.2.2.2.1),.int .i64 (g.2.2.2.2.2.2.2.2.2.2.2.2.2.2.2.2.2.2.2.2.2.2.2.1),.int .i64 (g.2.2.2.2.2.2.2.2.2.2.2.2.2.2.2.2.2.2.2.2.2.2.2.2.1),.int .i64 (g.2.2.2.2.2.2.2.2.2.2.2.2.2.2.2.2.2.2.2.2.2.2.2.2.2.1),.int .i64 (g.2.2.2.2.2.2.2.2.2.2.2.2.2.2.2.2.2.2.2.2.2.2.2.2.2.2.1),.int .i64 (g.2.2.2.2.2.2.2.2.2.2.2.2.2.2.2.2.2.2.2.2.2.2.2.2.2.2.2.1),.string (g.2.2.2.2.2.2.2.2.2.2.2.2.2.2.2.2.2.2.2.2.2.2.2.2.2.2.2.2.1),.int .i64 (g.2.2.2.2.2.2.2.2.2.2.2.2.2.2.2.2.2.2.2.2.2.2.2.2.2.2.2.2.2),.string (x.1),.bool (x.2.1),.int .i64 (x.2.2.1),Slc.v (x.2.2.2.1),.int .i64 (x.2.2.2.2.1),Slc.v (x.2.2.2.2.2.1),Slc.v (x.2.2.2.2.2.2)],84)] -> IRow wb s (stepL g f code wd) ->
   ∃ vS35 : World -> Prop,vS35 wb.drew /\ LdST vS35 (⟨w.heap.size,0,none⟩ : Addr) 0 LiA83 fun (x36 : HT)=>
    C63 s wb.drew fun r37 r38 vw39=>
     vS35 vw39 /\ C62 r37 r38 vw39 (fun r40 vw41=>
      vS35 vw41 /\ C61 x36 r40 vw41 (fun r42 vw43=> stepP g f code wd = some r42 /\ Ext (fun _=> False) w vw43) (fun v w1=> v = gup 2 /\ stepP g f code wd = none /\ Ext (fun _=> False) w w1)) (fun v w1=> v = gup 2 /\ stepP g f code wd = none /\ Ext (fun _=> False) w w1) := fun s wb Hb hI=> by
  have Hb := Hb.drew
  have EB := Hb.ext
  refine ⟨Ext (fun _=> False) wb.drew,Ext.refl _ _,?_⟩
  refine LdST.blk (ts := LiA83) (pre := []) (post := []) (t := 84) (x := hand g x) (fun w' hw=> hw.blk (Hb.get 0 rfl) id) rfl ?_
  refine (Pat.c_sum (hI.keep (Ext.refl _ _).drew) (by unfold stepL; split <;> simp)).mono ?_
  rintro r e w39 ⟨hr,e39⟩
  rw [sumF_res] at hr
  have E := EB.tr e39
  refine ⟨e39,?_⟩
  unfold stepP
  cases hp : sumO (stepL g f code wd) with
  | none=>
   rw [hp] at hr
   obtain ⟨rfl,rfl⟩ := Prod.mk.inj hr
   exact (c_mustI _ 2 _).mono (fun r w3 h=> by cases h.2.1) fun v w3 h=> ⟨h.1,rfl,by rw [h.2.2]; exact E⟩
  | some n=>
   rw [hp] at hr
   obtain ⟨rfl,rfl⟩ := Prod.mk.inj hr
   refine (c_mustI _ 0 _).mono (fun r w3 h=> ?_) fun v w3 h=> absurd rfl h.2.1
   obtain ⟨rfl,_,rfl⟩ := h
   exact ⟨e39,(c_scaled x (sumO_in hp) hs _).mono (fun r w4 h=> ⟨h.1,E.tr h.2⟩) fun v w4 h=> ⟨h.1,h.2.1,E.tr h.2.2⟩⟩
 have hB := H.get 1 rfl
 have H0 : Hn w w6 [(w.heap.size,[.int .i64 (g.1),.int .i64 (g.2.1),.int .i64 (g.2.2.1),.int .i64 (g.2.2.2.1),.int .i64 (g.2.2.2.2.1),.int .i64 (g.2.2.2.2.2.1),.int .i64 (g.2.2.2.2.2.2.1),.int .i64 (g.2.2.2.2.2.2.2.1),.int .i64 (g.2.2.2.2.2.2.2.2.1),.int .i64 (g.2.2.2.2.2.2.2.2.2.1),Slc.v (g.2.2.2.2.2.2.2.2.2.2.1),.int .i64 (g.2.2.2.2.2.2.2.2.2.2.2.1),.int .i64 (g.2.2.2.2.2.2.2.2.2.2.2.2.1),.int .i64 (g.2.2.2.2.2.2.2.2.2.2.2.2.2.1),.int .i64 (g.2.2.2.2.2.2.2.2.2.2.2.2.2.2.1),.int .i64 (g.2.2.2.2.2.2.2.2.2.2.2.2.2.2.2.1),.int .i64 (g.2.2.2.2.2.2.2.2.2.2.2.2.2.2.2.2.1),.int .i64 (g.2.2.2.2.2.2.2.2.2.2.2.2.2.2.2.2.2.1),.int .i64 (g.2.2.2.2.2.2.2.2.2.2.2.2.2.2.2.2.2.2.1),.int .i64 (g.2.2.2.2.2.2.2.2.2.2.2.2.2.2.2.2.2.2.2.1),.int .i64 (g.2.2.2.2.2.2.2.2.2.2.2.2.2.2.2.2.2.2.2.2.1),.int .i64 (g.2.2.2.2.2.2.2.2.2.2.2.2.2.2.2.2.2.2.2.2.2.1),.int .i64 (g.2.2.2.2.2.2.2.2.2.2.2.2.2.2.2.2.2.2.2.2.2.2.1),.int .i64 (g.2.2.2.2.2.2.2.2.2.2.2.2.2.2.2.2.2.2.2.2.2.2.2.1),.int .i64 (g.2.2.2.2.2.2.2.2.2.2.2.2.2.2.2.2.2.2.2.2.2.2.2.2.1),.int .i64 (g.2.2.2.2.2.2.2.2.2.2.2.2.2.2.2.2.2.2.2.2.2.2.2.2.2.1),.int .i64 (g.2.2.2.2.2.2.2.2.2.2.2.2.2.2.2.2.2.2.2.2.2.2.2.2.2.2.1),.int .i64 (g.2.2.2.2.2.2.2.2.2.2.2.2.2.2.2.2.2.2.2.2.2.2.2.2.2.2.2.1),.string (g.2.2.2.2.2.2.2.2.2.2.2.2.2.2.2.2.2.2.2.2.2.2.2.2.2.2.2.2.1),.int .i64 (g.2.2.2.2.2.2.2.2.2.2.2.2.2.2.2.2.2.2.2.2.2.2.2.2.2.2.2.2.2),.string (x.1),.bool (x.2.1),.int .i64 (x.2.2.1),Slc.v (x.2.2.2.1),.int .i64 (x.2.2.2.2.1),Slc.v (x.2.2.2.2.2.1),Slc.v (x.2.2.2.2.2.2)],84)] := Hn.left (M := [(wa.heap.size,[.int .i64 wd,.int .i64 (tchar g)],2)]) H
 refine Br.eq (fun q=> ?_) fun q=> key _ _ H0 ?_
 case refine_2=>
  unfold stepL
  rw [if_neg (by simp [q]),List.append_nil]
  exact row2 hB
 refine H.ld 0 rfl (x := x.2.1) rfl ?_
 rw [h.wide]
 cases hw : f.wide with
 | true=>
  refine Br.f rfl (key _ _ H0 ?_)
  unfold stepL
  rw [if_neg (by simp [hw]),List.append_nil]
  exact row2 hB
 | false=>
  refine Br.t rfl (H.ld 0 rfl (x := tword g) rfl (Nw.of ?_))
  have hrow : Row w6 ⟨some ⟨wa.heap.size,0,none⟩,2,2⟩ 2 1 ([wd,tchar g].flatMap icell) := ⟨rfl,.inr ⟨_,_,rfl,hB,Nat.le_refl _,rfl,rfl⟩⟩
  have e1 := (Ext.refl (fun _=> False) w6).alloc (.cells (icell (tword g)).toArray 2)
  obtain ⟨s',w',hrun,hrow,hlen',hext,hown⟩ := elJ.app1 (ty := 25) (ys := icell (tword g)) (hrow.keep e1 fun _ _ e=> e) (Blk.new w6 (icell (tword g)).toArray 2) rfl (icell_one _) (by show (2 + 1) * 8 <= 140737488355328; omega) (by show 2 + 1 <= 9223372036854775807; omega)
  refine ⟨s',w',hrun,key s' w' ((H0.keep e1).other hext fun j hj=> ?_) ?_⟩
  ·obtain ⟨a,ha,hb⟩ := hj
   cases ha
   have hb : wa.heap.size = j := hb
   exact ⟨by omega,by simp; omega⟩
  ·unfold stepL
   rw [if_pos ⟨q,hw⟩]
   exact irow_of (Row.view (by rw [List.flatMap_append]; simpa using hrow))
end
end Sw
end Go.Proofs.YtcblpehnkogfdaaGreatDoor
namespace Go.Proofs.YtcblpehnkogfdaaGreatDoor
namespace Sw
open Sh Mat Fix Fo
set_option maxRecDepth 4000
set_option maxHeartbeats 4000000
attribute [local irreducible] Ld St Nw Nn Lt LdS
theorem resM_yes {p : Option Mx} {r : Mx} (h : (r,(0 : Int)) = resM p) : p = some r := by
 cases p with
 | some q=> cases h; rfl
 | none=> cases h
theorem resM_no {p : Option Mx} {r : Mx} {e : Int} (h : (r,e) = resM p) (he : e ≠ 0) : p = none /\ e = 2 := by
 cases p with
 | some q=> cases h; exact absurd rfl he
 | none=> cases h; exact ⟨rfl,rfl⟩
theorem resP_yes {p : Option (Int × Int)} {r : Int × Int} (h : (r,(0 : Int)) = resP p) : p = some r := by
 cases p with
 | some q=> cases h; rfl
 | none=> cases h
theorem resP_no {p : Option (Int × Int)} {r : Int × Int} {e : Int} (h : (r,e) = resP p) (he : e ≠ 0) : p = none /\ e = 2 := by
 cases p with
 | some q=> cases h; exact absurd rfl he
 | none=> cases h; exact ⟨rfl,rfl⟩
theorem resI_yes {p : Option Int} {r : Int} (h : (r,(0 : Int)) = resI p) : p = some r := by
 cases p with
 | some q=> cases h; rfl
 | none=> cases h
theorem resI_no {p : Option Int} {r e : Int} (h : (r,e) = resI p) (he : e ≠ 0) : p = none /\ e = 2 := by
 cases p with
 | some q=> cases h; exact absurd rfl he
 | none=> cases h; exact ⟨rfl,rfl⟩
theorem c_sign {w : World} {g : GT} {x : FT} {f : Font} (hT : TB w) (h : FoV w x f) (hm : mayF f = true) (hg : useG g = true) {code : Int} (hc : I64 code) (m : Mx) :
  C92 (hand g x) m code w (fun r r2 w1=> signP g f m code = some (r,r2) /\ Ext (fun _=> False) w w1) fun v w1=> v = gup 2 /\ signP g f m code = none /\ Ext (fun _=> False) w w1 := by
 obtain ⟨g1,g2,g3,g4,g5,g6⟩ := useG_in hg
 refine T92 _ _ _ _ _ _ ?_
 unfold S92
 refine Nw.of ?_
 have H := ha_blk w g x
 generalize w.alloc (.cells (Sig.cells LiA83 (hand g x)).toArray 84) = wa at *
 refine H.nw fun w5 H=> H.nw fun w6 H=> H.nw fun w7 H=> ?_
 refine H.ldT (i := 0) (pre := (Sig.cells LiA30 g).take 22) (post := [.string (x.1),.bool (x.2.1),.int .i64 (x.2.2.1),Slc.v (x.2.2.2.1),.int .i64 (x.2.2.2.2.1),Slc.v (x.2.2.2.2.2.1),Slc.v (x.2.2.2.2.2.2)]) (ts := LiA28) (x := tx g) rfl rfl ?_
 refine H.nw fun w9 H=> ?_
 refine H.stT (i := 4) (pre := []) (post := []) (zs := [.int .i64 0,.int .i64 0,.int .i64 0,.int .i64 0,.int .i64 0,.int .i64 0,.string ⟨#[]⟩,.int .i64 0]) rfl rfl rfl fun w10 H=> ?_
 refine H.ld 1 rfl (x := m.1) rfl (H.ld 1 rfl (x := m.2.1) rfl (H.ld 1 rfl (x := m.2.2.1) rfl (H.ld 1 rfl (x := m.2.2.2.1) rfl (H.ld 1 rfl (x := m.2.2.2.2.1) rfl (H.ld 1 rfl (x := m.2.2.2.2.2) rfl ?_)))))
 refine H.ld 0 rfl (x := g.1) rfl (H.ld 0 rfl (x := g.2.1) rfl (H.ld 0 rfl (x := g.2.2.1) rfl (H.ld 0 rfl (x := g.2.2.2.1) rfl (H.ld 0 rfl (x := g.2.2.2.2.1) rfl (H.ld 0 rfl (x := g.2.2.2.2.2.1) rfl ?_)))))
 refine (Mat.c_mul m (ctm g) _).mono ?_
 rintro all e w25 ⟨hall,e25⟩
 have H := H.keep e25
 refine (c_mustM all e _).mono (fun r w27 h27=> ?_) fun v w27 h27=> ?_
 case refine_2=>
  obtain ⟨hn,rfl⟩ := resM_no hall h27.2.1
  exact ⟨h27.1,by unfold signP; rw [hn]; rfl,H.ext.tr h27.2.2⟩
 obtain ⟨rfl,rfl,e27⟩ := h27
 have hall := resM_yes hall
 have H := H.keep e27
 refine H.nw fun w28 H=> ?_
 simp only [List.nil_append,List.cons_append,List.set_cons_zero,List.set_cons_succ,Nat.zero_add] at H
 iterate 6 (refine H.st 5 rfl (by simp) fun _ H=> ?_; simp only [List.nil_append,List.cons_append,List.set_cons_zero,List.set_cons_succ,Nat.zero_add] at H)
 refine H.ldT (i := 0) (pre := []) (post := []) (ts := LiA83) (x := hand g x) rfl rfl ?_
 refine (c_wide (g := g) (h.keep H.ext) hm hc).mono (fun wd w37 h37=> ?_) fun v w37 h37=> ?_
 case refine_2=> exact ⟨h37.1,by unfold signP; rw [hall]; show Option.bind (widthP g f code) _ = _; rw [h37.2.1]; rfl,H.ext.tr h37.2.2⟩
 obtain ⟨hwd,e37⟩ := h37
 have H := H.keep e37
 refine H.ldT (i := 0) (pre := []) (post := []) (ts := LiA83) (x := hand g x) rfl rfl ?_
 refine (c_scaled x (mulO_in hwd) g4 _).mono (fun en w40 h40=> ?_) fun v w40 h40=> ?_
 case refine_2=> exact ⟨h40.1,by unfold signP; rw [hall]; show Option.bind (widthP g f code) _ = _; rw [hwd]; show Option.bind (scaledP g wd) _ = _; rw [h40.2.1]; rfl,H.ext.tr h40.2.2⟩
 obtain ⟨hen,e40⟩ := h40
 have H := (H.keep e40).drew
 have hsg : signP g f m code = (applyP r (0,trise g)).bind fun a=> (applyP r (en,trise g)).bind fun b=>
   (lenO r (0,tsize g)).bind fun hi=> (stepP g f code wd).bind fun st=> (mulP (moveM st 0) m).bind fun m'=> some ((code,⟨(sayF f code).toArray⟩,a.1,a.2,b.1,b.2,hi,tfont g,tmode g),m') := by
  unfold signP
  rw [hall]
  show Option.bind (widthP g f code) _ = _
  rw [hwd]
  show Option.bind (scaledP g wd) _ = _
  rw [hen]
  rfl
 have n1 : applyP r (0,trise g) = none -> signP g f m code = none := fun e=> by rw [hsg,e]; rfl
 have n2 : applyP r (en,trise g) = none -> signP g f m code = none := fun e=> by
  rw [hsg,e]
  cases applyP r (0,trise g) <;> rfl
 have n3 : lenO r (0,tsize g) = none -> signP g f m code = none := fun e=> by
  rw [hsg,e]
  cases applyP r (0,trise g)
  ·rfl
  ·cases applyP r (en,trise g) <;> rfl
 have H0 := H
 have E0 := H0.ext
 have cl : ∀ {i b j : Nat} {cs : List Value} {t : TypeId} {v : Value},_ = some (b,cs,t) -> cs[j]? = some v -> w40.drew.cell? ⟨b,j,none⟩ = some v := fun {i b j cs t v} hi hj=> by
  rw [(H0.get i hi).cell,List.getElem?_toArray]
  exact hj
 refine ⟨fun s ws=> ∃ (a b : Int × Int) (hi : Int) (bk : Nat),applyP r (0,trise g) = some a /\ applyP r (en,trise g) = some b /\ lenO r (0,tsize g) = some hi /\ s = ⟨bk,0,none⟩ /\ Ext (fun _=> False) w40.drew ws /\
  Blk ws bk (Sig.cells LiA69 (code,⟨(sayF f code).toArray⟩,a.1,a.2,b.1,b.2,hi,tfont g,tmode g)).toArray 70,?_,?_⟩
 case refine_1=>
  rintro s ws ⟨a,b,hi,bk,ha,hb,hh,rfl,es,hbk⟩
  unfold S92J1
  have H := (H0.keep es).drew
  have hbk : Blk ws.drew bk _ _ := hbk.drew
  have E1 := H.ext
  have cl : ∀ {i b j : Nat} {cs : List Value} {t : TypeId} {v : Value},_ = some (b,cs,t) -> cs[j]? = some v -> ws.drew.cell? ⟨b,j,none⟩ = some v := fun {i b j cs t v} hi hj=> by
   rw [(H.get i hi).cell,List.getElem?_toArray]
   exact hj
  refine ⟨Ext (fun _=> False) ws.drew,Ext.refl _ _,LdST.blk (ts := LiA69) (pre := []) (post := []) (t := 70) (x := (code,⟨(sayF f code).toArray⟩,a.1,a.2,b.1,b.2,hi,tfont g,tmode g)) (fun w' hw=> hw.blk hbk id) rfl ?_⟩
  refine LdST.blk (ts := LiA83) (pre := []) (post := []) (t := 84) (x := hand g x) (fun w' hw=> hw.blk (H.get 0 rfl) id) rfl ?_
  refine ldS_ext (x := m.1) (cl (i := 1) rfl rfl) (ldS_ext (x := m.2.1) (cl (i := 1) rfl rfl) (ldS_ext (x := m.2.2.1) (cl (i := 1) rfl rfl) (ldS_ext (x := m.2.2.2.1) (cl (i := 1) rfl rfl) (ldS_ext (x := m.2.2.2.2.1) (cl (i := 1) rfl rfl) (ldS_ext (x := m.2.2.2.2.2) (cl (i := 1) rfl rfl) ?_)))))
  have hsg2 : signP g f m code = (stepP g f code wd).bind fun st=> (mulP (moveM st 0) m).bind fun m'=> some ((code,⟨(sayF f code).toArray⟩,a.1,a.2,b.1,b.2,hi,tfont g,tmode g),m') := by
   rw [hsg,ha,hb,hh]
   rfl
  refine (c_step (g := g) (h.keep E1) g4).mono (fun st w179 h179=> ?_) fun v w179 h179=> ⟨h179.1,by rw [hsg2,h179.2.1]; rfl,E1.tr h179.2.2⟩
  obtain ⟨hst,e179⟩ := h179
  refine ⟨e179,(c_move st 0 _).mono ?_⟩
  rintro mv w181 ⟨rfl,e181⟩
  refine ⟨e179.tr e181,(Mat.c_mul (moveM st 0) m _).mono ?_⟩
  rintro nx e w184 ⟨hnx,e184⟩
  have e3 := (e179.tr e181).tr e184
  refine ⟨e3,(c_mustM nx e _).mono (fun r2 w186 h186=> ?_) fun v w186 h186=> ?_⟩
  case refine_2=>
   obtain ⟨hn,rfl⟩ := resM_no hnx h186.2.1
   exact ⟨h186.1,by rw [hsg2,hst]; show Option.bind (mulP (moveM st 0) m) _ = _; rw [hn]; rfl,(E1.tr e3).tr h186.2.2⟩
  obtain ⟨rfl,rfl,e186⟩ := h186
  have hnx := resM_yes hnx
  have H := H.keep (e3.tr e186)
  refine ⟨e3.tr e186,H.stT (i := 2) (ts := LiA69) (pre := []) (post := []) (zs := [.int .i64 0,.string ⟨#[]⟩,.int .i64 0,.int .i64 0,.int .i64 0,.int .i64 0,.int .i64 0,.string ⟨#[]⟩,.int .i64 0]) rfl rfl rfl fun w187 H=> ?_⟩
  simp only [List.nil_append,List.cons_append,List.set_cons_zero,List.set_cons_succ,Nat.zero_add] at H
  iterate 6 (refine H.st 3 rfl (by simp) fun _ H=> ?_; simp only [List.nil_append,List.cons_append,List.set_cons_zero,List.set_cons_succ,Nat.zero_add] at H)
  refine H.ldT (i := 2) (ts := LiA69) (pre := []) (post := []) (x := (code,⟨(sayF f code).toArray⟩,a.1,a.2,b.1,b.2,hi,tfont g,tmode g)) rfl rfl ?_
  iterate 6 refine H.ld 3 rfl rfl ?_
  exact ⟨by rw [hsg2,hst]; show Option.bind (mulP (moveM st 0) m) _ = _; rw [hnx]; rfl,H.ext⟩
 have fin : ∀ {a b : Int × Int} {hi : Int} {ws : World} {bk : Nat},applyP r (0,trise g) = some a -> applyP r (en,trise g) = some b -> lenO r (0,tsize g) = some hi ->
   Hn w40.drew ws [(bk,Sig.cells LiA69 (code,⟨(sayF f code).toArray⟩,a.1,a.2,b.1,b.2,hi,tfont g,tmode g),70)] -> ∃ (a b : Int × Int) (hi : Int) (bk' : Nat),applyP r (0,trise g) = some a /\ applyP r (en,trise g) = some b /\ lenO r (0,tsize g) = some hi /\ (⟨bk,0,none⟩ : Addr) = ⟨bk',0,none⟩ /\ Ext (fun _=> False) w40.drew ws /\
   Blk ws bk' (Sig.cells LiA69 (code,⟨(sayF f code).toArray⟩,a.1,a.2,b.1,b.2,hi,tfont g,tmode g)).toArray 70 := fun {a b hi ws bk} ha hb hh H=> ⟨a,b,hi,bk,ha,hb,hh,rfl,H.ext,H.get 0 rfl⟩
 refine ⟨Ext (fun _=> False) w40.drew,Ext.refl _ _,?_⟩
 refine LdST.blk (ts := LiA34) (pre := [.int .i64 (g.1),.int .i64 (g.2.1),.int .i64 (g.2.2.1),.int .i64 (g.2.2.2.1),.int .i64 (g.2.2.2.2.1),.int .i64 (g.2.2.2.2.2.1),.int .i64 (g.2.2.2.2.2.2.1),.int .i64 (g.2.2.2.2.2.2.2.1),.int .i64 (g.2.2.2.2.2.2.2.2.1),.int .i64 (g.2.2.2.2.2.2.2.2.2.1),Slc.v (g.2.2.2.2.2.2.2.2.2.2.1),.int .i64 (g.2.2.2.2.2.2.2.2.2.2.2.1),.int .i64 (g.2.2.2.2.2.2.2.2.2.2.2.2.1),.int .i64 (g.2.2.2.2.2.2.2.2.2.2.2.2.2.1),.int .i64 (g.2.2.2.2.2.2.2.2.2.2.2.2.2.2.1),.int .i64 (g.2.2.2.2.2.2.2.2.2.2.2.2.2.2.2.1),.int .i64 (g.2.2.2.2.2.2.2.2.2.2.2.2.2.2.2.2.1),.int .i64 (g.2.2.2.2.2.2.2.2.2.2.2.2.2.2.2.2.2.1),.int .i64 (g.2.2.2.2.2.2.2.2.2.2.2.2.2.2.2.2.2.2.1),.int .i64 (g.2.2.2.2.2.2.2.2.2.2.2.2.2.2.2.2.2.2.2.1),.int .i64 (g.2.2.2.2.2.2.2.2.2.2.2.2.2.2.2.2.2.2.2.2.1),.int .i64 (g.2.2.2.2.2.2.2.2.2.2.2.2.2.2.2.2.2.2.2.2.2.1),.int .i64 (g.2.2.2.2.2.2.2.2.2.2.2.2.2.2.2.2.2.2.2.2.2.2.1),.int .i64 (g.2.2.2.2.2.2.2.2.2.2.2.2.2.2.2.2.2.2.2.2.2.2.2.1),.int .i64 (g.2.2.2.2.2.2.2.2.2.2.2.2.2.2.2.2.2.2.2.2.2.2.2.2.1),.int .i64 (g.2.2.2.2.2.2.2.2.2.2.2.2.2.2.2.2.2.2.2.2.2.2.2.2.2.1),.int .i64 (g.2.2.2.2.2.2.2.2.2.2.2.2.2.2.2.2.2.2.2.2.2.2.2.2.2.2.1),.int .i64 (g.2.2.2.2.2.2.2.2.2.2.2.2.2.2.2.2.2.2.2.2.2.2.2.2.2.2.2.1),.string (g.2.2.2.2.2.2.2.2.2.2.2.2.2.2.2.2.2.2.2.2.2.2.2.2.2.2.2.2.1),.int .i64 (g.2.2.2.2.2.2.2.2.2.2.2.2.2.2.2.2.2.2.2.2.2.2.2.2.2.2.2.2.2)]) (post := []) (t := 84) (x := x) (fun w' hw=> hw.blk (H0.get 0 rfl) id) rfl ?_
 refine ldS_ext (x := r.1) (cl (i := 5) rfl rfl) (ldS_ext (x := r.2.1) (cl (i := 5) rfl rfl) (ldS_ext (x := r.2.2.1) (cl (i := 5) rfl rfl) (ldS_ext (x := r.2.2.2.1) (cl (i := 5) rfl rfl) (ldS_ext (x := r.2.2.2.2.1) (cl (i := 5) rfl rfl) (ldS_ext (x := r.2.2.2.2.2) (cl (i := 5) rfl rfl) ?_)))))
 refine ldS_ext (x := trise g) (cl (i := 4) rfl rfl) ?_
 refine ldS_ext (x := r.1) (cl (i := 5) rfl rfl) (ldS_ext (x := r.2.1) (cl (i := 5) rfl rfl) (ldS_ext (x := r.2.2.1) (cl (i := 5) rfl rfl) (ldS_ext (x := r.2.2.2.1) (cl (i := 5) rfl rfl) (ldS_ext (x := r.2.2.2.2.1) (cl (i := 5) rfl rfl) (ldS_ext (x := r.2.2.2.2.2) (cl (i := 5) rfl rfl) ?_)))))
 refine ldS_ext (x := trise g) (cl (i := 4) rfl rfl) ?_
 refine ldS_ext (x := r.1) (cl (i := 5) rfl rfl) (ldS_ext (x := r.2.1) (cl (i := 5) rfl rfl) (ldS_ext (x := r.2.2.1) (cl (i := 5) rfl rfl) (ldS_ext (x := r.2.2.2.1) (cl (i := 5) rfl rfl) (ldS_ext (x := r.2.2.2.2.1) (cl (i := 5) rfl rfl) (ldS_ext (x := r.2.2.2.2.2) (cl (i := 5) rfl rfl) ?_)))))
 refine ldS_ext (x := tsize g) (cl (i := 4) rfl rfl) (ldS_ext (x := tfont g) (cl (i := 4) rfl rfl) (ldS_ext (x := tmode g) (cl (i := 4) rfl rfl) ?_))
 have hsay : ∀ {L : List (Nat × List Value × TypeId)} {wb : World} {K : ByteArray -> World -> Prop},Hn w40.drew wb L -> (∀ w1,Hn w40.drew w1 L -> K ⟨(sayF f code).toArray⟩ w1) -> C120 x code wb K := fun {L wb K} H k=>
  (c_say (hT.keep (E0.tr H.ext)) (h.keep (E0.tr H.ext)) code).mono fun r w1 h1=> by rw [h1.1]; exact k w1 (H.keep h1.2)
 have happ : ∀ (p : Int × Int) {L : List (Nat × List Value × TypeId)} {wb : World} {K : Int × Int -> Int -> World -> Prop},Hn w40.drew wb L -> (∀ q e w1,(q,e) = resP (applyP r p) -> Hn w40.drew w1 L -> K q e w1) -> C122 r p wb K := fun p {L wb K} H k=>
  (c_apply r p wb).mono fun q e w1 h1=> k q e w1 h1.1 (H.keep h1.2)
 have hlen : ∀ {L : List (Nat × List Value × TypeId)} {wb : World} {K : Int -> Int -> World -> Prop},Hn w40.drew wb L -> (∀ q e w1,(q,e) = resI (lenO r (0,tsize g)) -> Hn w40.drew w1 L -> K q e w1) -> C123 r (0,tsize g) wb K := fun {L wb K} H k=>
  (c_length r (0,tsize g) wb).mono fun q e w1 h1=> k q e w1 (lenO_eq h1.1) (H.keep h1.2)
 have hmust : ∀ {p : Option (Int × Int)} {q : Int × Int} {e : Int} {L : List (Nat × List Value × TypeId)} {wb : World} {K : Int × Int -> World -> Prop},(q,e) = resP p -> (p = none -> signP g f m code = none) -> Hn w40.drew wb L -> (∀ a w1,p = some a -> Hn w40.drew w1 L -> K a w1) ->
   C121 q e wb K (fun v w1=> v = gup 2 /\ signP g f m code = none /\ Ext (fun _=> False) w w1) := fun {p q e L wb K} hr n H k=>
  (c_mustP q e wb).mono (fun q2 w1 h1=> by
   obtain ⟨rfl,rfl,e1⟩ := h1
   exact k _ w1 (resP_yes hr) (H.keep e1)) fun v w1 h1=> by
   obtain ⟨hn,rfl⟩ := resP_no hr h1.2.1
   exact ⟨h1.1,n hn,E0.tr (H.ext.tr h1.2.2)⟩
 have hmusi : ∀ {p : Option Int} {q : Int} {e : Int} {L : List (Nat × List Value × TypeId)} {wb : World} {K : Int -> World -> Prop},(q,e) = resI p -> (p = none -> signP g f m code = none) -> Hn w40.drew wb L -> (∀ a w1,p = some a -> Hn w40.drew w1 L -> K a w1) ->
   C62 q e wb K (fun v w1=> v = gup 2 /\ signP g f m code = none /\ Ext (fun _=> False) w w1) := fun {p q e L wb K} hr n H k=>
  (c_mustI q e wb).mono (fun q2 w1 h1=> by
   obtain ⟨rfl,rfl,rfl⟩ := h1
   exact k _ w1 (resI_yes hr) H) fun v w1 h1=> by
   obtain ⟨hn,rfl⟩ := resI_no hr h1.2.1
   exact ⟨h1.1,n hn,by rw [h1.2.2]; exact E0.tr H.ext⟩
 have H := Hn.start w40.drew
 refine ⟨?_,?_⟩
 ·refine hsay H fun w1 H=> ⟨H.ext,?_⟩
  refine ⟨?_,?_⟩
  ·refine happ _ H fun r e w1 hr H=> ⟨H.ext,?_⟩
   refine ⟨?_,?_⟩
   ·refine hmust hr n1 H fun a w1 ha H=> ⟨H.ext,?_⟩
    refine ⟨?_,?_⟩
    ·refine happ _ H fun r e w1 hr H=> ⟨H.ext,?_⟩
     refine ⟨?_,?_⟩
     ·refine hmust hr n2 H fun b w1 hb H=> ⟨H.ext,?_⟩
      refine ⟨?_,?_⟩
      ·refine hlen H fun r e w1 hr H=> ⟨H.ext,?_⟩
       refine ⟨?_,?_⟩
       ·refine hmusi hr n3 H fun hi w1 hh H=> ⟨H.ext,?_⟩
        refine H.nw fun w1 H=> ⟨H.ext,?_⟩
        refine H.stT (i := 0) (ts := LiA69) (pre := []) (post := []) (zs := [.int .i64 0,.string ⟨#[]⟩,.int .i64 0,.int .i64 0,.int .i64 0,.int .i64 0,.int .i64 0,.string ⟨#[]⟩,.int .i64 0]) rfl rfl rfl fun w1 H=> ?_
        exact fin ha hb hh H
       ·refine H.nw fun w1 H=> ⟨H.ext,?_⟩
        refine hmusi hr n3 H fun hi w1 hh H=> ⟨H.ext,?_⟩
        refine H.stT (i := 0) (ts := LiA69) (pre := []) (post := []) (zs := [.int .i64 0,.string ⟨#[]⟩,.int .i64 0,.int .i64 0,.int .i64 0,.int .i64 0,.int .i64 0,.string ⟨#[]⟩,.int .i64 0]) rfl rfl rfl fun w1 H=> ?_
        exact fin ha hb hh H
      ·refine H.nw fun w1 H=> ⟨H.ext,?_⟩
       refine hlen H fun r e w1 hr H=> ⟨H.ext,?_⟩
       refine hmusi hr n3 H fun hi w1 hh H=> ⟨H.ext,?_⟩
       refine H.stT (i := 0) (ts := LiA69) (pre := []) (post := []) (zs := [.int .i64 0,.string ⟨#[]⟩,.int .i64 0,.int .i64 0,.int .i64 0,.int .i64 0,.int .i64 0,.string ⟨#[]⟩,.int .i64 0]) rfl rfl rfl fun w1 H=> ?_
       exact fin ha hb hh H
     ·refine H.nw fun w1 H=> ⟨H.ext,?_⟩
      refine hmust hr n2 H fun b w1 hb H=> ⟨H.ext,?_⟩
      refine hlen H fun r e w1 hr H=> ⟨H.ext,?_⟩
      refine hmusi hr n3 H fun hi w1 hh H=> ⟨H.ext,?_⟩
      refine H.stT (i := 0) (ts := LiA69) (pre := []) (post := []) (zs := [.int .i64 0,.string ⟨#[]⟩,.int .i64 0,.int .i64 0,.int .i64 0,.int .i64 0,.int .i64 0,.string ⟨#[]⟩,.int .i64 0]) rfl rfl rfl fun w1 H=> ?_
      exact fin ha hb hh H
    ·refine H.nw fun w1 H=> ⟨H.ext,?_⟩
     refine happ _ H fun r e w1 hr H=> ⟨H.ext,?_⟩
     refine hmust hr n2 H fun b w1 hb H=> ⟨H.ext,?_⟩
     refine hlen H fun r e w1 hr H=> ⟨H.ext,?_⟩
     refine hmusi hr n3 H fun hi w1 hh H=> ⟨H.ext,?_⟩
     refine H.stT (i := 0) (ts := LiA69) (pre := []) (post := []) (zs := [.int .i64 0,.string ⟨#[]⟩,.int .i64 0,.int .i64 0,.int .i64 0,.int .i64 0,.int .i64 0,.string ⟨#[]⟩,.int .i64 0]) rfl rfl rfl fun w1 H=> ?_
     exact fin ha hb hh H
   ·refine H.nw fun w1 H=> ⟨H.ext,?_⟩
    refine hmust hr n1 H fun a w1 ha H=> ⟨H.ext,?_⟩
    refine happ _ H fun r e w1 hr H=> ⟨H.ext,?_⟩
    refine hmust hr n2 H fun b w1 hb H=> ⟨H.ext,?_⟩
    refine hlen H fun r e w1 hr H=> ⟨H.ext,?_⟩
    refine hmusi hr n3 H fun hi w1 hh H=> ⟨H.ext,?_⟩
    refine H.stT (i := 0) (ts := LiA69) (pre := []) (post := []) (zs := [.int .i64 0,.string ⟨#[]⟩,.int .i64 0,.int .i64 0,.int .i64 0,.int .i64 0,.int .i64 0,.string ⟨#[]⟩,.int .i64 0]) rfl rfl rfl fun w1 H=> ?_
    exact fin ha hb hh H
  ·refine H.nw fun w1 H=> ⟨H.ext,?_⟩
   refine happ _ H fun r e w1 hr H=> ⟨H.ext,?_⟩
   refine hmust hr n1 H fun a w1 ha H=> ⟨H.ext,?_⟩
   refine happ _ H fun r e w1 hr H=> ⟨H.ext,?_⟩
   refine hmust hr n2 H fun b w1 hb H=> ⟨H.ext,?_⟩
   refine hlen H fun r e w1 hr H=> ⟨H.ext,?_⟩
   refine hmusi hr n3 H fun hi w1 hh H=> ⟨H.ext,?_⟩
   refine H.stT (i := 0) (ts := LiA69) (pre := []) (post := []) (zs := [.int .i64 0,.string ⟨#[]⟩,.int .i64 0,.int .i64 0,.int .i64 0,.int .i64 0,.int .i64 0,.string ⟨#[]⟩,.int .i64 0]) rfl rfl rfl fun w1 H=> ?_
   exact fin ha hb hh H
 ·refine H.nw fun w1 H=> ⟨H.ext,?_⟩
  refine hsay H fun w1 H=> ⟨H.ext,?_⟩
  refine happ _ H fun r e w1 hr H=> ⟨H.ext,?_⟩
  refine hmust hr n1 H fun a w1 ha H=> ⟨H.ext,?_⟩
  refine happ _ H fun r e w1 hr H=> ⟨H.ext,?_⟩
  refine hmust hr n2 H fun b w1 hb H=> ⟨H.ext,?_⟩
  refine hlen H fun r e w1 hr H=> ⟨H.ext,?_⟩
  refine hmusi hr n3 H fun hi w1 hh H=> ⟨H.ext,?_⟩
  refine H.stT (i := 0) (ts := LiA69) (pre := []) (post := []) (zs := [.int .i64 0,.string ⟨#[]⟩,.int .i64 0,.int .i64 0,.int .i64 0,.int .i64 0,.int .i64 0,.string ⟨#[]⟩,.int .i64 0]) rfl rfl rfl fun w1 H=> ?_
  exact fin ha hb hh H
end Sw
end Go.Proofs.YtcblpehnkogfdaaGreatDoor
