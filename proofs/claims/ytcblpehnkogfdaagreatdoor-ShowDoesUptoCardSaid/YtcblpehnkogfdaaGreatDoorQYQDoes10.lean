/- The reference's fonts: units, text. Conditions: sizes. -/
import Derived.Test.YtcblpehnkogfdaaGreatDoorQYQDoes8
import Derived.Test.YtcblpehnkogfdaaGreatDoorQYQDoes9
import Derived.Test.YtcblpehnkogfdaaGreatDoorQYQDoes6
set_option linter.unusedVariables false
set_option linter.unusedSimpArgs false
namespace Go.Proofs.YtcblpehnkogfdaaGreatDoor
namespace Fo
open Sh Go.Lib
set_option maxRecDepth 4000
set_option maxHeartbeats 2000000
attribute [local irreducible] Ld St Nw Nn Lt LdS
def ubs (U : List Nat) : By := U.flatMap fun u=> [UInt8.ofNat (u / 256),UInt8.ofNat (u % 256)]
theorem ubs_len (U : List Nat) : (ubs U).length = 2 * U.length := by
 induction U with
 | nil=> rfl
 | cons u U ih=>
  have e : ubs (u :: U) = UInt8.ofNat (u / 256) :: UInt8.ofNat (u % 256) :: ubs U := rfl
  rw [e,List.length_cons,List.length_cons,ih,List.length_cons]
  omega
theorem ubs_app (U V : List Nat) : ubs (U ++ V) = ubs U ++ ubs V := List.flatMap_append
theorem ubs_at : ∀ (U : List Nat) (k : Nat) (h : k < U.length),(ubs U).getD (2 * k) 0 = UInt8.ofNat (U[k] / 256) /\ (ubs U).getD (2 * k + 1) 0 = UInt8.ofNat (U[k] % 256)
 | u :: U,0,_=> ⟨rfl,rfl⟩
 | u :: U,k + 1,h=> by
  have ih := ubs_at U k (by simpa using h)
  have e : ubs (u :: U) = UInt8.ofNat (u / 256) :: UInt8.ofNat (u % 256) :: ubs U := rfl
  rw [e,show 2 * (k + 1) = 2 * k + 1 + 1 by omega]
  exact ih
theorem ub_hi {u : Nat} (hu : u <= 65535) : ub (IntKind.i64.wrap (Int.tdiv (u : Int) 256)) = UInt8.ofNat (u / 256) := by
 rw [tdiv_id (by omega),show ((u : Int) / 256) = ((u / 256 : Nat) : Int) by omega,i64_id (by omega),ub_small (by omega)]
theorem ub_lo (u : Nat) : ub (Int.tmod (u : Int) 256) = UInt8.ofNat (u % 256) := by
 rw [tmod_id (by omega),show ((u : Int) % 256) = ((u % 256 : Nat) : Int) by omega,ub_small (by omega)]
theorem ubs_snoc {U : List Nat} {u : Nat} (hu : u <= 65535) : ubs U ++ [ub (IntKind.i64.wrap (Int.tdiv (u : Int) 256)),ub (Int.tmod (u : Int) 256)] = ubs (U ++ [u]) := by
 rw [ub_hi hu,ub_lo,ubs_app]
 rfl
theorem r_units {s : ByteArray} (hs : s.size <= 1048576) (w : World) : C106 s w fun r w1=> r = ⟨(ubs (Ut.unitsL (bl s))).toArray⟩ /\ Ext (fun _=> False) w w1 := by
 refine T106 _ _ _ ?_
 unfold S106
 refine Nw.of ?_
 have e2 := (Ext.refl (fun _=> False) w).alloc (.stringIter s 0)
 have hsl : (bl s).length = s.size := Array.length_toList
 refine ⟨fun m st w1=> ∃ (pos : Nat) (U : List Nat),w1.heap[w.heap.size]? = some (.stringIter s pos) /\ pos <= s.size /\ m = s.size - pos /\ BRow w1 st (ubs U) /\ U.length <= 2 * pos /\ U ++ Ut.unitsL ((bl s).drop pos) = Ut.unitsL (bl s) /\ (∀ j,st.own j -> w.heap.size <= j) /\ Ext (fun _=> False) w w1,s.size,
  ⟨0,[],by unfold World.alloc; simp,Nat.zero_le _,rfl,BRow.nil _,Nat.zero_le _,by rw [List.drop_zero]; rfl,fun j hj=> (no_own j hj).elim,e2⟩,?_⟩
 rintro m st w4 ⟨pos,U,hit,hp,rfl,hB,hlp,hlu,ho,e4⟩
 unfold S106L1
 refine ⟨s,pos,rfl,hit,?_⟩
 refine Br.dec (fun q=> ?_) fun q=> ?_
 ·have hne : (bl s).drop pos ≠ [] := fun e=> by
   have := congrArg List.length e
   rw [List.length_drop,hsl,List.length_nil] at this
   omega
  have hd := decodeL_drop s pos
  have hw := decodeL_width ((bl s).drop pos)
  have hle := decodeL_le ((bl s).drop pos) hne
  have hsc := Ut.rune_scalar ((bl s).drop pos)
  have hst := Ut.runes_step hne
  rw [List.length_drop,hsl] at hle
  have hd : decodeL ((bl s).drop pos) = Utf8.decode s pos := hd
  have hun : Ut.unitsL ((bl s).drop pos) = Ut.u16 (Utf8.decode s pos).1 ++ Ut.unitsL ((bl s).drop (pos + (Utf8.decode s pos).2)) := by
   unfold Ut.unitsL
   rw [hst,List.flatMap_cons,List.drop_drop,hd]
  rw [hd] at hw hle hsc
  rw [hun] at hlu
  generalize (Utf8.decode s pos).1 = c at *
  generalize (Utf8.decode s pos).2 = n at *
  have hb : w.heap.size < w4.heap.size := by
   rcases Nat.lt_or_ge w.heap.size w4.heap.size with h | h
   ·exact h
   ·rw [Array.getElem?_eq_none h] at hit
    cases hit
  have e5 := itW_ext w4 w.heap.size s (pos + n)
  have hit5 := itW_at (s := s) (p := pos + n) hb
  have hB5 : BRow (itW w4 w.heap.size s (pos + n)) st (ubs U) := hB.keep e5 fun j hj e=> by
   have e : j = w.heap.size := e
   subst e
   exact iter_own hB hit hj
  have E5 : Ext (fun _=> False) w (itW w4 w.heap.size s (pos + n)) := ext_new e4 e5 fun j e=> by
   have e : j = w.heap.size := e
   omega
  dsimp only
  generalize itW w4 w.heap.size s (pos + n) = w5 at *
  have hUl := ubs_len U
  rw [i64_id (n := (c : Int)) (by omega)]
  refine Br.dec (fun h1=> ?_) fun h1=> ?_
  ·have ha : IntKind.i64.wrap (55296 + IntKind.i64.wrap (Int.tdiv (IntKind.i64.wrap ((c : Int) - 65536)) 1024)) = ((55296 + (c - 65536) / 1024 : Nat) : Int) := by
    rw [i64_id (n := (c : Int) - 65536) (by omega),tdiv_id (by omega),i64_id (n := ((c : Int) - 65536) / 1024) (by omega),i64_id (by omega)]
    omega
   have hc : IntKind.i64.wrap (56320 + Int.tmod (IntKind.i64.wrap ((c : Int) - 65536)) 1024) = ((56320 + (c - 65536) % 1024 : Nat) : Int) := by
    rw [i64_id (n := (c : Int) - 65536) (by omega),tmod_id (by omega),i64_id (by omega)]
    omega
   have hu : Ut.u16 c = [55296 + (c - 65536) / 1024,56320 + (c - 65536) % 1024] := by unfold Ut.u16; rw [if_pos (by omega)]
   rw [hu] at hlu
   have b1 : 55296 + (c - 65536) / 1024 <= 65535 := by omega
   have b2 : 56320 + (c - 65536) % 1024 <= 65535 := by omega
   rw [ha,hc]
   generalize 55296 + (c - 65536) / 1024 = ua at *
   generalize 56320 + (c - 65536) % 1024 = ub' at *
   refine Lt.of ?_
   refine two_app E5 hB5 ho (by omega) fun s1 w1 hB1 ho1 E1 x1=> Lt.of ?_
   rw [ubs_snoc b1] at hB1
   have hit1 : w1.heap[w.heap.size]? = some (.stringIter s (pos + n)) := by rw [x1.block _ (by have := e5.size; omega) (iter_own hB5 hit5)]; exact hit5
   refine two_app E1 hB1 ho1 (by rw [ubs_len,List.length_append,List.length_cons,List.length_nil]; omega) fun s2 w2 hB2 ho2 E2 x2=> ?_
   rw [ubs_snoc b2] at hB2
   have hit2 : w2.heap[w.heap.size]? = some (.stringIter s (pos + n)) := by
    rw [x2.block _ (by have := e5.size; have := x1.size; omega) (iter_own hB1 hit1)]
    exact hit1
   refine ⟨s.size - (pos + n),by omega,pos + n,_,hit2,by omega,rfl,hB2,?_,?_,ho2,E2⟩
   ·simp only [List.length_append,List.length_cons,List.length_nil]
    omega
   ·rw [<- hlu]
    simp
  ·have hu : Ut.u16 c = [c] := by unfold Ut.u16; rw [if_neg (by omega)]
   rw [hu] at hlu
   refine two_app E5 hB5 ho (by omega) fun s1 w1 hB1 ho1 E1 x1=> ?_
   rw [ubs_snoc (by omega)] at hB1
   have hit1 : w1.heap[w.heap.size]? = some (.stringIter s (pos + n)) := by rw [x1.block _ (by have := e5.size; omega) (iter_own hB5 hit5)]; exact hit5
   refine ⟨s.size - (pos + n),by omega,pos + n,_,hit1,by omega,rfl,hB1,?_,?_,ho1,E1⟩
   ·simp only [List.length_append,List.length_cons,List.length_nil]
    omega
   ·rw [<- hlu]
    simp
 ·have : pos = s.size := by omega
  subst this
  rw [show (bl s).drop s.size = [] by rw [<- hsl,List.drop_length]] at hlu
  refine ⟨_,_,str_row hB,?_,e4⟩
  rw [<- hlu]
  simp [Ut.unitsL,Ut.runes_nil]
theorem r_one {U : List Nat} {s : ByteArray} (hs : bl s = ubs U) (hl : U.length <= 1099511627776) {k : Nat} {u : Nat} (hk : U[k]? = some u) (h16 : u <= 65535) {i : Int} (hi : i = ((2 * k : Nat) : Int)) (w : World) :
  C145 s i w fun r w1=> r = (u : Int) /\ Ext (fun _=> False) w w1 := by
 subst hi
 obtain ⟨hkl,rfl⟩ := List.getElem?_eq_some_iff.1 hk
 refine T145 _ _ _ _ ?_
 unfold S145
 have hsz : s.size = 2 * U.length := by rw [bl_size,hs,ubs_len]
 obtain ⟨g0,g1⟩ := ubs_at U k hkl
 have hb0 : bAt s ((2 * k : Nat) : Int) = (((bl s).getD (2 * k) 0).toNat : Int) := bAt_list s (2 * k)
 have hb1 : bAt s ((2 * k + 1 : Nat) : Int) = (((bl s).getD (2 * k + 1) 0).toNat : Int) := bAt_list s (2 * k + 1)
 rw [hs,g0] at hb0
 rw [hs,g1] at hb1
 have n0 : (UInt8.ofNat (U[k] / 256)).toNat = U[k] / 256 := by rw [UInt8.toNat_ofNat']; omega
 have n1 : (UInt8.ofNat (U[k] % 256)).toNat = U[k] % 256 := by rw [UInt8.toNat_ofNat']; omega
 rw [n0] at hb0
 rw [n1] at hb1
 have ek : IntKind.i64.wrap (((2 * k : Nat) : Int) + 1) = ((2 * k + 1 : Nat) : Int) := by rw [i64_id (by omega)]; rfl
 rw [ek,hb0,hb1]
 refine ⟨by omega,by omega,by omega,by omega,Lt.of ⟨?_,(Ext.refl _ w).drew⟩⟩
 rw [i64_id (n := ((U[k] / 256 : Nat) : Int)) (by omega),i64_id (n := ((U[k] % 256 : Nat) : Int)) (by omega),i64_id (n := 256 * ((U[k] / 256 : Nat) : Int)) (by omega),i64_id (by omega)]
 omega
def rcell (c : Nat) : List Value := [.int .i32 (c : Int)]
theorem rcell_len (c : Nat) : (rcell c).length = 1 := rfl
theorem rcell_one (c : Nat) : ∀ v ∈ rcell c,v.oneCell' = true := fun v hv=> by
 simp only [rcell,List.mem_cons,List.not_mem_nil,or_false] at hv
 subst hv
 rfl
theorem elR : El Tryz.prog 182 21 1 4 (.int .i32 0) := ⟨by kernel_rfl,by kernel_rfl,by kernel_rfl,by kernel_rfl,rfl⟩
theorem rune_app {wb w : World} {s : Slc} {l : List Nat} (hE : Ext (fun _=> False) wb w) (own : Row w s 21 1 (l.flatMap rcell)) (ho : ∀ j,s.own j -> wb.heap.size <= j) (hl : l.length <= 4194304) {n : Int} {c : Nat} (hn : IntKind.i32.wrap n = (c : Int)) {K : Slc -> World -> Prop}
  (kk : ∀ s' w',Row w' s' 21 1 ((l ++ [c]).flatMap rcell) -> (∀ j,s'.own j -> wb.heap.size <= j) -> Ext (fun _=> False) wb w' -> K s' w') :
  Nw w (.cells #[.int .i32 (IntKind.i32.wrap n)] 21) fun w1=>
   Rn Tryz.prog (Builtin.append_ #[182,182] 182 #[Slc.v s,Slc.v ((⟨some ⟨w.heap.size,0,none⟩,1,1⟩ : Slc))]) w1 Slc.v fun (x10 : Slc) vw11=> K x10 vw11 := by
 rw [hn]
 refine Nw.of ?_
 have hsl : s.len = l.length := VRow.count rcell_len (by decide) (Row.view own)
 have e1 := (Ext.refl (fun _=> False) w).alloc (.cells (rcell c).toArray 21)
 obtain ⟨s',w',hrun,hrow,hlen',hext,hown⟩ := elR.app1 (ty := 182) (ys := rcell c) (own.keep e1 fun _ _ e=> e) (Blk.new w (rcell c).toArray 21) rfl (rcell_one _) (by omega) (by omega)
 refine ⟨s',w',hrun,kk s' w' (by rw [List.flatMap_append]; simpa using hrow) (fun j hj=> ?_) (ext_new (hE.tr e1) hext ho)⟩
 rcases hown j hj with e | e
 ·exact ho j e
 ·have h1 := (hE.tr e1).size
  omega
theorem bl_append (a b : ByteArray) : bl (a ++ b) = bl a ++ bl b := by
 unfold bl
 rw [ByteArray.data_append,Array.toList_append]
theorem bytes_fold (l : List Nat) : ∀ r : ByteArray,bl ((l.map fun (c : Nat)=> (c : Int)).foldl (fun r n=> r ++ Utf8.encode n) r) = bl r ++ l.flatMap fun (c : Nat)=> bl (Utf8.encode (c : Int)) := by
 induction l with
 | nil=> intro r; simp
 | cons c l ih=>
  intro r
  rw [List.map_cons,List.foldl_cons,ih,List.flatMap_cons,bl_append,List.append_assoc]
def Scal (c : Nat) : Prop := c < 55296 \/ (57344 <= c /\ c <= 1114111)
theorem runes_bytes {l : List Nat} (hl : ∀ c ∈ l,Scal c) : bl (runesBytes (l.map fun (c : Nat)=> (c : Int))) = l.flatMap fun (c : Nat)=> encodeRune (c : Int) := by
 unfold runesBytes
 rw [bytes_fold]
 have e : bl ByteArray.empty = [] := rfl
 rw [e,List.nil_append]
 have : ∀ l : List Nat,(∀ c ∈ l,Scal c) -> (l.flatMap fun (c : Nat)=> bl (Utf8.encode (c : Int))) = l.flatMap fun (c : Nat)=> encodeRune (c : Int) := by
  intro l hl
  induction l with
  | nil=> rw [List.flatMap_nil,List.flatMap_nil]
  | cons c l ih=>
   rw [List.flatMap_cons,List.flatMap_cons,ih fun x hx=> hl x (List.mem_cons_of_mem _ hx),enc_eq (hl c List.mem_cons_self)]
   rfl
 exact this l hl
theorem rcells_map (l : List Nat) : l.flatMap rcell = l.map fun c : Nat=> Value.int .i32 (c : Int) := by
 induction l with
 | nil=> rfl
 | cons c l ih=> rw [List.flatMap_cons,ih]; rfl
theorem runes_str {w : World} {s : Slc} {l : List Nat} (h : Row w s 21 1 (l.flatMap rcell)) (hl : ∀ c ∈ l,Scal c) {K : ByteArray -> World -> Prop} (k : ∀ r,bl r = (l.flatMap fun (c : Nat)=> encodeRune (c : Int)) -> K r w) :
  Rn Tryz.prog (convert 182 9 (Slc.v s)) w Value.string fun (x : ByteArray) w'=> K x w' := by
 have hsl : s.len = l.length := VRow.count rcell_len (by decide) (Row.view h)
 have hv := Row.view h
 obtain ⟨p,len,cap⟩ := s
 have hsl : len = l.length := hsl
 cases p with
 | none=>
  have hz : l = [] := by
   cases l with
   | nil=> rfl
   | cons c r=>
    obtain ⟨a,ha,_⟩ := hv.2 0 (.int .i32 (c : Int)) rfl
    cases ha
  subst hz
  exact ⟨_,_,run_convert_runes_nil w 182 9 21 len cap (by kernel_rfl) (by kernel_rfl) (by kernel_rfl),k _ rfl⟩
 | some a=>
  refine ⟨_,_,run_convert_runes (P := Tryz.prog) w 182 9 21 a len cap (l.map fun (c : Nat)=> (c : Int)) (by rw [List.length_map]; omega) (by kernel_rfl) (by kernel_rfl) (by kernel_rfl) fun j hj=> ?_,k _ ?_⟩
  ·rw [List.length_map] at hj
   obtain ⟨a',ha,hc⟩ := hv.2 j (.int .i32 ((l.map fun (c : Nat)=> (c : Int)).getD j 0)) (by
    rw [rcells_map,List.getElem?_map,List.getElem?_eq_getElem hj,List.getD_eq_getElem?_getD,List.getElem?_map,List.getElem?_eq_getElem hj]
    rfl)
   cases ha
   exact hc
  ·rw [List.take_of_length_le (by rw [List.length_map]; omega)]
   exact runes_bytes hl
end Fo
end Go.Proofs.YtcblpehnkogfdaaGreatDoor

/- The reference's fonts: characters of units, mappings. Conditions: sizes. -/
namespace Go.Proofs.YtcblpehnkogfdaaGreatDoor
namespace Fo
open Sh Go.Lib
set_option maxRecDepth 100000
set_option maxHeartbeats 2000000
attribute [local irreducible] Ld St Nw Nn Lt LdS
theorem u16s_len : ∀ D : List Nat,(D.flatMap Ut.u16).length <= 2 * D.length
 | []=> Nat.zero_le _
 | c :: D=> by
  have := u16s_len D
  rw [List.flatMap_cons,List.length_append,List.length_cons,u16_len]
  split <;> omega
theorem get_mid {A B : List Nat} {u : Nat} : (A ++ u :: B)[A.length]? = some u := by simp
theorem i32_id {n : Int} (h : -2147483648 <= n /\ n <= 2147483647) : IntKind.i32.wrap n = n := IntWalk.i32_in n h
theorem r_utf {C : List Nat} (hC : ∀ c ∈ C,Scal c) (hl : C.length <= 1048576) {s : ByteArray} (hs : bl s = ubs (C.flatMap Ut.u16)) (w : World) :
  C127 s w fun r e w1=> e = 0 /\ bl r = (C.flatMap fun (c : Nat)=> encodeRune (c : Int)) /\ Ext (fun _=> False) w w1 := by
 refine T127 _ _ _ ?_
 unfold S127
 have hsz : s.size = 2 * (C.flatMap Ut.u16).length := by rw [bl_size,hs,ubs_len]
 have hul := u16s_len C
 have ht : Int.tmod ((s.size : Nat) : Int) 2 = 0 := by rw [tmod_id (by omega)]; omega
 rw [ht]
 refine Br.f rfl ?_
 refine ⟨fun n st w1=> ∃ C1 C2 : List Nat,C = C1 ++ C2 /\ st.2 = ((2 * (C1.flatMap Ut.u16).length : Nat) : Int) /\ n = C2.length /\ Row w1 st.1 21 1 (C1.flatMap rcell) /\ (∀ j,st.1.own j -> w.heap.size <= j) /\ Ext (fun _=> False) w w1,C.length,⟨[],C,rfl,rfl,rfl,Row.nil _ _ _,fun j hj=> (no_own j hj).elim,Ext.refl _ _⟩,?_⟩
 rintro n ⟨st,i'⟩ w3 ⟨C1,C2,hCC,hi,rfl,hR,ho,e3⟩
 simp only at hi hR ho
 subst hi
 unfold S127L1
 dsimp only
 cases C2 with
 | nil=>
  rw [List.append_nil] at hCC
  subst hCC
  refine Br.f (by rw [decide_eq_false_iff_not]; omega) ?_
  exact runes_str hR hC fun r hr=> ⟨rfl,hr,e3⟩
 | cons c C2=>
  have hc : Scal c := hC c (by rw [hCC]; simp)
  have hfl : C.flatMap Ut.u16 = C1.flatMap Ut.u16 ++ (Ut.u16 c ++ C2.flatMap Ut.u16) := by rw [hCC,List.flatMap_append,List.flatMap_cons]
  have hcl : C.length = C1.length + (C2.length + 1) := by rw [hCC,List.length_append,List.length_cons]
  have hn : (C1 ++ [c]) ++ C2 = C := by rw [hCC]; simp
  have hl1 : ((C1 ++ [c]).flatMap Ut.u16).length = (C1.flatMap Ut.u16).length + (Ut.u16 c).length := by rw [List.flatMap_append,List.length_append,List.flatMap_cons,List.flatMap_nil,List.append_nil]
  have hll := congrArg List.length hfl
  rw [List.length_append,List.length_append] at hll
  unfold Scal at hc
  by_cases h2 : 65535 < c
  ·have hu : Ut.u16 c = [55296 + (c - 65536) / 1024,56320 + (c - 65536) % 1024] := by unfold Ut.u16; rw [if_pos h2]
   rw [hu] at hfl hl1 hll
   simp only [List.length_cons,List.length_nil] at hl1 hll
   have b1 : 55296 <= 55296 + (c - 65536) / 1024 /\ 55296 + (c - 65536) / 1024 <= 56319 := by omega
   have b2 : 56320 <= 56320 + (c - 65536) % 1024 /\ 56320 + (c - 65536) % 1024 <= 57343 := by omega
   have b3 : 65536 + 1024 * (55296 + (c - 65536) / 1024 - 55296) + (56320 + (c - 65536) % 1024) - 56320 = c := by omega
   generalize 55296 + (c - 65536) / 1024 = ua at *
   generalize 56320 + (c - 65536) % 1024 = uc at *
   have k0 : (C.flatMap Ut.u16)[(C1.flatMap Ut.u16).length]? = some ua := by rw [hfl]; exact get_mid
   have k1 : (C.flatMap Ut.u16)[(C1.flatMap Ut.u16).length + 1]? = some uc := by
    rw [hfl,List.getElem?_append_right (by omega)]
    simp
   generalize (C1.flatMap Ut.u16).length = k at *
   refine Br.t (by rw [decide_eq_true_eq]; omega) ((r_one hs (by omega) k0 (by omega) rfl w3).mono ?_)
   rintro r5 w6 ⟨rfl,e6⟩
   have ek : IntKind.i64.wrap (((2 * k : Nat) : Int) + 2) = ((2 * (k + 1) : Nat) : Int) := by rw [i64_id (by omega)]; omega
   refine ⟨fun _ w'=> Ext (fun _=> False) w3 w',fun _ w' e'=> ?_,Br.f (by rw [decide_eq_false_iff_not]; omega) e6⟩
   unfold S127J1
   dsimp only
   rw [ek]
   refine Br.t (by rw [decide_eq_true_eq]; omega) (Br.t (by rw [decide_eq_true_eq]; omega) (Br.f (by rw [decide_eq_false_iff_not]; omega) ?_))
   refine (r_one hs (by omega) k1 (by omega) rfl w').mono ?_
   rintro r13 w14 ⟨h13,e14⟩
   refine Br.dec (fun q=> ?_) fun q=> ?_
   ·rw [h13] at q; omega
   refine (r_one hs (by omega) k1 (by omega) rfl w14).mono ?_
   rintro r15 w16 ⟨h15,e16⟩
   refine Br.dec (fun q=> ?_) fun q=> ?_
   ·rw [h15] at q; omega
   refine (r_one hs (by omega) k1 (by omega) rfl w16).mono ?_
   rintro r17 w18 ⟨rfl,e18⟩
   have E18 := e'.tr (e14.tr (e16.tr e18))
   have ev : IntKind.i32.wrap (IntKind.i64.wrap (IntKind.i64.wrap (IntKind.i64.wrap (65536 + IntKind.i64.wrap (1024 * IntKind.i64.wrap ((ua : Int) - 55296))) + (uc : Int)) - 56320)) = (c : Int) := by
    rw [i64_id (n := (ua : Int) - 55296) (by omega),i64_id (n := 1024 * ((ua : Int) - 55296)) (by omega),i64_id (n := 65536 + 1024 * ((ua : Int) - 55296)) (by omega),i64_id (n := 65536 + 1024 * ((ua : Int) - 55296) + (uc : Int)) (by omega),i64_id (n := 65536 + 1024 * ((ua : Int) - 55296) + (uc : Int) - 56320) (by omega),i32_id (by omega)]
    omega
   refine Lt.of (rune_app (e3.tr E18) (hR.keep E18 fun _ _ e=> e) ho (by omega) ev fun s' w' h1 h2 h3=> ?_)
   exact ⟨C2.length,by simp,C1 ++ [c],C2,hn.symm,by rw [hl1,i64_id (by omega)]; show _ = _; omega,rfl,h1,h2,h3⟩
  ·have hu : Ut.u16 c = [c] := by unfold Ut.u16; rw [if_neg h2]
   rw [hu] at hfl hl1 hll
   simp only [List.length_cons,List.length_nil] at hl1 hll
   have k0 : (C.flatMap Ut.u16)[(C1.flatMap Ut.u16).length]? = some c := by rw [hfl]; exact get_mid
   generalize (C1.flatMap Ut.u16).length = k at *
   refine Br.t (by rw [decide_eq_true_eq]; omega) ((r_one hs (by omega) k0 (by omega) rfl w3).mono ?_)
   rintro r5 w6 ⟨rfl,e6⟩
   have ek : IntKind.i64.wrap (((2 * k : Nat) : Int) + 2) = ((2 * (k + 1) : Nat) : Int) := by rw [i64_id (by omega)]; omega
   refine ⟨fun _ w'=> Ext (fun _=> False) w3 w',fun _ w' e'=> ?_,Br.dec (fun q1=> Br.dec (fun q2=> absurd hc (by omega)) fun q2=> e6) fun q1=> e6⟩
   unfold S127J1
   dsimp only
   rw [ek]
   have fin : Nw w' (.cells #[.int .i32 (IntKind.i32.wrap (c : Int))] 21) fun w1=> Rn Tryz.prog (Builtin.append_ #[182,182] 182 #[Slc.v st,Slc.v ((⟨some ⟨w'.heap.size,0,none⟩,1,1⟩ : Slc))]) w1 Slc.v fun (x10 : Slc) vw11=>
     ∃ m,m < C2.length + 1 /\ ∃ C1' C2' : List Nat,C = C1' ++ C2' /\ ((2 * (k + 1) : Nat) : Int) = ((2 * (C1'.flatMap Ut.u16).length : Nat) : Int) /\ m = C2'.length /\ Row vw11 x10 21 1 (C1'.flatMap rcell) /\ (∀ j,x10.own j -> w.heap.size <= j) /\ Ext (fun _=> False) w vw11 :=
    rune_app (e3.tr e') (hR.keep e' fun _ _ e=> e) ho (by omega) (i32_id (by omega)) fun s' w' h1 h2 h3=> ⟨C2.length,by omega,C1 ++ [c],C2,hn.symm,by rw [hl1],rfl,h1,h2,h3⟩
   exact Br.dec (fun q1=> Br.dec (fun q2=> absurd hc (by omega)) fun q2=> fin) fun q1=> fin
theorem runes_len : ∀ l : By,(Ut.runes l).length <= l.length :=
 Ut.runes_ind (Nat.le_refl _) fun l hne ih=> by
  have hw := decodeL_width l
  have hp := List.length_pos_iff.2 hne
  rw [Ut.runes_step hne,List.length_cons]
  rw [List.length_drop] at ih
  omega
theorem r_utf8 {s : ByteArray} (hs : s.size <= 1048576) (w : World) : C105 s w fun r w1=> r = validD (bl s) /\ Ext (fun _=> False) w w1 := by
 refine T105 _ _ _ ?_
 unfold S105
 refine (r_units hs w).mono ?_
 rintro r2 w3 ⟨rfl,e3⟩
 have hrl := runes_len (bl s)
 have hbl := bl_size s
 refine (r_utf (C := Ut.runes (bl s)) (Ut.runes_scalar (bl s)) (by omega) (s := ⟨(ubs (Ut.unitsL (bl s))).toArray⟩) rfl w3).mono ?_
 rintro r4 r5 w6 ⟨rfl,hr4,e6⟩
 refine Br.t rfl ⟨?_,e3.tr e6⟩
 rw [show (r4.toList == s.toList) = decide (bl r4 = bl s) from Opr.eqB r4 s,hr4]
 have := Ut.enc_runes (bl s)
 cases hv : validD (bl s) with
 | true=> exact decide_eq_true (this.2 hv)
 | false=> exact decide_eq_false fun e=> by rw [this.1 e] at hv; cases hv
theorem r_mapsE {w : World} {s : Slc} {l : List (Int × ByteArray)} (hV : VRow w s 2 (l.flatMap mcells)) (hl : l.length <= 1048576) (hz : ∀ x ∈ l,x.2.size <= 1048576) (wide : Bool) : C68 s wide w fun r w1=> r = mapsE l wide /\ Ext (fun _=> False) w w1 := by
 have hlen : s.len = l.length := VRow.count mcells_len (by decide) hV
 refine T68 _ _ _ _ ?_
 unfold S68
 have key : S68J1 s (fun r w1=> r = mapsE l wide /\ Ext (fun _=> False) w w1) (if wide then 65535 else 255) w := by
  unfold S68J1 mapsE
  rw [hlen]
  generalize (if wide then (65535 : Int) else 255) = most
  refine Br.dec (fun q=> ⟨by rw [if_pos (by omega)],Ext.refl _ _⟩) fun q=> ?_
  rw [if_neg (by omega)]
  refine ⟨fun m st w1=> ∃ (i : Nat) (prev : Option Int),st = (i : Int) /\ i <= l.length /\ m = l.length - i /\ (i = 0 -> prev = none) /\ (∀ y,0 < i -> l[i - 1]? = some y -> prev = some y.1) /\ rowsE most none l = rowsE most prev (l.drop i) /\ Ext (fun _=> False) w w1,l.length,⟨0,none,rfl,Nat.zero_le _,rfl,fun _=> rfl,fun y h=> absurd h (Nat.lt_irrefl _),rfl,Ext.refl _ _⟩,?_⟩
  rintro m st w6 ⟨i,prev,rfl,hi,rfl,hp0,hp1,hr,e6⟩
  unfold S68L1
  rw [hlen]
  refine Br.dec (fun q=> ?_) fun q=> ?_
  ·have hil : i < l.length := by omega
   have gi : l[i]? = some l[i] := List.getElem?_eq_getElem hil
   obtain ⟨a,ha,hc⟩ := VRow.elem mcells_len (hV.keep e6) gi (by decide)
   have hxz := hz _ (List.getElem_mem hil)
   rw [List.drop_eq_getElem_cons hil,rowsE_cons] at hr
   have hnx : ∀ y,0 < i + 1 -> l[i + 1 - 1]? = some y -> (some l[i].1 : Option Int) = some y.1 := fun y _ hy=> by
    rw [Nat.add_sub_cancel,gi] at hy
    cases hy
    rfl
   generalize l[i] = x at *
   rw [ha,Int.toNat_natCast]
   have c0 : w6.cell? (a.add (i * 2)) = some (.int .i64 x.1) := by have := hc 0 _ rfl; simpa using this
   have c1 : w6.cell? ((a.add (i * 2)).add 1) = some (.string x.2) := by rw [add_add']; exact hc 1 _ rfl
   have r2 : (x.1 < 0 \/ most < x.1) -> rowE most prev x = 2 := fun h=> by unfold rowE; rw [if_pos h]
   have d1 : (0 : Int) <= (i : Int) := by omega
   have d2 : (i : Int) < ((l.length : Nat) : Int) := by omega
   refine ⟨d1,d2,Nn.of (Ld.mk (x := x.1) c0 (Br.dec (fun h1=> ⟨by rw [hr,r2 (.inl h1)]; rfl,e6⟩) fun h1=> ⟨d1,d2,Nn.of (Ld.mk (x := x.1) c0 (Br.dec (fun h2=> ⟨by rw [hr,r2 (.inr (by omega))]; rfl,e6⟩) fun h2=> ⟨d1,d2,Nn.of (Ld.mk (x := x.2) c1 ?_)⟩))⟩))⟩
   have hn2 : ¬ (x.1 < 0 \/ most < x.1) := by omega
   refine (r_utf8 (by omega) _).mono ?_
   rintro r w18 ⟨rfl,e18⟩
   have E18 := e6.tr e18
   cases hv : validD (bl x.2) with
   | false=>
    refine Br.t rfl ⟨?_,E18⟩
    have : rowE most prev x = 3 := by unfold rowE; rw [if_neg hn2,if_pos hv]
    rw [hr,this]
    rfl
   | true=>
   refine Br.f rfl ⟨d1,d2,Nn.of (Ld.mk (x := x.2) (e18.cell_same c1) ?_)⟩
   have hn3 : ¬ (validD (bl x.2) = false) := by
    intro h
    rw [hv] at h
    cases h
   refine (r_units hxz w18).mono ?_
   rintro r w21 ⟨rfl,e21⟩
   have E21 := E18.tr e21
   have hul : (⟨(ubs (Ut.unitsL (bl x.2))).toArray⟩ : ByteArray).size = ulen x.2 := by
    rw [bl_size]
    exact ubs_len _
   rw [hul]
   refine Br.dec (fun h4=> ⟨?_,E21⟩) fun h4=> ?_
   ·have : rowE most prev x = 5 := by unfold rowE; rw [if_neg hn2,if_neg hn3,if_pos (by omega)]
    rw [hr,this]
    rfl
   have hn4 : ¬ (512 < ulen x.2) := by omega
   have hE : rowE most prev x = prevE prev x.1 := by unfold rowE; rw [if_neg hn2,if_neg hn3,if_neg hn4]
   have next : ∀ w',rowE most prev x = 0 -> Ext (fun _=> False) w w' -> ∃ n',n' < l.length - i /\ ∃ (i_1 : Nat) (prev : Option Int),IntKind.i64.wrap ((i : Int) + 1) = (i_1 : Int) /\ i_1 <= l.length /\ n' = l.length - i_1 /\ (i_1 = 0 -> prev = none) /\ (∀ y,0 < i_1 -> l[i_1 - 1]? = some y -> prev = some y.1) /\ rowsE most none l = rowsE most prev (l.drop i_1) /\ Ext (fun _=> False) w w' := fun w' h0 h1=>
    ⟨l.length - (i + 1),by omega,i + 1,some x.1,by rw [i64_id (by omega)]; rfl,by omega,rfl,fun h=> by omega,hnx,by rw [hr,h0]; rfl,h1⟩
   have ED := e18.tr e21.drew
   refine Br.dec (fun h5=> ?_) fun h5=> ?_
   ·have hi0 : 0 < i := by omega
    have hk : i - 1 < l.length := by omega
    have ek : IntKind.i64.wrap ((i : Int) - 1) = ((i - 1 : Nat) : Int) := by rw [i64_id (by omega)]; omega
    have gk : l[i - 1]? = some l[i - 1] := List.getElem?_eq_getElem hk
    have hpv := hp1 _ hi0 gk
    obtain ⟨a2,ha2,hc2⟩ := VRow.elem mcells_len (hV.keep E21.drew) gk (by decide)
    rw [ha] at ha2
    cases ha2
    generalize l[i - 1] = y at *
    subst hpv
    rw [ek]
    have b1 : (0 : Int) <= ((i - 1 : Nat) : Int) := by omega
    have b2 : ((i - 1 : Nat) : Int) < ((l.length : Nat) : Int) := by omega
    have cy : w21.drew.cell? (a.add (((i - 1 : Nat) : Int).toNat * 2)) = some (.int .i64 y.1) := by rw [Int.toNat_natCast]; have := hc2 0 _ rfl; simpa using this
    refine ⟨d1,d2,Nn.of (Ld.mk (x := x.1) (ED.cell_same c0) ⟨b1,b2,Nn.of (Ld.mk (x := y.1) cy ?_)⟩)⟩
    refine Br.eq (fun h6=> ⟨?_,E21.drew⟩) fun h6=> ?_
    ·rw [hr,hE]
     simp [prevE,h6]
    ·refine Br.t (by rw [decide_eq_true_eq]; omega) ⟨d1,d2,Nn.of (Ld.mk (x := x.1) (ED.drew.cell_same c0) ⟨b1,b2,Nn.of (Ld.mk (x := y.1) cy ?_)⟩)⟩
     refine Br.dec (fun h7=> ⟨?_,E21.drew.drew⟩) fun h7=> next _ ?_ E21.drew.drew
     ·rw [hr,hE]
      simp [prevE,h6,h7]
     ·rw [hE]
      simp [prevE,h6,h7]
   ·have hi0 : i = 0 := by omega
    have hpv := hp0 hi0
    subst hpv
    exact Br.f (by rw [decide_eq_false_iff_not]; omega) (next _ hE E21.drew.drew)
  ·have : i = l.length := by omega
   subst this
   rw [List.drop_length] at hr
   exact ⟨hr.symm,e6⟩
 refine ⟨fun st w'=> st = (if wide then 65535 else 255) /\ w' = w,fun st w' hh=> ?_,?_⟩
 ·obtain ⟨rfl,rfl⟩ := hh
  exact key
 ·cases wide with
  | true=> exact Br.t rfl ⟨rfl,rfl⟩
  | false=> exact Br.f rfl ⟨rfl,rfl⟩
end Fo
end Go.Proofs.YtcblpehnkogfdaaGreatDoor

/- The reference's fonts: Check, Width, Codes, Find. Conditions: sizes. -/
namespace Go.Proofs.YtcblpehnkogfdaaGreatDoor
namespace Fo
open Sh Go.Lib
set_option maxRecDepth 4000
set_option maxHeartbeats 2000000
attribute [local irreducible] Ld St Nw Nn Lt LdS
theorem r_name (s : ByteArray) (k : Nat) (hs : s.size <= 1048576) {n : Int} (hn : n = (k : Int)) (w : World) : C66 s n w fun r w1=> r = named s k /\ w1 = w := by
 subst hn
 refine T66 _ _ _ _ ?_
 unfold S66
 have hbs := bl_size s
 refine ⟨fun m st w1=> ∃ i : Nat,st = (i : Int) /\ i <= s.size /\ m = s.size - i /\ (∀ j,j < i -> (bl s).getD j 0 ≠ 0) /\ w1 = w,s.size,⟨0,rfl,Nat.zero_le _,rfl,fun j hj=> absurd hj (Nat.not_lt_zero _),rfl⟩,?_⟩
 rintro m st w7 ⟨i,rfl,hi,rfl,hno,rfl⟩
 unfold S66L1
 refine Br.dec (fun q=> ⟨by omega,by omega,?_⟩) fun q=> ?_
 ·have hb : bAt s (i : Int) = (((bl s).getD i 0).toNat : Int) := bAt_list s i
  rw [hb]
  refine Br.eq (fun h0=> ⟨?_,rfl⟩) fun h0=> ?_
  ·have hz : (bl s).getD i 0 = 0 := UInt8.toNat_inj.1 (by have : (0 : UInt8).toNat = 0 := rfl; omega)
   have hm : (0 : UInt8) ∈ bl s := by
    rw [<- hz,List.getD_eq_getElem?_getD,List.getElem?_eq_getElem (by omega)]
    exact List.getElem_mem _
   unfold named
   rw [List.contains_iff_mem.2 hm]
   simp
  ·refine ⟨s.size - (i + 1),by omega,i + 1,by rw [i64_id (by omega)]; rfl,by omega,rfl,fun j hj=> ?_,rfl⟩
   by_cases e : j = i
   ·subst e
    intro h
    rw [h] at h0
    exact h0 rfl
   ·exact hno j (by omega)
 ·have hc : (bl s).contains 0 = false := by
   cases hcc : (bl s).contains 0 with
   | false=> rfl
   | true=>
    obtain ⟨j,hj,hz⟩ := List.mem_iff_getElem.1 (List.contains_iff_mem.1 hcc)
    exact absurd (by rw [List.getD_eq_getElem?_getD,List.getElem?_eq_getElem hj]; exact hz) (hno j (by omega))
  unfold named
  rw [hc]
  have hd : decide (((s.size : Nat) : Int) <= 127) = decide (s.size <= 127) := decide_eq_decide.2 (by omega)
  refine Br.dec (fun h=> ⟨by rw [hd,decide_eq_true (show k <= s.size by omega)]; simp,rfl⟩) fun h=> ⟨by rw [decide_eq_false (show ¬ k <= s.size by omega)]; simp,rfl⟩
theorem r_wid (n : Int) (w : World) : C67 n w fun r w1=> r = bnd n 100000 /\ w1 = w := by
 refine T67 _ _ _ ?_
 unfold S67 bnd
 refine Br.dec (fun h1=> ⟨by rw [decide_eq_true (show 0 <= n by omega)]; simp,rfl⟩) fun h1=> ⟨by rw [decide_eq_false (show ¬ 0 <= n by omega)]; simp,rfl⟩
theorem r_chk {w : World} {x : FT} {f : Font} (h : FoV w x f) : C36 x w fun r w1=> r = chkF f /\ Ext (fun _=> False) w w1 := by
 refine T36 _ _ _ ?_
 unfold S36
 refine Nw.of ?_
 have H := fo_blk w x
 have hw := h.wlen
 have hn := h.nlen
 have hlw := h.lw
 have hln := h.ln
 have hE := H.ext
 generalize w.alloc (.cells (Sig.cells LiA34 x).toArray 35) = wd at *
 have bad : mayF f = false -> (1 : Int) = chkF f := fun e=> by unfold chkF; rw [if_pos e]
 have hm2 : 256 <= many f /\ many f <= 65536 := by unfold many; split <;> omega
 refine ⟨fun st w'=> st = many f /\ w' = wd,fun st w' hh=> ?_,H.ld 0 rfl (x := x.2.1) rfl ?_⟩
 ·obtain ⟨rfl,rfl⟩ := hh
  unfold S36J2
  refine H.ld 0 rfl (x := x.1) rfl ?_
  rw [h.name]
  refine (r_name f.name 1 h.szn rfl _).mono ?_
  rintro r18 w19 ⟨rfl,rfl⟩
  cases h1 : named f.name 1 with
  | false=> exact Br.t rfl ⟨bad (by unfold mayF; rw [h1]; simp),hE⟩
  | true=>
  refine Br.f rfl (H.ld 0 rfl (x := x.2.2.1) rfl ?_)
  rw [h.first]
  refine Br.dec (fun q=> ⟨bad (by unfold mayF; rw [decide_eq_false (show ¬ 0 <= f.first by omega)]; simp),hE⟩) fun h2=> H.ld 0 rfl (x := x.2.2.1) rfl ?_
  rw [h.first]
  refine Br.dec (fun q=> ⟨bad (by unfold mayF; rw [decide_eq_false (show ¬ f.first <= many f - (f.widths.length : Int) by omega)]; simp),hE⟩) fun h3=> H.ld 0 rfl (x := x.2.2.1) rfl (H.ld 0 rfl (x := x.2.2.2.1) rfl ?_)
  rw [h.first,hw,i64_id (by omega)]
  refine Br.dec (fun q=> ⟨bad (by unfold mayF; rw [decide_eq_false (show ¬ f.first <= many f - (f.widths.length : Int) by omega)]; simp),hE⟩) fun h4=> H.ld 0 rfl (x := x.2.2.2.1) rfl ?_
  rw [hw]
  refine Br.dec (fun q=> ⟨bad (by unfold mayF; rw [decide_eq_false (show ¬ f.widths.length <= 4096 by omega)]; simp),hE⟩) fun h5=> H.ld 0 rfl (x := x.2.2.2.2.1) rfl ?_
  rw [h.missing]
  refine (r_wid f.missing _).mono ?_
  rintro r26 w27 ⟨rfl,rfl⟩
  cases h6 : bnd f.missing 100000 with
  | false=> exact Br.t rfl ⟨bad (by unfold mayF; rw [h6]; simp),hE⟩
  | true=>
  refine Br.f rfl ?_
  refine ⟨fun m st w1=> ∃ i : Nat,st = (i : Int) /\ i <= f.widths.length /\ m = f.widths.length - i /\ (f.widths.take i).all (fun n=> bnd n 100000) = true /\ w1 = w27,f.widths.length,⟨0,rfl,Nat.zero_le _,rfl,rfl,rfl⟩,?_⟩
  rintro m st w40 ⟨i,rfl,hi,rfl,ht,rfl⟩
  unfold S36L2
  refine H.ld 0 rfl (x := x.2.2.2.1) rfl ?_
  rw [hw]
  refine Br.dec (fun q=> ?_) fun q=> ?_
  ·have hil : i < f.widths.length := by omega
   have gi : f.widths[i]? = some f.widths[i] := List.getElem?_eq_getElem hil
   obtain ⟨a,ha,hc⟩ := VRow.elem icell_len (h.widths.keep hE) gi (by decide)
   have hat := all_take gi ht
   have hno := all_no (p := fun n=> bnd n 100000) gi
   generalize f.widths[i] = n at *
   refine H.ld 0 rfl (x := x.2.2.2.1) rfl ?_
   rw [ha,hw]
   refine ⟨by omega,by omega,Nn.of (Ld.mk (x := n) (by rw [Int.toNat_natCast]; have := hc 0 _ rfl; simpa using this) ?_)⟩
   refine (r_wid n w40).mono ?_
   rintro r w45 ⟨rfl,rfl⟩
   cases hb1 : bnd n 100000 with
   | false=> exact Br.t rfl ⟨bad (by unfold mayF; rw [hno hb1]; simp),hE⟩
   | true=> exact Br.f rfl ⟨f.widths.length - (i + 1),by omega,i + 1,by rw [i64_id (by omega)]; rfl,by omega,rfl,by rw [hat,hb1],rfl⟩
  ·have : i = f.widths.length := by omega
   subst this
   rw [List.take_length] at ht
   refine ⟨fun _ w'=> w' = w40 /\ (decide (f.names = []) || (!f.wide && decide (f.names.length = 256))) = true,fun s w' hh=> ?_,H.ld 0 rfl (x := x.2.2.2.2.2.1) rfl ?_⟩
   ·obtain ⟨rfl,hn1⟩ := hh
    unfold S36J1
    refine ⟨fun m st w1=> ∃ i : Nat,st = (i : Int) /\ i <= f.names.length /\ m = f.names.length - i /\ (f.names.take i).all (fun s=> named s 0) = true /\ w1 = w',f.names.length,⟨0,rfl,Nat.zero_le _,rfl,rfl,rfl⟩,?_⟩
    rintro m st w53 ⟨i,rfl,hi,rfl,ht2,rfl⟩
    unfold S36L1
    refine H.ld 0 rfl (x := x.2.2.2.2.2.1) rfl ?_
    rw [hn]
    refine Br.dec (fun q=> ?_) fun q=> ?_
    ·have hil : i < f.names.length := by omega
     have gi : f.names[i]? = some f.names[i] := List.getElem?_eq_getElem hil
     obtain ⟨a,ha,hc⟩ := VRow.elem scell_len (h.names.keep hE) gi (by decide)
     have hat := all_take gi ht2
     have hno := all_no (p := fun s=> named s 0) gi
     have hsz := h.szs _ (List.getElem_mem hil)
     generalize f.names[i] = n at *
     refine H.ld 0 rfl (x := x.2.2.2.2.2.1) rfl ?_
     rw [ha,hn]
     refine ⟨by omega,by omega,Nn.of (Ld.mk (x := n) (by rw [Int.toNat_natCast]; have := hc 0 _ rfl; simpa using this) ?_)⟩
     refine (r_name n 0 hsz rfl w53).mono ?_
     rintro r w45 ⟨rfl,rfl⟩
     cases hb1 : named n 0 with
     | false=> exact Br.t rfl ⟨bad (by unfold mayF; rw [hno hb1]; simp),hE⟩
     | true=> exact Br.f rfl ⟨f.names.length - (i + 1),by omega,i + 1,by rw [i64_id (by omega)]; rfl,by omega,rfl,by rw [hat,hb1],rfl⟩
    ·have : i = f.names.length := by omega
     subst this
     rw [List.take_length] at ht2
     have hmay : mayF f = true := by
      unfold mayF
      rw [h1,decide_eq_true (show 0 <= f.first by omega),decide_eq_true (show f.widths.length <= 4096 by omega),decide_eq_true (show f.first <= many f - (f.widths.length : Int) by omega),h6,ht,hn1,ht2]
      rfl
     refine H.ld 0 rfl (x := x.2.2.2.2.2.2) rfl (H.ld 0 rfl (x := x.2.1) rfl ?_)
     refine (r_mapsE (h.keep hE).maps h.lm h.szm x.2.1).mono ?_
     rintro r w12 ⟨rfl,e12⟩
     refine ⟨?_,hE.tr e12⟩
     unfold chkF
     rw [if_neg (by rw [hmay]; decide),h.wide]
   ·rw [hn]
    refine Br.ne (fun k1=> ?_) fun k1=> ⟨rfl,?_⟩
    ·have hne : f.names ≠ [] := fun e=> k1 (by rw [e]; rfl)
     refine H.ld 0 rfl (x := x.2.1) rfl ?_
     rw [h.wide]
     cases hwd : f.wide with
     | true=> exact Br.t rfl ⟨bad (by unfold mayF; rw [show (decide (f.names = []) || (!f.wide && decide (f.names.length = 256))) = false by rw [decide_eq_false hne,hwd]; rfl]; simp),hE⟩
     | false=>
      refine Br.f rfl (H.ld 0 rfl (x := x.2.2.2.2.2.1) rfl ?_)
      rw [hn]
      refine Br.ne (fun k2=> ⟨bad (by unfold mayF; rw [show (decide (f.names = []) || (!f.wide && decide (f.names.length = 256))) = false by rw [decide_eq_false hne,decide_eq_false (show ¬ f.names.length = 256 by omega),Bool.and_false]; rfl]; simp),hE⟩) fun k2=> ⟨rfl,?_⟩
      rw [decide_eq_true (show f.names.length = 256 by omega)]
      simp
    ·have : f.names = [] := List.length_eq_zero_iff.1 (by omega)
     rw [decide_eq_true this]
     rfl
 ·rw [h.wide]
  cases hwd : f.wide with
  | true=> exact Br.t rfl ⟨by unfold many; rw [hwd]; rfl,rfl⟩
  | false=> exact Br.f rfl ⟨by unfold many; rw [hwd]; rfl,rfl⟩
theorem u64_mod (n : Int) : IntKind.u64.wrap n = n % 18446744073709551616 := by
 unfold IntKind.wrap
 rfl
theorem u64_sub {a b : Int} (h : 0 <= a - b /\ a - b < 18446744073709551616) : IntKind.u64.wrap (IntKind.u64.wrap a - IntKind.u64.wrap b) = a - b := by
 rw [u64_mod,u64_mod,u64_mod]
 omega
theorem r_width {w : World} {x : FT} {f : Font} (h : FoV w x f) {code : Int} (hc : I64 code) : C108 x code w fun r w1=> r = widthF f code /\ Ext (fun _=> False) w w1 := by
 refine T108 _ _ _ _ ?_
 unfold S108
 refine Nw.of ?_
 have H := fo_blk w x
 have hE := H.ext
 have hw := h.wlen
 have hif := h.ifirst
 have hlw := h.lw
 unfold I64 at hif hc
 generalize w.alloc (.cells (Sig.cells LiA34 x).toArray 35) = wd at *
 unfold widthF
 refine H.ld 0 rfl (x := x.2.2.1) rfl ?_
 rw [h.first]
 refine Br.dec (fun q=> H.ld 0 rfl (x := x.2.2.2.2.1) rfl ⟨by rw [h.missing,if_pos (.inl q)],hE⟩) fun q=> ?_
 refine H.ld 0 rfl (x := x.2.2.1) rfl (H.ld 0 rfl (x := x.2.2.2.1) rfl ?_)
 have hu : IntKind.u64.wrap ((f.widths.length : Nat) : Int) = ((f.widths.length : Nat) : Int) := by rw [u64_mod]; omega
 rw [h.first,hw,u64_sub (by omega),hu]
 refine Lt.of (Br.dec (fun q2=> H.ld 0 rfl (x := x.2.2.2.2.1) rfl ⟨by rw [h.missing,if_pos (.inr q2)],hE⟩) fun q2=> ?_)
 refine H.ld 0 rfl (x := x.2.2.2.1) rfl (H.ld 0 rfl (x := x.2.2.1) rfl ?_)
 rw [h.first,hw,u64_sub (by omega)]
 have hil : (code - f.first).toNat < f.widths.length := by omega
 obtain ⟨a,ha,hcl⟩ := VRow.elem icell_len (h.widths.keep hE) (List.getElem?_eq_getElem hil) (by decide)
 have hgd : f.widths.getD (code - f.first).toNat 0 = f.widths[(code - f.first).toNat] := by rw [List.getD_eq_getElem?_getD,List.getElem?_eq_getElem hil]; rfl
 rw [ha]
 refine ⟨by omega,by omega,Nn.of (Ld.mk (x := f.widths[(code - f.first).toNat]) (by have := hcl 0 _ rfl; simpa using this) ⟨?_,hE⟩)⟩
 rw [if_neg (by omega),hgd]
theorem r_codes {w : World} {x : FT} {f : Font} (h : FoV w x f) {s : ByteArray} (hs : s.size <= 1048576) : C118 x s w fun r e w1=> e = (codesF f.wide s).2 /\ VRow w1 r 1 ((codesF f.wide s).1.flatMap icell) /\ Ext (fun _=> False) w w1 /\ ∀ j,r.own j -> w.heap.size <= j := by
 refine T118 _ _ _ _ ?_
 unfold S118
 refine Nw.of ?_
 have H := fo_blk w x
 have hE := H.ext
 have hsl : (bl s).length = s.size := Array.length_toList
 generalize w.alloc (.cells (Sig.cells LiA34 x).toArray 35) = wd at *
 refine H.ld 0 rfl (x := x.2.1) rfl ?_
 rw [h.wide]
 cases hw : f.wide with
 | false=>
  refine Br.t rfl ?_
  unfold codesF
  rw [if_pos rfl]
  refine ⟨fun m st w1=> ∃ i : Nat,st.2 = (i : Int) /\ i <= s.size /\ m = s.size - i /\ Row w1 st.1 3 1 ((((bl s).take i).map fun b=> (b.toNat : Int)).flatMap icell) /\ (∀ j,st.1.own j -> w.heap.size <= j) /\ Ext (fun _=> False) w w1,s.size,⟨0,rfl,Nat.zero_le _,rfl,Row.nil _ _ _,fun j hj=> (no_own j hj).elim,hE⟩,?_⟩
  rintro m ⟨so,i'⟩ w13 ⟨i,hi',hi,rfl,hR,ho,e13⟩
  simp only at hi' hR ho
  subst hi'
  unfold S118L1
  dsimp only
  refine Br.dec (fun q=> ⟨by omega,by omega,?_⟩) fun q=> ?_
  ·have hil : i < (bl s).length := by omega
   have hbt := bAt_list s i
   have hbb : (bl s).getD i 0 = (bl s)[i] := by rw [List.getD_eq_getElem?_getD,List.getElem?_eq_getElem hil]; rfl
   have hb1 : bAt s (i : Int) = ((bl s)[i].toNat : Int) := by rw [hbt]; exact congrArg (fun b : UInt8=> ((b.toNat : Nat) : Int)) hbb
   have hlt := (bl s)[i].toNat_lt
   rw [hb1,i64_id (by omega)]
   refine int_app e13 hR ho (by rw [List.length_map,List.length_take]; omega) fun s' w' h1 h2 h3=> ?_
   refine ⟨s.size - (i + 1),by omega,i + 1,by rw [i64_id (by omega)]; rfl,by omega,rfl,?_,h2,h3⟩
   rw [take_succ hil,List.map_append]
   exact h1
  ·have : i = (bl s).length := by omega
   subst this
   rw [List.take_length] at hR
   exact ⟨rfl,Row.view hR,e13,ho⟩
 | true=>
  refine Br.f rfl ?_
  unfold codesF
  rw [if_neg (by decide)]
  have ht : Int.tmod ((s.size : Nat) : Int) 2 = ((s.size % 2 : Nat) : Int) := by rw [tmod_id (by omega)]; rfl
  rw [ht]
  refine Br.ne (fun q=> ?_) fun q=> ?_
  ·rw [if_pos (by omega)]
   exact ⟨rfl,Row.view (Row.nil _ 3 _),hE,fun j hj=> (no_own j hj).elim⟩
  ·rw [if_neg (by omega)]
   refine ⟨fun m st w1=> ∃ i : Nat,st.2 = ((2 * i : Nat) : Int) /\ 2 * i <= s.size /\ m = s.size - i /\ Row w1 st.1 3 1 ((pairs ((bl s).take (2 * i))).flatMap icell) /\ (pairs ((bl s).take (2 * i))).length = i /\ (∀ j,st.1.own j -> w.heap.size <= j) /\ Ext (fun _=> False) w w1,s.size,⟨0,rfl,Nat.zero_le _,rfl,Row.nil _ _ _,rfl,fun j hj=> (no_own j hj).elim,hE⟩,?_⟩
   rintro m ⟨so,i'⟩ w19 ⟨i,hi',hi,rfl,hR,hpl,ho,e19⟩
   simp only at hi' hR ho
   subst hi'
   unfold S118L2
   dsimp only
   have ek : IntKind.i64.wrap (((2 * i : Nat) : Int) + 1) = ((2 * i + 1 : Nat) : Int) := by rw [i64_id (by omega)]; rfl
   rw [ek]
   refine Br.dec (fun q2=> ?_) fun q2=> ?_
   ·have hil : 2 * i + 1 < (bl s).length := by omega
    have hpt := pairs_take (bl s) i hil
    have hb0 : bAt s ((2 * i : Nat) : Int) = (((bl s).getD (2 * i) 0).toNat : Int) := bAt_list s (2 * i)
    have hb1 : bAt s ((2 * i + 1 : Nat) : Int) = (((bl s).getD (2 * i + 1) 0).toNat : Int) := bAt_list s (2 * i + 1)
    have l0 := ((bl s).getD (2 * i) 0).toNat_lt
    have l1 := ((bl s).getD (2 * i + 1) 0).toNat_lt
    rw [hb0,hb1]
    generalize ((bl s).getD (2 * i) 0).toNat = a at *
    generalize ((bl s).getD (2 * i + 1) 0).toNat = b at *
    have eo : IntKind.i64.wrap (IntKind.i64.wrap (256 * IntKind.i64.wrap (a : Int)) + IntKind.i64.wrap (b : Int)) = 256 * (a : Int) + (b : Int) := by
     rw [i64_id (n := (a : Int)) (by omega),i64_id (n := (b : Int)) (by omega),i64_id (n := 256 * (a : Int)) (by omega),i64_id (by omega)]
    rw [eo]
    refine ⟨by omega,by omega,by omega,by omega,?_⟩
    refine int_app e19.drew (hR.keep (Ext.refl (fun _=> False) w19).drew fun _ _ e=> e) ho (by omega) fun s' w' h1 h2 h3=> ?_
    refine ⟨s.size - (i + 1),by omega,i + 1,by rw [i64_id (by omega)]; omega,by omega,rfl,?_,?_,h2,h3⟩
    ·rw [hpt]
     exact h1
    ·rw [hpt,List.length_append,hpl]
     rfl
   ·have : 2 * i = (bl s).length := by omega
    rw [this,List.take_length] at hR
    exact ⟨rfl,Row.view hR,e19,ho⟩
theorem r_find {w : World} {s : Slc} {l : List (Int × ByteArray)} (hV : VRow w s 2 (l.flatMap mcells)) (hl : l.length <= 1048576) (code : Int) : C148 s code w fun r b w1=> (match l.find? (fun x=> decide (x.1 = code)) with
  | some x=> r = x.2 /\ b = true
  | none=> r = ⟨#[]⟩ /\ b = false) /\ w1 = w := by
 have hlen : s.len = l.length := VRow.count mcells_len (by decide) hV
 refine T148 _ _ _ _ ?_
 unfold S148
 refine ⟨fun m st w1=> ∃ i : Nat,st = (i : Int) /\ i <= l.length /\ m = l.length - i /\ l.find? (fun x=> decide (x.1 = code)) = (l.drop i).find? (fun x=> decide (x.1 = code)) /\ w1 = w,l.length,⟨0,rfl,Nat.zero_le _,rfl,rfl,rfl⟩,?_⟩
 rintro m st w5 ⟨i,rfl,hi,rfl,hf,rfl⟩
 unfold S148L1
 rw [hlen]
 refine Br.dec (fun q=> ?_) fun q=> ?_
 ·have hil : i < l.length := by omega
  obtain ⟨a,ha,hc⟩ := VRow.elem mcells_len hV (List.getElem?_eq_getElem hil) (by decide)
  rw [List.drop_eq_getElem_cons hil,List.find?_cons] at hf
  generalize l[i] = x at *
  rw [ha]
  have b1 : (0 : Int) <= (i : Int) := by omega
  have b2 : (i : Int) < ((l.length : Nat) : Int) := by omega
  refine ⟨b1,b2,Nn.of (Ld.mk (x := x.1) (by rw [Int.toNat_natCast]; have := hc 0 _ rfl; simpa using this) ?_)⟩
  refine Br.eq (fun h=> ?_) fun h=> ?_
  ·rw [decide_eq_true h] at hf
   rw [hf]
   exact ⟨b1,b2,Nn.of (Ld.mk (x := x.2) (by rw [Int.toNat_natCast,add_add']; exact hc 1 _ rfl) ⟨⟨rfl,rfl⟩,rfl⟩)⟩
  ·rw [decide_eq_false h] at hf
   exact ⟨l.length - (i + 1),by omega,i + 1,by rw [i64_id (by omega)]; rfl,by omega,rfl,hf,rfl⟩
 ·have : i = l.length := by omega
  subst this
  rw [List.drop_length] at hf
  rw [hf]
  exact ⟨⟨rfl,rfl⟩,rfl⟩
end Fo
end Go.Proofs.YtcblpehnkogfdaaGreatDoor

/- The reference's fonts: the usual names, the text of a name, of a code. Conditions: sizes. -/
namespace Go.Proofs.YtcblpehnkogfdaaGreatDoor
namespace Fo
open Sh Go.Lib
set_option maxRecDepth 4000
set_option maxHeartbeats 2000000
def sg0 : List By := [[115,112,97,99,101],[101,120,99,108,97,109],[113,117,111,116,101,100,98,108],[110,117,109,98,101,114,115,105,103,110],[100,111,108,108,97,114],[112,101,114,99,101,110,116],[97,109,112,101,114,115,97,110,100],[113,117,111,116,101,115,105,110,103,108,101],[112,97,114,101,110,108,101,102,116],[112,97,114,101,110,114,105,103,104,116],[97,115,116,101,114,105,115,107],[112,108,117,115],[99,111,109,109,97],[104,121,112,104,101,110],[112,101,114,105,111,100],[115,108,97,115,104],[122,101,114,111],[111,110,101],[116,119,111],[116,104,114,101,101],[102,111,117,114],[102,105,118,101],[115,105,120],[115,101,118,101,110],[101,105,103,104,116],[110,105,110,101],[99,111,108,111,110],[115,101,109,105,99,111,108,111,110],[108,101,115,115],[101,113,117,97,108],[103,114,101,97,116,101,114],[113,117,101,115,116,105,111,110],[97,116]]
def sg1 : List By := [[98,114,97,99,107,101,116,108,101,102,116],[98,97,99,107,115,108,97,115,104],[98,114,97,99,107,101,116,114,105,103,104,116],[97,115,99,105,105,99,105,114,99,117,109],[117,110,100,101,114,115,99,111,114,101],[103,114,97,118,101]]
def sg2 : List By := [[98,114,97,99,101,108,101,102,116],[98,97,114],[98,114,97,99,101,114,105,103,104,116],[97,115,99,105,105,116,105,108,100,101]]
theorem sg_f0 : fields signs0 = sg0 := by decide +kernel
theorem sg_f1 : fields signs1 = sg1 := by decide +kernel
theorem sg_f2 : fields signs2 = sg2 := by decide +kernel
attribute [local irreducible] Ld St Nw Nn Lt LdS
structure UsR (wb w : World) (L : List By) : Prop where
 len : L.length = 256
 row : Row w ⟨some ⟨wb.heap.size,0,none⟩,256,256⟩ 9 1 (L.flatMap bcell)
 ext : Ext (fun _=> False) wb w
theorem UsR.keep {wb w w' : World} {L : List By} (h : UsR wb w L) (he : Ext (fun _=> False) w w') : UsR wb w' L := ⟨h.len,h.row.keep he fun _ _ e=> e,h.ext.tr he⟩
theorem UsR.put {wb w : World} {L : List By} (h : UsR wb w L) {k : Nat} (hk : k < 256) {v : ByteArray} (n : By) (hv : v = ⟨n.toArray⟩) {K : World -> Prop} (kk : ∀ w',UsR wb w' (L.set k n) -> Ext (· = wb.heap.size) w w' -> K w') : St w ((⟨wb.heap.size,0,none⟩ : Addr).add (k * 1)) (.string v) K := by
 subst hv
 have e : L.flatMap bcell = [] ++ L.flatMap bcell := rfl
 have hr := h.row
 rw [e] at hr
 obtain ⟨g,hg,hst⟩ := row_st (v := .string ⟨n.toArray⟩) (j := k) (K := K) hr (by rw [bmap,List.length_map,h.len]; exact hk) fun w' h' e'=> kk w' ⟨by rw [List.length_set]; exact h.len,by rw [bmap,List.map_set,<- bmap]; exact h',ext_new h.ext e' fun j ⟨a,ha,hb⟩=> by
  have ha : some (⟨wb.heap.size,0,none⟩ : Addr) = some a := ha
  cases ha
  have hb : wb.heap.size = j := hb
  omega⟩ (e'.mono fun j _ ⟨a,ha,hb⟩=> by
  have ha : some (⟨wb.heap.size,0,none⟩ : Addr) = some a := ha
  cases ha
  exact hb.symm)
 cases hg
 rw [add_lit,Nat.zero_add,Nat.mul_one]
 rw [List.length_nil,Nat.zero_add] at hst
 exact hst
theorem sg_cell {w : World} {b : Nat} {sg : List By} {t : TypeId} (hb : Blk w b (sg.flatMap bcell).toArray t) {i : Nat} (h : i < sg.length) : w.cell? ((⟨b,0,none⟩ : Addr).add (i * 1)) = some (.string ⟨sg[i].toArray⟩) := by
 rw [Nat.mul_one,add_lit,hb.cell,Nat.zero_add,List.getElem?_toArray,bmap,List.getElem?_map,List.getElem?_eq_getElem h]
 rfl
theorem r_usual (w : World) : C149 w fun r w1=> VRow w1 r 1 (usualB.flatMap bcell) /\ Ext (fun _=> False) w w1 := by
 refine T149 _ _ ?_
 unfold S149
 obtain ⟨w2,hrun,hw2⟩ := elStr.make (zs := [Value.string ⟨#[]⟩]) rfl w 256 (by decide) (by decide)
 refine ⟨_,w2,hrun,?_⟩
 have e2 : Ext (fun _=> False) w w2 := by rw [hw2]; exact (Ext.refl _ w).alloc _
 have hrow : Row w2 ⟨some ⟨w.heap.size,0,none⟩,256,256⟩ 9 1 ((List.replicate 256 ([] : By)).flatMap bcell) := by
  rw [hw2,<- zero_names]
  have := Row.new w ((List.replicate 256 [Value.string ⟨#[]⟩]).flatten).toArray 9 1 256 (by simp)
  rw [List.toList_toArray] at this
  exact this
 have hsz : w2.heap.size = w.heap.size + 1 := by rw [hw2]; unfold World.alloc; simp
 clear hw2 hrun
 have U0 : UsR w w2 (List.replicate 256 []) := ⟨by simp,hrow,e2⟩
 have hub : usualB = setAll (setAll (letters 26 (setAll (List.replicate 256 []) 32 sg0)) 91 sg1) 123 sg2 := by
  unfold usualB
  rw [sg_f0,sg_f1,sg_f2]
 rw [hub]
 generalize List.replicate 256 ([] : By) = Z at *
 refine (Hn.start w2).nw fun w3 H=> ?_
 simp only [List.nil_append,List.cons_append,List.set_cons_zero,List.set_cons_succ,Nat.zero_add] at H
 iterate 33 (refine H.st 0 rfl (by simp) fun _ H=> ?_; simp only [List.nil_append,List.cons_append,List.set_cons_zero,List.set_cons_succ,Nat.zero_add] at H)
 rename_i w36
 have hb0 : Blk w36 w2.heap.size (sg0.flatMap bcell).toArray 206 := H.get 0 rfl
 have U0 := U0.keep H.ext
 clear H
 refine ⟨fun m st w1=> ∃ i : Nat,st = (i : Int) /\ i <= 33 /\ m = 33 - i /\ UsR w w1 (setAll Z 32 (sg0.take i)) /\ Blk w1 w2.heap.size (sg0.flatMap bcell).toArray 206,33,⟨0,rfl,Nat.zero_le _,rfl,U0,hb0⟩,?_⟩
 rintro m st w44 ⟨i,rfl,hi,rfl,U,hb⟩
 unfold S149L4
 refine Br.dec (fun q=> ?_) fun q=> ?_
 ·have hil : i < sg0.length := by show i < 33; omega
  have ek : IntKind.i64.wrap (32 + (i : Int)) = ((32 + i : Nat) : Int) := by rw [i64_id (by omega)]; rfl
  rw [ek]
  have hst := setAll_take sg0 Z 32 i hil
  have hcell := sg_cell hb hil
  refine ⟨by omega,by omega,Ld.mk (x := (⟨sg0[i].toArray⟩ : ByteArray)) (by rw [Int.toNat_natCast]; exact hcell) ⟨by omega,by show ((32 + i : Nat) : Int) < ((256 : Nat) : Int); omega,Nn.of ?_⟩⟩
  rw [Int.toNat_natCast]
  refine U.put (k := 32 + i) (by omega) sg0[i] rfl fun w' U' e'=> ⟨33 - (i + 1),by omega,i + 1,by rw [i64_id (by omega)]; rfl,by omega,rfl,by rw [hst]; exact U',e'.blk hb fun e=> ?_⟩
  have e : w2.heap.size = w.heap.size := e
  omega
 have : i = 33 := by omega
 subst this
 have U : UsR w w44 (setAll Z 32 sg0) := by
  have e : sg0.take 33 = sg0 := rfl
  rw [e] at U
  exact U
 clear hb hb0 U0
 generalize setAll Z 32 sg0 = Y at *
 refine ⟨fun m st w1=> ∃ i : Nat,st = ((65 + i : Nat) : Int) /\ i <= 26 /\ m = 26 - i /\ UsR w w1 (letters i Y),26,⟨0,rfl,Nat.zero_le _,rfl,U⟩,?_⟩
 clear U
 rintro m st w63 ⟨i,rfl,hi,rfl,U⟩
 unfold S149L3
 refine Br.dec (fun q=> ?_) fun q=> ?_
 ·have hi2 : i < 26 := by omega
  have k2 : IntKind.i32.wrap (((65 + i : Nat) : Int) + 32) = ((97 + i : Nat) : Int) := by rw [i32_id (by omega)]; omega
  rw [k2]
  refine Nw.of ⟨_,_,byte_str (Blk.new _ _ _),by omega,by show ((65 + i : Nat) : Int) < ((256 : Nat) : Int); omega,Nn.of ?_⟩
  have U2 := U.keep ((Ext.refl (fun _=> False) w63).alloc (.cells #[.int .u8 (IntKind.u8.wrap ((65 + i : Nat) : Int))] 5))
  rw [Int.toNat_natCast]
  refine UsR.put U2 (k := 65 + i) (by omega) [ub ((65 + i : Nat) : Int)] rfl fun w69 U3 _=> ?_
  refine Nw.of ⟨_,_,byte_str (Blk.new _ _ _),by omega,by show ((97 + i : Nat) : Int) < ((256 : Nat) : Int); omega,Nn.of ?_⟩
  have U4 := U3.keep ((Ext.refl (fun _=> False) w69).alloc (.cells #[.int .u8 (IntKind.u8.wrap ((97 + i : Nat) : Int))] 5))
  rw [Int.toNat_natCast]
  refine UsR.put U4 (k := 97 + i) (by omega) [ub ((97 + i : Nat) : Int)] rfl fun w74 U5 _=> ?_
  refine ⟨26 - (i + 1),by omega,i + 1,by rw [i32_id (by omega)]; omega,by omega,rfl,?_⟩
  rw [ub_small (by omega),ub_small (by omega)] at U5
  exact U5
 have : i = 26 := by omega
 subst this
 generalize letters 26 Y = X at *
 have hs63 := U.ext.size
 have hlt63 : w.heap.size < w63.heap.size := by
  obtain ⟨cs,hc⟩ := own_blk U.row ⟨_,rfl,rfl⟩
  exact hc.lt
 refine (Hn.start w63).nw fun w75 H=> ?_
 simp only [List.nil_append,List.cons_append,List.set_cons_zero,List.set_cons_succ,Nat.zero_add] at H
 iterate 6 (refine H.st 0 rfl (by simp) fun _ H=> ?_; simp only [List.nil_append,List.cons_append,List.set_cons_zero,List.set_cons_succ,Nat.zero_add] at H)
 rename_i w81
 have hb0 : Blk w81 w63.heap.size (sg1.flatMap bcell).toArray 207 := H.get 0 rfl
 have U0 := U.keep H.ext
 clear H U
 refine ⟨fun m st w1=> ∃ i : Nat,st = (i : Int) /\ i <= 6 /\ m = 6 - i /\ UsR w w1 (setAll X 91 (sg1.take i)) /\ Blk w1 w63.heap.size (sg1.flatMap bcell).toArray 207,6,⟨0,rfl,Nat.zero_le _,rfl,U0,hb0⟩,?_⟩
 rintro m st w89 ⟨i,rfl,hi,rfl,U,hb⟩
 unfold S149L2
 refine Br.dec (fun q=> ?_) fun q=> ?_
 ·have hil : i < sg1.length := by show i < 6; omega
  have ek : IntKind.i64.wrap (91 + (i : Int)) = ((91 + i : Nat) : Int) := by rw [i64_id (by omega)]; rfl
  rw [ek]
  have hst := setAll_take sg1 X 91 i hil
  have hcell := sg_cell hb hil
  refine ⟨by omega,by omega,Ld.mk (x := (⟨sg1[i].toArray⟩ : ByteArray)) (by rw [Int.toNat_natCast]; exact hcell) ⟨by omega,by show ((91 + i : Nat) : Int) < ((256 : Nat) : Int); omega,Nn.of ?_⟩⟩
  rw [Int.toNat_natCast]
  refine U.put (k := 91 + i) (by omega) sg1[i] rfl fun w' U' e'=> ⟨6 - (i + 1),by omega,i + 1,by rw [i64_id (by omega)]; rfl,by omega,rfl,by rw [hst]; exact U',e'.blk hb fun e=> ?_⟩
  have e : w63.heap.size = w.heap.size := e
  omega
 have : i = 6 := by omega
 subst this
 have U : UsR w w89 (setAll X 91 sg1) := by
  have e : sg1.take 6 = sg1 := rfl
  rw [e] at U
  exact U
 clear hb hb0 U0
 generalize setAll X 91 sg1 = V at *
 have hlt89 : w.heap.size < w89.heap.size := by
  obtain ⟨cs,hc⟩ := own_blk U.row ⟨_,rfl,rfl⟩
  exact hc.lt
 refine (Hn.start w89).nw fun w94 H=> ?_
 simp only [List.nil_append,List.cons_append,List.set_cons_zero,List.set_cons_succ,Nat.zero_add] at H
 iterate 4 (refine H.st 0 rfl (by simp) fun _ H=> ?_; simp only [List.nil_append,List.cons_append,List.set_cons_zero,List.set_cons_succ,Nat.zero_add] at H)
 rename_i w98
 have hb0 : Blk w98 w89.heap.size (sg2.flatMap bcell).toArray 208 := H.get 0 rfl
 have U0 := U.keep H.ext
 clear H U
 refine ⟨fun m st w1=> ∃ i : Nat,st = (i : Int) /\ i <= 4 /\ m = 4 - i /\ UsR w w1 (setAll V 123 (sg2.take i)) /\ Blk w1 w89.heap.size (sg2.flatMap bcell).toArray 208,4,⟨0,rfl,Nat.zero_le _,rfl,U0,hb0⟩,?_⟩
 rintro m st w100 ⟨i,rfl,hi,rfl,U,hb⟩
 unfold S149L1
 refine Br.dec (fun q=> ?_) fun q=> ?_
 ·have hil : i < sg2.length := by show i < 4; omega
  have ek : IntKind.i64.wrap (123 + (i : Int)) = ((123 + i : Nat) : Int) := by rw [i64_id (by omega)]; rfl
  rw [ek]
  have hst := setAll_take sg2 V 123 i hil
  have hcell := sg_cell hb hil
  refine ⟨by omega,by omega,Ld.mk (x := (⟨sg2[i].toArray⟩ : ByteArray)) (by rw [Int.toNat_natCast]; exact hcell) ⟨by omega,by show ((123 + i : Nat) : Int) < ((256 : Nat) : Int); omega,Nn.of ?_⟩⟩
  rw [Int.toNat_natCast]
  refine U.put (k := 123 + i) (by omega) sg2[i] rfl fun w' U' e'=> ⟨4 - (i + 1),by omega,i + 1,by rw [i64_id (by omega)]; rfl,by omega,rfl,by rw [hst]; exact U',e'.blk hb fun e=> ?_⟩
  have e : w89.heap.size = w.heap.size := e
  omega
 have : i = 4 := by omega
 subst this
 have U : UsR w w100 (setAll V 123 sg2) := by
  have e : sg2.take 4 = sg2 := rfl
  rw [e] at U
  exact U
 exact ⟨Row.view U.row,U.ext⟩
theorem r_digit (b : UInt8) (w : World) : C158 ((b.toNat : Nat) : Int) w fun r w1=> (match hexU b with
  | some d=> r = (d : Int) /\ d < 16
  | none=> r = -1) /\ w1 = w := by
 refine T158 _ _ _ ?_
 unfold S158 hexU
 have hlt := b.toNat_lt
 generalize b.toNat = n at *
 have w1 : IntKind.i64.wrap (n : Int) = (n : Int) := i64_id (by omega)
 rw [w1]
 refine Br.dec (fun h1=> Br.dec (fun h2=> ⟨?_,rfl⟩) fun h2=> ?_) fun h1=> ?_
 ·rw [if_pos (by omega),i64_id (by omega)]
  exact ⟨by omega,by omega⟩
 all_goals refine Br.dec (fun h3=> Br.dec (fun h4=> ⟨?_,rfl⟩) fun h4=> ⟨?_,rfl⟩) fun h3=> ⟨?_,rfl⟩
 all_goals try (rw [if_neg (by omega),if_pos (by omega),i64_id (n := (n : Int) - 65) (by omega),i64_id (by omega)]; exact ⟨by omega,by omega⟩)
 all_goals (rw [if_neg (by omega),if_neg (by omega)])
theorem r_sign (n : ByteArray) (w : World) : C150 n w fun r w1=> r = ⟨(signF (bl n)).toArray⟩ /\ Ext (fun _=> False) w w1 := by
 refine T150 _ _ _ ?_
 unfold S150
 refine (r_usual w).mono ?_
 rintro r2 w3 ⟨hV,e3⟩
 have hlen : r2.len = usualB.length := VRow.count bcell_len (by decide) hV
 have h256 := usualB_len
 have hbn := bl_size n
 have hs1 : signF (bl n) = (if bl n = [] then [] else match usualB.findIdx? (fun m=> decide (m = bl n)) with
   | some i=> [UInt8.ofNat i]
   | none=> uniF (bl n)) := rfl
 generalize usualB = U at *
 refine ⟨fun m st w1=> ∃ i : Nat,st = (i : Int) /\ i <= U.length /\ m = U.length - i /\ (bl n ≠ [] -> ∀ (j : Nat) (u : By),j < i -> U[j]? = some u -> u ≠ bl n) /\ w1 = w3,U.length,⟨0,rfl,Nat.zero_le _,rfl,fun _ j u h=> absurd h (Nat.not_lt_zero _),rfl⟩,?_⟩
 rintro m st w5 ⟨i,rfl,hi,rfl,hno,rfl⟩
 unfold S150L2
 rw [hlen]
 refine Br.dec (fun q=> ?_) fun q=> ?_
 ·have hil : i < U.length := by omega
  have gu : U[i]? = some U[i] := List.getElem?_eq_getElem hil
  obtain ⟨a,ha,hc⟩ := VRow.elem bcell_len hV gu (by decide)
  have hfi : bl n ≠ [] -> U[i] = bl n -> U.findIdx? (fun m=> decide (m = bl n)) = some i := fun h0 he=> by
   rw [List.findIdx?_eq_some_iff_getElem]
   refine ⟨hil,by rw [he]; simp,fun j hj=> ?_⟩
   have := hno h0 j U[j] hj (List.getElem?_eq_getElem (by omega))
   simp [this]
  generalize U[i] = u at *
  rw [ha]
  refine ⟨by omega,by omega,Nn.of (Ld.mk (x := (⟨u.toArray⟩ : ByteArray)) (by rw [Int.toNat_natCast]; have := hc 0 _ rfl; simpa using this) ?_)⟩
  have hu : (⟨u.toArray⟩ : ByteArray).data.toList = u := by simp
  have hnil : (n.toList == (⟨#[]⟩ : ByteArray).toList) = decide (bl n = []) := eqL n ⟨#[]⟩
  rw [eqL,hu,hnil]
  have next : (bl n ≠ [] -> u ≠ bl n) -> ∃ n',n' < U.length - i /\ ∃ i_1 : Nat,IntKind.i64.wrap ((i : Int) + 1) = (i_1 : Int) /\ i_1 <= U.length /\ n' = U.length - i_1 /\ (bl n ≠ [] -> ∀ (j : Nat) (u : By),j < i_1 -> U[j]? = some u -> u ≠ bl n) /\ w5 = w5 := fun h1=>
   ⟨U.length - (i + 1),by omega,i + 1,by rw [i64_id (by omega)]; rfl,by omega,rfl,fun h0 j v hj hv=> by
    by_cases e : j = i
    ·subst e
     rw [gu] at hv
     cases hv
     exact h1 h0
    ·exact hno h0 j v (by omega) hv,rfl⟩
  refine Br.dec (fun h1=> ?_) fun h1=> next fun _=> h1
  by_cases h0 : bl n = []
  ·rw [decide_eq_true h0]
   exact Br.f rfl (next fun h=> absurd h0 h)
  ·rw [decide_eq_false h0,hs1,if_neg h0,hfi h0 h1]
   refine Br.t rfl (Nw.of ⟨_,_,byte_str (Blk.new _ _ _),?_,e3.alloc _⟩)
   rw [ub_small (by omega)]
 ·have hres : signF (bl n) = uniF (bl n) := by
   rw [hs1]
   by_cases h0 : bl n = []
   ·rw [if_pos h0,h0]
    rfl
   ·have hnone : U.findIdx? (fun m=> decide (m = bl n)) = none := by
     rw [List.findIdx?_eq_none_iff]
     intro u hu
     obtain ⟨j,hj⟩ := List.mem_iff_getElem?.1 hu
     have hlt := (List.getElem?_eq_some_iff.1 hj).1
     have := hno h0 j u (by omega) hj
     simp [this]
    rw [if_neg h0,hnone]
  rw [hres]
  unfold uniF
  refine Br.ne (fun h7=> ⟨by rw [if_neg (by rintro ⟨_,h⟩; omega)],e3⟩) fun h7=> ⟨by omega,by omega,?_⟩
  have hex : ((n.extract 0 ((3 : Int).toNat)).toList == (⟨#[117,110,105]⟩ : ByteArray).toList) = decide ((bl n).take 3 = [117,110,105]) := by
   rw [eqL]
   have : (n.extract 0 ((3 : Int).toNat)).data.toList = (bl n).take 3 := bl_ext n 0 3
   rw [this]
  rw [hex]
  by_cases h3 : (bl n).take 3 = [117,110,105]
  ·rw [decide_eq_true h3,if_pos ⟨h3,by omega⟩]
   refine Br.f rfl ?_
   have hl7 : (bl n).length = 7 := by omega
   refine ⟨fun m st w1=> ∃ (i k : Nat),st = ((k : Int),((3 + i : Nat) : Int)) /\ i <= 4 /\ m = 4 - i /\ k < 16 ^ i /\ hexs ((bl n).drop 3) 0 = hexs ((bl n).drop (3 + i)) k /\ w1 = w5,4,⟨0,0,rfl,by omega,rfl,by decide,rfl,rfl⟩,?_⟩
   rintro m st w11 ⟨i,k,rfl,hi4,rfl,hk,hh,rfl⟩
   unfold S150L1
   dsimp only
   have hk4 : k < 65536 := Nat.lt_of_lt_of_le hk (Nat.pow_le_pow_right (by decide) hi4)
   refine Br.dec (fun q2=> ?_) fun q2=> ?_
   ·have hil : 3 + i < (bl n).length := by omega
    have hbt := bAt_list n (3 + i)
    have hbb : (bl n).getD (3 + i) 0 = (bl n)[3 + i] := by rw [List.getD_eq_getElem?_getD,List.getElem?_eq_getElem hil]; rfl
    have hb1 : bAt n ((3 + i : Nat) : Int) = ((bl n)[3 + i].toNat : Int) := by rw [hbt]; exact congrArg (fun b : UInt8=> ((b.toNat : Nat) : Int)) hbb
    rw [List.drop_eq_getElem_cons hil] at hh
    rw [hb1]
    generalize (bl n)[3 + i] = b at *
    have hcons : hexs (b :: (bl n).drop (3 + i + 1)) k = (match hexU b with
     | some d=> hexs ((bl n).drop (3 + i + 1)) (16 * k + d)
     | none=> none) := rfl
    rw [hcons] at hh
    refine ⟨by omega,by omega,(r_digit b w11).mono ?_⟩
    rintro rd w14 ⟨hd,rfl⟩
    cases hx : hexU b with
    | none=>
     rw [hx] at hd hh
     subst hd
     exact Br.t (by decide) ⟨by rw [hh],e3⟩
    | some d=>
     rw [hx] at hd hh
     obtain ⟨rfl,hd16⟩ := hd
     refine Br.f (by rw [decide_eq_false_iff_not]; omega) ⟨4 - (i + 1),by omega,i + 1,16 * k + d,?_,by omega,rfl,?_,hh,rfl⟩
     ·rw [i64_id (n := 16 * (k : Int)) (by omega),i64_id (by omega),i64_id (by omega)]
      refine Prod.ext ?_ ?_
      ·show 16 * (k : Int) + (d : Int) = ((16 * k + d : Nat) : Int)
       omega
      ·show ((3 + i : Nat) : Int) + 1 = ((3 + (i + 1) : Nat) : Int)
       omega
     ·rw [Nat.pow_succ]
      omega
   ·have : i = 4 := by omega
    subst this
    rw [show (bl n).drop (3 + 4) = [] from List.drop_of_length_le (by omega)] at hh
    have hh : hexs ((bl n).drop 3) 0 = some k := hh
    rw [hh]
    dsimp only
    rw [i32_id (by omega)]
    have fin : ¬ (k = 0 \/ (55296 <= k /\ k <= 57343)) -> Utf8.encode (k : Int) = ⟨(if k = 0 \/ (55296 <= k /\ k <= 57343) then [] else encodeRune (k : Int)).toArray⟩ := fun hno=> by
     rw [if_neg hno,enc_eq (by omega)]
    refine Br.eq (fun h0=> ⟨by rw [if_pos (.inl (by omega))],e3⟩) fun h0=> ?_
    exact Br.dec (fun h1=> Br.dec (fun h2=> ⟨by rw [if_pos (.inr (by omega))],e3⟩) fun h2=> ⟨fin (by omega),e3⟩) fun h1=> ⟨fin (by omega),e3⟩
  ·rw [decide_eq_false h3,if_neg (fun h=> h3 h.1)]
   exact Br.t rfl ⟨rfl,e3⟩
theorem r_say {w : World} {x : FT} {f : Font} (h : FoV w x f) (code : Int) : C138 x code w fun r w1=> r = ⟨(sayF f code).toArray⟩ /\ Ext (fun _=> False) w w1 := by
 refine T138 _ _ _ _ ?_
 unfold S138
 refine Nw.of ?_
 have H := fo_blk w x
 have hE := H.ext
 have hn := h.nlen
 generalize w.alloc (.cells (Sig.cells LiA34 x).toArray 35) = wd at *
 refine H.ld 0 rfl (x := x.2.2.2.2.2.2) rfl ?_
 refine (r_find (h.keep hE).maps h.lm code).mono ?_
 rintro r9 b10 w11 ⟨hf,rfl⟩
 unfold sayF
 cases hfi : f.maps.find? (fun x=> decide (x.1 = code)) with
 | some p=>
  rw [hfi] at hf
  obtain ⟨rfl,rfl⟩ := hf
  exact Br.t rfl ⟨ba_ext (by simp [bl]),hE⟩
 | none=>
  rw [hfi] at hf
  obtain ⟨rfl,rfl⟩ := hf
  refine Br.f rfl (H.ld 0 rfl (x := x.2.2.2.2.2.1) rfl ?_)
  rw [hn]
  refine Br.eq (fun h0=> ?_) fun h0=> ?_
  ·have hnil : f.names = [] := List.length_eq_zero_iff.1 (by omega)
   rw [if_pos hnil]
   refine (r_usual _).mono ?_
   rintro r15 w16 ⟨hV,e16⟩
   have H := H.keep e16
   have E16 := hE.tr e16
   have hlen : r15.len = usualB.length := VRow.count bcell_len (by decide) hV
   have hub := usualB_len
   refine H.ld 0 rfl (x := x.2.1) rfl ?_
   rw [h.wide,hlen]
   cases hw : f.wide with
   | true=> exact Br.t rfl ⟨by rw [if_pos (.inl rfl)],E16⟩
   | false=>
    refine Br.f rfl (Br.dec (fun h1=> ⟨by rw [if_pos (.inr (.inl h1))],E16⟩) fun h1=> Br.dec (fun h2=> ⟨by rw [if_pos (.inr (.inr (by omega)))],E16⟩) fun h2=> ?_)
    have hil : code.toNat < usualB.length := by omega
    have hgd : usualB.getD code.toNat [] = usualB[code.toNat] := by rw [List.getD_eq_getElem?_getD,List.getElem?_eq_getElem hil]; rfl
    obtain ⟨a,ha,hc⟩ := VRow.elem bcell_len hV (List.getElem?_eq_getElem hil) (by decide)
    rw [if_neg (by rintro (h | h | h); cases h; omega; omega),hgd]
    generalize usualB[code.toNat] = u at *
    rw [ha]
    refine ⟨by omega,by omega,Nn.of (Ld.mk (x := (⟨u.toArray⟩ : ByteArray)) (by have := hc 0 _ rfl; simpa using this) ?_)⟩
    refine (r_sign ⟨u.toArray⟩ _).mono ?_
    rintro r w22 ⟨rfl,e22⟩
    exact ⟨by simp [bl],E16.tr e22⟩
  ·have hne : f.names ≠ [] := fun e=> h0 (by rw [e]; rfl)
   rw [if_neg hne]
   refine H.ld 0 rfl (x := x.2.1) rfl ?_
   rw [h.wide]
   have hlm : (f.names.map bl).length = f.names.length := List.length_map ..
   cases hw : f.wide with
   | true=> exact Br.t rfl ⟨by rw [if_pos (.inl rfl)],hE⟩
   | false=>
    refine Br.f rfl (Br.dec (fun h1=> ⟨by rw [if_pos (.inr (.inl h1))],hE⟩) fun h1=> Br.dec (fun h2=> ⟨by rw [if_pos (.inr (.inr (by omega)))],hE⟩) fun h2=> ?_)
    have hil : code.toNat < f.names.length := by omega
    have hgd : (f.names.map bl).getD code.toNat [] = bl f.names[code.toNat] := by rw [List.getD_eq_getElem?_getD,List.getElem?_map,List.getElem?_eq_getElem hil]; rfl
    obtain ⟨a,ha,hc⟩ := VRow.elem scell_len (h.keep hE).names (List.getElem?_eq_getElem hil) (by decide)
    rw [if_neg (by rintro (h | h | h); cases h; omega; omega),hgd]
    generalize f.names[code.toNat] = u at *
    rw [ha]
    refine ⟨by omega,by omega,Nn.of (Ld.mk (x := u) (by have := hc 0 _ rfl; simpa using this) ?_)⟩
    refine (r_sign u _).mono ?_
    rintro r w22 ⟨rfl,e22⟩
    exact ⟨rfl,hE.tr e22⟩
end Fo
end Go.Proofs.YtcblpehnkogfdaaGreatDoor

/- The reference's text machine: steps, widths. Conditions: sizes. -/
namespace Go.Proofs.YtcblpehnkogfdaaGreatDoor
namespace Ma
open Sh Mat Fix Fo Sw Opr Pat
set_option maxRecDepth 8000
set_option maxHeartbeats 4000000
theorem r_near6 {n : Int} (hn : -5000000000000000000 <= n /\ n <= 5000000000000000000) (w : World) : C128 n 1000000 w fun r w1=> r = near6 n /\ Ext (fun _=> False) w w1 := by
 refine T128 _ _ _ _ ?_
 unfold S128
 have he : Ext (fun _=> False) w w := (Ext.refl _ w)
 have e := near6_eq hn
 have := td6 n
 refine ⟨by omega,by omega,Br.dec (fun h=> ?_) fun h=> ?_⟩
 ·rw [if_pos h] at e
  rw [i64_id (n := Int.tmod n 1000000 + 1000000) (by omega),i64_id (n := 1000000 - (Int.tmod n 1000000 + 1000000)) (by omega),i64_id (n := Int.tdiv n 1000000) (by omega),i64_id (n := Int.tdiv n 1000000 - 1) (by omega),i64_id (n := Int.tdiv n 1000000 - 1 + 1) (by omega)]
  refine Lt.of (Br.dec (fun h2=> ⟨?_,he⟩) fun h2=> ⟨?_,he⟩)
  ·rw [if_pos h2] at e; exact e
  ·rw [if_neg h2] at e; exact e
 ·rw [if_neg h] at e
  rw [i64_id (n := 1000000 - Int.tmod n 1000000) (by omega),i64_id (n := Int.tdiv n 1000000) (by omega),i64_id (n := Int.tdiv n 1000000 + 1) (by omega)]
  refine Br.dec (fun h2=> ⟨?_,he⟩) fun h2=> ⟨?_,he⟩
  ·rw [if_pos h2] at e; exact e
  ·rw [if_neg h2] at e; exact e
theorem r_Near6 {n : Int} (hn : -4611686018427387904 <= n /\ n <= 4611686018427387904) (w : World) : C111 n 1000000 w fun r e w1=> r = near6 n /\ e = 0 /\ Ext (fun _=> False) w w1 := by
 refine T111 _ _ _ _ ?_
 unfold S111
 refine Sh.Br.f (by decide) (Br.dec (fun h=> absurd h (by omega)) fun _=> Br.dec (fun h=> absurd h (by omega)) fun _=> (r_near6 (by omega) w).mono ?_)
 rintro r w1 ⟨rfl,he⟩
 exact ⟨rfl,rfl,he⟩
theorem r_near3 {n : Int} (hn : -5000000000000000000 <= n /\ n <= 5000000000000000000) (w : World) : C128 n 1000 w fun r w1=> r = near3 n /\ Ext (fun _=> False) w w1 := by
 refine T128 _ _ _ _ ?_
 unfold S128
 have he : Ext (fun _=> False) w w := (Ext.refl _ w)
 have e := near3_eq hn
 have := td3 n
 refine ⟨by omega,by omega,Br.dec (fun h=> ?_) fun h=> ?_⟩
 ·rw [if_pos h] at e
  rw [i64_id (n := Int.tmod n 1000 + 1000) (by omega),i64_id (n := 1000 - (Int.tmod n 1000 + 1000)) (by omega),i64_id (n := Int.tdiv n 1000) (by omega),i64_id (n := Int.tdiv n 1000 - 1) (by omega),i64_id (n := Int.tdiv n 1000 - 1 + 1) (by omega)]
  refine Lt.of (Br.dec (fun h2=> ⟨?_,he⟩) fun h2=> ⟨?_,he⟩)
  ·rw [if_pos h2] at e; exact e
  ·rw [if_neg h2] at e; exact e
 ·rw [if_neg h] at e
  rw [i64_id (n := 1000 - Int.tmod n 1000) (by omega),i64_id (n := Int.tdiv n 1000) (by omega),i64_id (n := Int.tdiv n 1000 + 1) (by omega)]
  refine Br.dec (fun h2=> ⟨?_,he⟩) fun h2=> ⟨?_,he⟩
  ·rw [if_pos h2] at e; exact e
  ·rw [if_neg h2] at e; exact e
theorem r_Near3 {n : Int} (hn : -4611686018427387904 <= n /\ n <= 4611686018427387904) (w : World) : C111 n 1000 w fun r e w1=> r = near3 n /\ e = 0 /\ Ext (fun _=> False) w w1 := by
 refine T111 _ _ _ _ ?_
 unfold S111
 refine Sh.Br.f (by decide) (Br.dec (fun h=> absurd h (by omega)) fun _=> Br.dec (fun h=> absurd h (by omega)) fun _=> (r_near3 (by omega) w).mono ?_)
 rintro r w1 ⟨rfl,he⟩
 exact ⟨rfl,rfl,he⟩
theorem r_mul2 (a b : Int) (w : World) : C107 a b w fun r e w1=> (r,e) = resI (mulO a b) /\ Ext (fun _=> False) w w1 := by
 refine T107 _ _ _ _ ?_
 unfold S107 mulO
 refine (Fix.r_within a w).mono ?_
 rintro r7 w8 ⟨rfl,rfl⟩
 cases ha : inW a with
 | false=> exact Sh.Br.t rfl ⟨by rw [if_neg (by rintro ⟨h,_⟩; cases h)]; rfl,Ext.refl _ _⟩
 | true=>
 refine Sh.Br.f rfl ((Fix.r_within b _).mono ?_)
 rintro r9 w10 ⟨rfl,rfl⟩
 cases hb : inW b with
 | false=> exact Sh.Br.t rfl ⟨by rw [if_neg (by rintro ⟨_,h,_⟩; cases h)]; rfl,Ext.refl _ _⟩
 | true=>
 have hm := mul_bd (inW_spec.1 ha) (inW_spec.1 hb)
 rw [i64_id (n := a * b) (by omega)]
 refine Sh.Br.f rfl ((Fix.r_near (by omega) _).mono ?_)
 rintro r11 w12 ⟨rfl,e12⟩
 refine (Fix.r_told _ _).mono ?_
 rintro r13 r14 w15 ⟨h,rfl⟩
 refine ⟨?_,e12⟩
 rw [h]
 cases hn : inW (near (a * b)) with
 | false=> rw [if_neg (by decide),if_neg (by rintro ⟨_,_,h⟩; cases h)]; rfl
 | true=> rw [if_pos rfl,if_pos ⟨rfl,rfl,rfl⟩]; rfl
attribute [local irreducible] Ld Sh.St Nw Nn Lt LdS
theorem stMx {w0 u : World} {Ls : List (Nat × List Value × TypeId)} (H : Hn w0 u Ls) (i : Nat) {b : Nat} {m0 : Mx} (hi : Ls[i]? = some (b,mrow m0,TM)) (r : Mx) {K : World -> Prop} (k : ∀ u',Hn w0 u' (Ls.set i (b,mrow r,TM)) -> Ext (· = b) u u' -> K u') :
  Sh.St u (⟨b,0,none⟩ : Addr) (.int .i64 r.1) fun w2=> Sh.St w2 ((⟨b,0,none⟩ : Addr).add 1) (.int .i64 r.2.1) fun w2=> Sh.St w2 ((⟨b,0,none⟩ : Addr).add 2) (.int .i64 r.2.2.1) fun w2=>
  Sh.St w2 ((⟨b,0,none⟩ : Addr).add 3) (.int .i64 r.2.2.2.1) fun w2=> Sh.St w2 ((⟨b,0,none⟩ : Addr).add 4) (.int .i64 r.2.2.2.2.1) fun w2=> Sh.St w2 ((⟨b,0,none⟩ : Addr).add 5) (.int .i64 r.2.2.2.2.2) K :=
 st_mx (H.get i hi) r fun u' e hb=> k u' (H.turn i hi hb e) e
section
variable {w : World} {g : GT} {x : FT} {f : Font}
theorem r_scaled {n : Int} (hn : inW n = true) (hs : inW (tscale g) = true) (w : World) : C71 n (tscale g) w fun r e w1=> (r,e) = resI (scaledP g n) /\ Ext (fun _=> False) w w1 := by
 refine T71 _ _ _ _ ?_
 unfold S71 scaledP
 have hm := mul_bd (inW_spec.1 hn) (inW_spec.1 hs)
 rw [i64_id (n := n * tscale g) (by omega)]
 refine (r_Near6 (by omega) w).mono ?_
 rintro r3 r4 w5 ⟨rfl,rfl,e5⟩
 have hno : ¬ (-1073741824 <= near6 (n * tscale g) /\ near6 (n * tscale g) <= 1073741824) -> ((0,2) : Int × Int) = resI (if inW (near6 (n * tscale g)) = true then some (near6 (n * tscale g)) else none) := fun h=> by
  rw [if_neg (by rw [inW_no.2 h]; decide)]; rfl
 refine Br.ne (fun q=> absurd rfl q) fun _=> Br.dec (fun h=> ⟨hno (by omega),e5⟩) fun h1=> Br.dec (fun h=> ⟨hno (by omega),e5⟩) fun h2=> ⟨?_,e5⟩
 rw [if_pos (inW_spec.2 (by omega))]; rfl
theorem r_wide (h : FoV w x f) (hm : mayF f = true) {code : Int} (hc : I64 code) : C69 g x code w fun r e w1=> (r,e) = resI (widthP g f code) /\ Ext (fun _=> False) w w1 := by
 refine T69 _ _ _ _ _ ?_
 unfold S69
 refine Nw.of ?_
 have HG := gr_blk w g
 have H := Hn.push ((Hn.start w).keep HG.ext) (show Blk _ w.heap.size (grl g).toArray TG from HG.get 0 rfl) (Nat.le_refl _) (by simp)
 generalize w.alloc (.cells (Sig.cells LiA30 g).toArray TG) = vw4 at *
 refine Nw.of ?_
 have HF := fo_blk vw4 x
 have H : Hn w _ [(w.heap.size,grl g,TG),(vw4.heap.size,fol x,TF)] := Hn.push (H.keep HF.ext) (show Blk _ vw4.heap.size (fol x).toArray TF from HF.get 0 rfl) H.size fun hm=> Nat.lt_irrefl _ (H.all_lt hm)
 generalize vw4.alloc (.cells (Sig.cells LiA34 x).toArray TF) = w5 at *
 refine reg H (LdS.of (fun w' hw=> hw.get 0 rfl) (x := tsize g) rfl (fS (fun _ h=> h) (i := 1) rfl ?_))
 have H := H.drew
 refine (r_width (h.keep H.ext) hc).mono ?_
 rintro r9 w10 ⟨rfl,e10⟩
 have H := H.keep e10
 have hb := widthF_bd hm code
 rw [i64_id (n := 10 * widthF f code) (by omega)]
 refine ⟨H,(r_mul2 _ _ _).mono ?_⟩
 rintro r11 r12 w13 ⟨hr,e13⟩
 exact ⟨hr,H.ext.tr e13⟩
theorem r_step (h : FoV w x f) (hm : mayF f = true) (hg : useG g = true) {code : Int} (hc : I64 code) : C37 g x code w fun r e w1=> (r,e) = resI ((widthP g f code).bind fun wd=> stepP g f code wd) /\ Ext (fun _=> False) w w1 := by
 refine T37 _ _ _ _ _ ?_
 unfold S37
 refine Nw.of ?_
 have HG := gr_blk w g
 have H := Hn.push ((Hn.start w).keep HG.ext) (show Blk _ w.heap.size (grl g).toArray TG from HG.get 0 rfl) (Nat.le_refl _) (by simp)
 generalize w.alloc (.cells (Sig.cells LiA30 g).toArray TG) = vw4 at *
 refine Nw.of ?_
 have HF := fo_blk vw4 x
 have H : Hn w _ [(w.heap.size,grl g,TG),(vw4.heap.size,fol x,TF)] := Hn.push (H.keep HF.ext) (show Blk _ vw4.heap.size (fol x).toArray TF from HF.get 0 rfl) H.size fun hm=> Nat.lt_irrefl _ (H.all_lt hm)
 generalize vw4.alloc (.cells (Sig.cells LiA34 x).toArray TF) = w5 at *
 refine gL H (i := 0) rfl (fL H (i := 1) rfl ?_)
 refine (r_wide (h.keep H.ext) hm hc).mono ?_
 rintro r8 r9 w10 ⟨hr,e10⟩
 have H := H.keep e10
 refine Br.ne (fun q=> ?_) fun q=> ?_
 ·obtain ⟨hn,rfl⟩ := resI_no hr q
  rw [hn]
  exact ⟨by rw [Option.bind_none]; rfl,H.ext⟩
 subst q
 have hwp := resI_yes hr
 rw [hwp,Option.bind_some]
 obtain ⟨g1,g2,g3,g4,g5,g6⟩ := useG_in hg
 have hw8 : inW r8 = true := mulO_in hwp
 have sum3 : ∀ more : Int,inW more = true -> sumO [r8,tchar g,more] = sumO ([r8,tchar g] ++ (if code = 32 /\ f.wide = false then [tword g] else [])) -> ∀ w1,Hn w w1 [(w.heap.size,grl g,TG),(vw4.heap.size,fol x,TF)] -> S37J1 w r8 (fun r e w1=> (r,e) = resI (stepP g f code r8) /\ Ext (fun _=> False) w w1) more w1 := fun more hmore hsum w1 H=> by
  unfold S37J1
  refine H.ld 0 rfl (x := tchar g) rfl (H.nw fun w16 H=> ?_)
  have HI : IRow w16 ⟨some ⟨w1.heap.size,0,none⟩,3,3⟩ [r8,tchar g,more] := IRow.of (H.get 2 rfl) rfl fun i hi=> by
   have hi : i < 3 := hi
   rcases i with _ | _ | _ | i
   all_goals first | rfl | omega
  refine (Pat.r_sum HI (by show 3 <= 1000000; decide)).mono ?_
  rintro r17 r18 w19 ⟨hr,rfl⟩
  rw [sumF_res,hsum] at hr
  unfold stepP stepL
  refine Br.ne (fun q=> ?_) fun q=> ?_
  ·obtain ⟨hn,rfl⟩ := resI_no hr q
   rw [hn]
   exact ⟨by rw [Option.bind_none]; rfl,H.ext⟩
  subst q
  have hsp := resI_yes hr
  rw [hsp,Option.bind_some]
  refine H.ld 0 rfl (x := tscale g) rfl ?_
  refine (r_scaled (g := g) (sumO_in hsp) g4 _).mono ?_
  rintro r21 r22 w23 ⟨hr,e23⟩
  exact ⟨hr,H.ext.tr e23⟩
 have zero3 : sumO [r8,tchar g,0] = sumO [r8,tchar g] := by
  unfold sumO
  have hall : ([r8,tchar g,0] : List Int).all inW = ([r8,tchar g] : List Int).all inW := by
   simp only [List.all_cons,List.all_nil,Bool.and_true,show inW 0 = true by decide]
  have hps : Pat.ps [r8,tchar g,0] [r8,tchar g,0].length = Pat.ps [r8,tchar g] [r8,tchar g].length := by simp [Pat.ps]
  rw [hall,hps]
 refine ⟨fun more w1=> inW more = true /\ sumO [r8,tchar g,more] = sumO ([r8,tchar g] ++ (if code = 32 /\ f.wide = false then [tword g] else [])) /\ Hn w w1 [(w.heap.size,grl g,TG),(vw4.heap.size,fol x,TF)],fun more w1 hh=> sum3 more hh.1 hh.2.1 w1 hh.2.2,?_⟩
 have hfw : x.2.1 = f.wide := h.wide
 refine Br.eq (fun h32=> H.ld 1 rfl (x := x.2.1) rfl ?_) fun h32=> ⟨by decide,by rw [if_neg (fun h=> h32 h.1),List.append_nil]; exact zero3,H⟩
 rw [hfw]
 cases hw : f.wide with
 | true=> exact Sh.Br.f rfl ⟨by decide,by rw [if_neg (by rintro ⟨_,h⟩; cases h),List.append_nil]; exact zero3,H⟩
 | false=> exact Sh.Br.t rfl (H.ld 0 rfl (x := tword g) rfl ⟨g3,by rw [if_pos ⟨h32,rfl⟩]; rfl,H⟩)
theorem r_Step (h : FoV w x f) {code : Int} (hc : I64 code) : C12 g x code w fun r e w1=> (r,e) = stepF g f code /\ Ext (fun _=> False) w w1 := by
 refine T12 _ _ _ _ _ ?_
 unfold S12 stepF
 refine Nw.of ?_
 have HG := gr_blk w g
 have H := Hn.push ((Hn.start w).keep HG.ext) (show Blk _ w.heap.size (grl g).toArray TG from HG.get 0 rfl) (Nat.le_refl _) (by simp)
 generalize w.alloc (.cells (Sig.cells LiA30 g).toArray TG) = vw4 at *
 refine Nw.of ?_
 have HF := fo_blk vw4 x
 have H : Hn w _ [(w.heap.size,grl g,TG),(vw4.heap.size,fol x,TF)] := Hn.push (H.keep HF.ext) (show Blk _ vw4.heap.size (fol x).toArray TF from HF.get 0 rfl) H.size fun hm=> Nat.lt_irrefl _ (H.all_lt hm)
 generalize vw4.alloc (.cells (Sig.cells LiA34 x).toArray TF) = w5 at *
 refine gL H (i := 0) rfl ((r_may g _).mono ?_)
 rintro r10 w11 ⟨rfl,e11⟩
 have H := H.keep e11
 cases hu : useG g with
 | false=> exact Br.ne (fun q=> ⟨by rw [if_neg (by decide),if_pos rfl],H.ext⟩) fun q=> by rw [if_neg (by decide)] at q; cases q
 | true=>
 rw [if_pos rfl,if_neg (by decide)]
 refine Br.ne (fun q=> absurd rfl q) fun _=> fL H (i := 1) rfl ?_
 refine (r_chk (h.keep H.ext)).mono ?_
 rintro r16 w17 ⟨rfl,e17⟩
 have H := H.keep e17
 refine Br.ne (fun q=> ⟨by rw [if_pos q],H.ext⟩) fun q=> ?_
 rw [if_neg (by simp [q])]
 refine gL H (i := 0) rfl (fL H (i := 1) rfl ?_)
 refine (r_step (h.keep H.ext) (chk_may q) hu hc).mono ?_
 rintro r20 r21 w22 ⟨hr,e22⟩
 exact ⟨hr,H.ext.tr e22⟩
end
end Ma
end Go.Proofs.YtcblpehnkogfdaaGreatDoor

/- The reference's text machine: a glyph. Conditions: sizes. -/
namespace Go.Proofs.YtcblpehnkogfdaaGreatDoor
namespace Ma
open Sh Mat Fix Fo Sw Opr Pat
set_option maxRecDepth 8000
set_option maxHeartbeats 4000000
attribute [local irreducible] Ld Sh.St Nw Nn Lt LdS
def gz0 : GlT := (0,⟨#[]⟩,0,0,0,0,0,⟨#[]⟩,0)
theorem gfail {w u : World} {b0 b5 b6 b7 b8 : Nat} {c0 c6 : List Value} {t0 t6 : TypeId} {rest : List (Nat × List Value × TypeId)} {m : Mx} (H : Hn w u ((b0,c0,t0) :: (b5,mrow m,TM) :: (b6,c6,t6) :: (b7,glc gz0,TL) :: (b8,mrow noM,TM) :: rest))
  {R : GlT -> Int -> Int -> Int -> Int -> Int -> Int -> World -> Prop} (k : ∀ r y0 y1 y2 y3 y4 y5 w',Ext (fun _=> False) w w' -> R r y0 y1 y2 y3 y4 y5 w') :
  ∃ S : World -> Prop,S u.drew /\ LdS S (⟨b5,0,none⟩ : Addr) (Value.int .i64) fun (x0 : Int)=> LdS S ((⟨b5,0,none⟩ : Addr).add 1) (Value.int .i64) fun (x1 : Int)=> LdS S ((⟨b5,0,none⟩ : Addr).add 2) (Value.int .i64) fun (x2 : Int)=>
   LdS S ((⟨b5,0,none⟩ : Addr).add 3) (Value.int .i64) fun (x3 : Int)=> LdS S ((⟨b5,0,none⟩ : Addr).add 4) (Value.int .i64) fun (x4 : Int)=> LdS S ((⟨b5,0,none⟩ : Addr).add 5) (Value.int .i64) fun (x5 : Int)=>
   StT (⟨b7,0,none⟩ : Addr) 0 LiA69 ((0,(⟨#[]⟩ : ByteArray),0,0,0,0,0,(⟨#[]⟩ : ByteArray),0) : GlT) u.drew fun u1=>
   S u1 /\ Sh.St u1 (⟨b8,0,none⟩ : Addr) (.int .i64 x0) fun u2=> Sh.St u2 ((⟨b8,0,none⟩ : Addr).add 1) (.int .i64 x1) fun u3=> Sh.St u3 ((⟨b8,0,none⟩ : Addr).add 2) (.int .i64 x2) fun u4=>
   Sh.St u4 ((⟨b8,0,none⟩ : Addr).add 3) (.int .i64 x3) fun u5=> Sh.St u5 ((⟨b8,0,none⟩ : Addr).add 4) (.int .i64 x4) fun u6=> Sh.St u6 ((⟨b8,0,none⟩ : Addr).add 5) (.int .i64 x5) fun u7=>
   LdT u7 (⟨b7,0,none⟩ : Addr) 0 LiA69 fun (r : GlT)=> Ld u7 (⟨b8,0,none⟩ : Addr) (Value.int .i64) fun (y0 : Int)=> Ld u7 ((⟨b8,0,none⟩ : Addr).add 1) (Value.int .i64) fun (y1 : Int)=> Ld u7 ((⟨b8,0,none⟩ : Addr).add 2) (Value.int .i64) fun (y2 : Int)=>
   Ld u7 ((⟨b8,0,none⟩ : Addr).add 3) (Value.int .i64) fun (y3 : Int)=> Ld u7 ((⟨b8,0,none⟩ : Addr).add 4) (Value.int .i64) fun (y4 : Int)=> Ld u7 ((⟨b8,0,none⟩ : Addr).add 5) (Value.int .i64) fun (y5 : Int)=> R r y0 y1 y2 y3 y4 y5 u7 := by
 have hS : ∀ w',Blk w' b5 (mrow m).toArray TM -> Blk w' b5 (mrow m).toArray TM := fun _ h=> h
 refine ⟨fun w'=> Blk w' b5 (mrow m).toArray TM,H.drew.get 1 rfl,LdS.of hS (x := m.1) rfl (LdS.of hS (x := m.2.1) rfl (LdS.of hS (x := m.2.2.1) rfl (LdS.of hS (x := m.2.2.2.1) rfl (LdS.of hS (x := m.2.2.2.2.1) rfl (LdS.of hS (x := m.2.2.2.2.2) rfl ?_)))))⟩
 refine H.drew.stT (i := 3) (ts := LiA69) (pre := []) (post := []) (x := gz0) (zs := glc gz0) rfl rfl rfl fun u1 H1=> ⟨H1.get 1 rfl,?_⟩
 refine stMx H1 4 rfl m fun u7 H7 _=> ?_
 refine H7.ldT (i := 3) (ts := LiA69) (pre := []) (post := []) (x := gz0) rfl rfl ?_
 exact H7.ld 4 rfl (x := m.1) rfl (H7.ld 4 rfl (x := m.2.1) rfl (H7.ld 4 rfl (x := m.2.2.1) rfl (H7.ld 4 rfl (x := m.2.2.2.1) rfl (H7.ld 4 rfl (x := m.2.2.2.2.1) rfl (H7.ld 4 rfl (x := m.2.2.2.2.2) rfl (k _ _ _ _ _ _ _ _ H7.ext))))))
section
variable {w : World} {g : GT} {x : FT} {f : Font}
theorem r_glyph (h : FoV w x f) (hm : mayF f = true) (hg : useG g = true) {code : Int} (hc : I64 code) (m : Mx) :
  C119 g m x code w fun r m2 e w1=> (match signP g f m code with
   | some y=> r = y.1 /\ m2 = y.2 /\ e = 0
   | none=> e = 2) /\ Ext (fun _=> False) w w1 := by
 refine T119 g m x code _ _ ?_
 unfold S119 signP
 obtain ⟨g1,g2,g3,g4,g5,g6⟩ := useG_in hg
 refine Nw.of ?_
 have HG := gr_blk w g
 have H := Hn.push ((Hn.start w).keep HG.ext) (show Blk _ w.heap.size (grl g).toArray TG from HG.get 0 rfl) (Nat.le_refl _) (by simp)
 generalize w.alloc (.cells (Sig.cells LiA30 g).toArray TG) = vw5 at *
 refine H.nw (cs := mrow m) fun vw6 H=> ?_
 refine Nw.of ?_
 have HF := fo_blk vw6 x
 have H := Hn.push (H.keep HF.ext) (show Blk _ vw6.heap.size (fol x).toArray TF from HF.get 0 rfl) H.size fun hm=> Nat.lt_irrefl _ (H.all_lt hm)
 generalize vw6.alloc (.cells (Sig.cells LiA34 x).toArray TF) = vw7 at *
 refine H.nw (cs := glc gz0) fun vw8 H=> H.nw (cs := mrow noM) fun vw9 H=> ?_
 have H : Hn w vw9 [(w.heap.size,grl g,TG),(vw5.heap.size,mrow m,TM),(vw6.heap.size,fol x,TF),(vw7.heap.size,glc gz0,TL),(vw8.heap.size,mrow noM,TM)] := H
 refine H.ld 1 rfl (x := m.1) rfl (H.ld 1 rfl (x := m.2.1) rfl (H.ld 1 rfl (x := m.2.2.1) rfl (H.ld 1 rfl (x := m.2.2.2.1) rfl (H.ld 1 rfl (x := m.2.2.2.2.1) rfl (H.ld 1 rfl (x := m.2.2.2.2.2) rfl ((H.ld 0 rfl (x := (ctm g).1) rfl (H.ld 0 rfl (x := (ctm g).2.1) rfl (H.ld 0 rfl (x := (ctm g).2.2.1) rfl (H.ld 0 rfl (x := (ctm g).2.2.2.1) rfl (H.ld 0 rfl (x := (ctm g).2.2.2.2.1) rfl (H.ld 0 rfl (x := (ctm g).2.2.2.2.2) rfl (?_)))))))))))))
 refine (Mat.r_mul m (ctm g) _).mono ?_
 rintro r22 r23 w24 ⟨hr22,e24⟩
 have H := H.keep e24
 refine mk_mx w24 r22 fun w31 e31 hb=> ?_
 have H : Hn w w31 [(w.heap.size,grl g,TG),(vw5.heap.size,mrow m,TM),(vw6.heap.size,fol x,TF),(vw7.heap.size,glc gz0,TL),(vw8.heap.size,mrow noM,TM),(w24.heap.size,mrow r22,TM)] := (H.keep e31).push hb H.size fun hm=> Nat.lt_irrefl _ (H.all_lt hm)
 clear hb
 refine Br.ne (fun q=> ?_) fun q=> ?_
 ·obtain ⟨hn,rfl⟩ := resM_no hr22 q
  rw [hn,Option.bind_none]
  exact gfail H fun r y0 y1 y2 y3 y4 y5 w' e'=> ⟨rfl,e'⟩
 subst q
 rw [resM_yes hr22,Option.bind_some]
 refine gL H (i := 0) rfl (fL H (i := 2) rfl ?_)
 refine (r_wide (h.keep H.ext) hm hc).mono ?_
 rintro r69 r70 w71 ⟨hr69,e71⟩
 have H := H.keep e71
 refine Br.ne (fun q=> ?_) fun q=> ?_
 ·obtain ⟨hn,rfl⟩ := resI_no hr69 q
  rw [hn,Option.bind_none]
  exact gfail H fun r y0 y1 y2 y3 y4 y5 w' e'=> ⟨rfl,e'⟩
 subst q
 have hwp := resI_yes hr69
 rw [hwp,Option.bind_some]
 have hw69 : inW r69 = true := mulO_in hwp
 refine H.ld 0 rfl (x := tscale g) rfl ((r_scaled (g := g) hw69 g4 _).mono ?_)
 rintro r108 r109 w110 ⟨hr108,e110⟩
 have H := H.keep e110
 refine Br.ne (fun q=> ?_) fun q=> ?_
 ·obtain ⟨hn,rfl⟩ := resI_no hr108 q
  rw [hn,Option.bind_none]
  exact gfail H fun r y0 y1 y2 y3 y4 y5 w' e'=> ⟨rfl,e'⟩
 subst q
 rw [resI_yes hr108,Option.bind_some]
 refine H.ld 5 rfl (x := r22.1) rfl (H.ld 5 rfl (x := r22.2.1) rfl (H.ld 5 rfl (x := r22.2.2.1) rfl (H.ld 5 rfl (x := r22.2.2.2.1) rfl (H.ld 5 rfl (x := r22.2.2.2.2.1) rfl (H.ld 5 rfl (x := r22.2.2.2.2.2) rfl ((H.ld 0 rfl (x := trise g) rfl ?_)))))))
 refine (Mat.r_apply r22 (0,trise g) _).mono ?_
 rintro r153 r154 w155 ⟨hr153,e155⟩
 have H := H.keep e155
 refine H.nw fun w156 H=> ?_
 generalize hgl : grl g = gc at H
 generalize hfl : fol x = fc at H
 generalize hgz : glc gz0 = zc at H
 simp only [List.nil_append,List.cons_append,List.set_cons_zero,List.set_cons_succ,Nat.zero_add] at H
 iterate 2 (refine H.st 6 rfl (by simp) fun _ H=> ?_; simp only [List.nil_append,List.cons_append,List.set_cons_zero,List.set_cons_succ,Nat.zero_add] at H)
 rename_i w158
 subst hgl hfl hgz
 refine Br.ne (fun q=> ?_) fun q=> ?_
 ·obtain ⟨hn,rfl⟩ := resP_no hr153 q
  rw [hn,Option.bind_none]
  exact gfail H fun r y0 y1 y2 y3 y4 y5 w' e'=> ⟨rfl,e'⟩
 subst q
 rw [resP_yes hr153,Option.bind_some]
 refine H.ld 5 rfl (x := r22.1) rfl (H.ld 5 rfl (x := r22.2.1) rfl (H.ld 5 rfl (x := r22.2.2.1) rfl (H.ld 5 rfl (x := r22.2.2.2.1) rfl (H.ld 5 rfl (x := r22.2.2.2.2.1) rfl (H.ld 5 rfl (x := r22.2.2.2.2.2) rfl ((H.ld 0 rfl (x := trise g) rfl ?_)))))))
 refine (Mat.r_apply r22 (r108,trise g) _).mono ?_
 rintro r201 r202 w203 ⟨hr201,e203⟩
 have H := H.keep e203
 refine H.nw fun w204 H=> ?_
 generalize hgl : grl g = gc at H
 generalize hfl : fol x = fc at H
 generalize hgz : glc gz0 = zc at H
 simp only [List.nil_append,List.cons_append,List.set_cons_zero,List.set_cons_succ,Nat.zero_add] at H
 iterate 2 (refine H.st 7 rfl (by simp) fun _ H=> ?_; simp only [List.nil_append,List.cons_append,List.set_cons_zero,List.set_cons_succ,Nat.zero_add] at H)
 rename_i w206
 subst hgl hfl hgz
 refine Br.ne (fun q=> ?_) fun q=> ?_
 ·obtain ⟨hn,rfl⟩ := resP_no hr201 q
  rw [hn,Option.bind_none]
  exact gfail H fun r y0 y1 y2 y3 y4 y5 w' e'=> ⟨rfl,e'⟩
 subst q
 rw [resP_yes hr201,Option.bind_some]
 refine H.ld 5 rfl (x := r22.1) rfl (H.ld 5 rfl (x := r22.2.1) rfl (H.ld 5 rfl (x := r22.2.2.1) rfl (H.ld 5 rfl (x := r22.2.2.2.1) rfl (H.ld 5 rfl (x := r22.2.2.2.2.1) rfl (H.ld 5 rfl (x := r22.2.2.2.2.2) rfl ((H.ld 0 rfl (x := tsize g) rfl ?_)))))))
 refine (Mat.r_length r22 (0,tsize g) _).mono ?_
 rintro r249 r250 w251 ⟨hr249,e251⟩
 have hr249 := lenO_eq hr249
 have H := H.keep e251
 refine Br.ne (fun q=> ?_) fun q=> ?_
 ·obtain ⟨hn,rfl⟩ := resI_no hr249 q
  rw [hn,Option.bind_none]
  exact gfail H fun r y0 y1 y2 y3 y4 y5 w' e'=> ⟨rfl,e'⟩
 subst q
 rw [resI_yes hr249,Option.bind_some]
 refine gL H (i := 0) rfl (fL H (i := 2) rfl ?_)
 refine (r_step (h.keep H.ext) hm hg hc).mono ?_
 rintro r289 r290 w291 ⟨hr289,e291⟩
 rw [hwp,Option.bind_some] at hr289
 have H := H.keep e291
 refine Br.ne (fun q=> ?_) fun q=> ?_
 ·obtain ⟨hn,rfl⟩ := resI_no hr289 q
  rw [hn,Option.bind_none]
  exact gfail H fun r y0 y1 y2 y3 y4 y5 w' e'=> ⟨rfl,e'⟩
 subst q
 rw [resI_yes hr289,Option.bind_some]
 refine ⟨fun st w'=> ∃ b r e,st = (⟨b,0,none⟩,e) /\ Hn w w' [(w.heap.size,grl g,TG),(vw5.heap.size,mrow m,TM),(vw6.heap.size,fol x,TF),(vw7.heap.size,glc gz0,TL),(vw8.heap.size,mrow noM,TM),(w24.heap.size,mrow r22,TM),(w155.heap.size,[.int .i64 r153.1,.int .i64 r153.2],68),(w203.heap.size,[.int .i64 r201.1,.int .i64 r201.2],68),(b,mrow r,TM)] /\ (r,e) = resM (mulP (moveM r289 0) m),?_,?_⟩
 ·rintro _ w369 ⟨b,r,e,rfl,H,hr⟩
  unfold S119J1
  dsimp only
  refine Br.ne (fun q=> ?_) fun q=> ?_
  ·obtain ⟨hn,rfl⟩ := resM_no hr q
   rw [hn,Option.bind_none]
   exact gfail H fun r y0 y1 y2 y3 y4 y5 w' e'=> ⟨rfl,e'⟩
  subst q
  rw [resM_yes hr,Option.bind_some]
  dsimp only
  let SS : World -> Prop := fun w'=> ∃ c7,Hn w w' [(w.heap.size,grl g,TG),(vw5.heap.size,mrow m,TM),(vw6.heap.size,fol x,TF),(vw7.heap.size,c7,TL),(vw8.heap.size,mrow noM,TM),(w24.heap.size,mrow r22,TM),(w155.heap.size,[.int .i64 r153.1,.int .i64 r153.2],68),(w203.heap.size,[.int .i64 r201.1,.int .i64 r201.2],68),(b,mrow r,TM)]
  have b0 : ∀ w',SS w' -> Blk w' w.heap.size (grl g).toArray TG := fun w' ⟨c7,hh⟩=> hh.get 0 rfl
  have b2 : ∀ w',SS w' -> Blk w' vw6.heap.size (fol x).toArray TF := fun w' ⟨c7,hh⟩=> hh.get 2 rfl
  have b6 : ∀ w',SS w' -> Blk w' w155.heap.size [Value.int .i64 r153.1,.int .i64 r153.2].toArray 68 := fun w' ⟨c7,hh⟩=> hh.get 6 rfl
  have b7 : ∀ w',SS w' -> Blk w' w203.heap.size [Value.int .i64 r201.1,.int .i64 r201.2].toArray 68 := fun w' ⟨c7,hh⟩=> hh.get 7 rfl
  have b8 : ∀ w',SS w' -> Blk w' b (mrow r).toArray TM := fun w' ⟨c7,hh⟩=> hh.get 8 rfl
  have H := H.drew
  refine ⟨SS,⟨_,H⟩,LdST.blk (ts := LiA34) (pre := []) (post := []) (t := TF) (x := x) (fun w' hw=> b2 w' hw) rfl ?_⟩
  refine LdS.of b6 (x := r153.1) rfl (LdS.of b6 (x := r153.2) rfl (LdS.of b7 (x := r201.1) rfl (LdS.of b7 (x := r201.2) rfl (LdS.of b0 (x := tfont g) rfl (LdS.of b0 (x := tmode g) rfl ?_)))))
  refine LdS.of b8 (x := r.1) rfl (LdS.of b8 (x := r.2.1) rfl (LdS.of b8 (x := r.2.2.1) rfl (LdS.of b8 (x := r.2.2.2.1) rfl (LdS.of b8 (x := r.2.2.2.2.1) rfl (LdS.of b8 (x := r.2.2.2.2.2) rfl ?_)))))
  refine (r_say (h.keep H.ext) code).mono ?_
  rintro r419 w420 ⟨rfl,e420⟩
  have H := H.keep e420
  refine ⟨⟨_,H⟩,?_⟩
  refine H.stT (i := 3) (ts := LiA69) (pre := []) (post := []) (x := (code,⟨(sayF f code).toArray⟩,r153.1,r153.2,r201.1,r201.2,r249,tfont g,tmode g)) (zs := glc gz0) rfl rfl rfl fun w421 H=> ⟨⟨_,H⟩,?_⟩
  refine stMx H 4 rfl r fun w427 H _=> ?_
  refine H.ldT (i := 3) (ts := LiA69) (pre := []) (post := []) (x := (code,⟨(sayF f code).toArray⟩,r153.1,r153.2,r201.1,r201.2,r249,tfont g,tmode g)) rfl rfl ?_
  exact H.ld 4 rfl (x := r.1) rfl (H.ld 4 rfl (x := r.2.1) rfl (H.ld 4 rfl (x := r.2.2.1) rfl (H.ld 4 rfl (x := r.2.2.2.1) rfl (H.ld 4 rfl (x := r.2.2.2.2.1) rfl (H.ld 4 rfl (x := r.2.2.2.2.2) rfl (⟨⟨rfl,rfl,rfl⟩,H.ext⟩))))))
 ·refine reg H (LdS.of (fun w' hw=> hw.get 1 rfl) (x := m.1) rfl (LdS.of (fun w' hw=> hw.get 1 rfl) (x := m.2.1) rfl (LdS.of (fun w' hw=> hw.get 1 rfl) (x := m.2.2.1) rfl (LdS.of (fun w' hw=> hw.get 1 rfl) (x := m.2.2.2.1) rfl (LdS.of (fun w' hw=> hw.get 1 rfl) (x := m.2.2.2.2.1) rfl (LdS.of (fun w' hw=> hw.get 1 rfl) (x := m.2.2.2.2.2) rfl (?_)))))))
  have H := H.drew
  refine ⟨(Mat.r_move r289 0 _).mono ?_,H.nw (cs := mrow noM) fun w465 H=> ⟨Hn.left (M := [_]) H,(Mat.r_move r289 0 _).mono ?_⟩⟩
  ·rintro r443 w444 ⟨rfl,e444⟩
   have H := H.keep e444
   refine ⟨H,(Mat.r_mul (moveM r289 0) m _).mono ?_,H.nw (cs := mrow noM) fun w455 H=> ⟨Hn.left (M := [_]) H,(Mat.r_mul (moveM r289 0) m _).mono ?_⟩⟩
   ·rintro r445 r446 w447 ⟨hr,e447⟩
    have H := H.keep e447
    refine mk_mx w447 r445 fun w454 e454 hb=> ?_
    exact ⟨_,r445,r446,rfl,(H.keep e454).push hb H.size fun hm=> Nat.lt_irrefl _ (H.all_lt hm),hr⟩
   ·rintro r456 r457 w458 ⟨hr,e458⟩
    have H := H.keep e458
    exact stMx H 8 rfl r456 fun w464 H _=> ⟨_,r456,r457,rfl,H,hr⟩
  ·rintro r466 w467 ⟨rfl,e467⟩
   have H := H.keep e467
   refine ⟨Hn.left (M := [_]) H,(Mat.r_mul (moveM r289 0) m _).mono ?_⟩
   rintro r468 r469 w470 ⟨hr,e470⟩
   have H := H.keep e470
   exact stMx H 8 rfl r468 fun w476 H _=> ⟨_,r468,r469,rfl,H,hr⟩
end
end Ma
end Go.Proofs.YtcblpehnkogfdaaGreatDoor

/- The reference's text machine: a string. Conditions: sizes. -/
namespace Go.Proofs.YtcblpehnkogfdaaGreatDoor
namespace Ma
open Sh Mat Fix Fo Sw Opr Pat
set_option maxRecDepth 8000
set_option maxHeartbeats 4000000
attribute [local irreducible] Ld Sh.St Nw Nn Lt LdS
theorem _root_.Go.Proofs.YtcblpehnkogfdaaGreatDoor.Sh.VRow.keepO {F : Nat -> Prop} {w w' : World} {s : Slc} {k : Nat} {ys : List Value} (h : VRow w s k ys) (he : Ext F w w') (hF : ∀ j,j < w.heap.size -> s.own j -> ¬ F j) : VRow w' s k ys :=
 ⟨h.1,fun j v hj=> by
  obtain ⟨a,ha,hc⟩ := h.2 j v hj
  refine ⟨a,ha,?_⟩
  have hl := cell_lt' hc
  rw [he.cell hl (by rw [add_block] at hl ⊢; exact hF _ hl ⟨a,ha,rfl⟩)]
  exact hc⟩
section
variable {w : World} {g : GT} {x : FT} {f : Font}
theorem r_string (h : FoV w x f) (m : Mx) {s : ByteArray} (hs : s.size <= 1048576) :
  C87 g m x s w fun r m2 e w1=> Ext (fun _=> False) w w1 /\ ∃ L,stringF g m f s = (L,m2,e) /\ VRow w1 r 9 (L.flatMap glc) /\ ∀ j,r.own j -> w.heap.size <= j := by
 refine T87 g m x s _ _ ?_
 unfold S87
 refine Nw.of ?_
 have HG := gr_blk w g
 have H := Hn.push ((Hn.start w).keep HG.ext) (show Blk _ w.heap.size (grl g).toArray TG from HG.get 0 rfl) (Nat.le_refl _) (by simp)
 generalize w.alloc (.cells (Sig.cells LiA30 g).toArray TG) = vw5 at *
 refine H.nw (cs := mrow m) fun vw6 H=> ?_
 refine Nw.of ?_
 have HF := fo_blk vw6 x
 have H := Hn.push (H.keep HF.ext) (show Blk _ vw6.heap.size (fol x).toArray TF from HF.get 0 rfl) H.size fun hm=> Nat.lt_irrefl _ (H.all_lt hm)
 generalize vw6.alloc (.cells (Sig.cells LiA34 x).toArray TF) = vw7 at *
 refine H.nw (cs := mrow noM) fun vw8 H=> ?_
 have H : Hn w vw8 [(w.heap.size,grl g,TG),(vw5.heap.size,mrow m,TM),(vw6.heap.size,fol x,TF),(vw7.heap.size,mrow noM,TM)] := H
 have l0 := H.lt 0 rfl
 have l1 := H.lt 1 rfl
 have l2 := H.lt 2 rfl
 have l3 := H.lt 3 rfl
 have hs8 := H.size
 have fin : ∀ {e : Int},askE g m f s = e -> e ≠ 0 -> ∀ u,Ext (fun _=> False) w u -> Ext (fun _=> False) w u /\ ∃ L,stringF g m f s = (L,noM,e) /\ VRow u ⟨none,0,0⟩ 9 (L.flatMap glc) /\ ∀ j,(⟨none,0,0⟩ : Slc).own j -> w.heap.size <= j := fun {e} ha he u E=>
  ⟨E,[],by unfold stringF; rw [if_pos (by rw [ha]; exact he),ha],Row.view (Row.nil _ TL _),fun j hj=> (no_own j hj).elim⟩
 refine gL H (i := 0) rfl ((r_may g _).mono ?_)
 rintro r19 w20 ⟨rfl,e20⟩
 have H := H.keep e20
 cases hu : useG g with
 | false=>
  refine Br.ne (fun q=> ?_) fun q=> by rw [if_neg (by decide)] at q; cases q
  exact stMx H 3 rfl noM fun u H _=> H.ld 3 rfl (x := noM.1) rfl (H.ld 3 rfl (x := noM.2.1) rfl (H.ld 3 rfl (x := noM.2.2.1) rfl (H.ld 3 rfl (x := noM.2.2.2.1) rfl (H.ld 3 rfl (x := noM.2.2.2.2.1) rfl (H.ld 3 rfl (x := noM.2.2.2.2.2) rfl ((fin (by unfold askE; rw [if_pos (.inl hu)]; rfl) q u H.ext)))))))
 | true=>
 rw [if_pos rfl]
 refine Br.ne (fun q=> absurd rfl q) fun _=> H.ld 1 rfl (x := m.1) rfl (H.ld 1 rfl (x := m.2.1) rfl (H.ld 1 rfl (x := m.2.2.1) rfl (H.ld 1 rfl (x := m.2.2.2.1) rfl (H.ld 1 rfl (x := m.2.2.2.2.1) rfl (H.ld 1 rfl (x := m.2.2.2.2.2) rfl (?_))))))
 refine (Mat.r_check m _).mono ?_
 rintro r53 w54 ⟨rfl,e54⟩
 have H := H.keep e54
 cases ho : Mat.okM m with
 | false=>
  refine Br.ne (fun q=> ?_) fun q=> by rw [if_neg (by decide)] at q; cases q
  exact stMx H 3 rfl noM fun u H _=> H.ld 3 rfl (x := noM.1) rfl (H.ld 3 rfl (x := noM.2.1) rfl (H.ld 3 rfl (x := noM.2.2.1) rfl (H.ld 3 rfl (x := noM.2.2.2.1) rfl (H.ld 3 rfl (x := noM.2.2.2.2.1) rfl (H.ld 3 rfl (x := noM.2.2.2.2.2) rfl ((fin (by unfold askE; rw [if_pos (.inr ho)]; rfl) q u H.ext)))))))
 | true=>
 rw [if_pos rfl]
 have hn1 : ¬ (useG g = false \/ Mat.okM m = false) := by rw [hu,ho]; decide
 refine Br.ne (fun q=> absurd rfl q) fun _=> fL H (i := 2) rfl ((r_chk (h.keep H.ext)).mono ?_)
 rintro r77 w78 ⟨rfl,e78⟩
 have H := H.keep e78
 refine Br.ne (fun q=> stMx H 3 rfl noM fun u H _=> H.ld 3 rfl (x := noM.1) rfl (H.ld 3 rfl (x := noM.2.1) rfl (H.ld 3 rfl (x := noM.2.2.1) rfl (H.ld 3 rfl (x := noM.2.2.2.1) rfl (H.ld 3 rfl (x := noM.2.2.2.2.1) rfl (H.ld 3 rfl (x := noM.2.2.2.2.2) rfl ((fin (by unfold askE; rw [if_neg hn1,if_pos q]) q u H.ext)))))))) fun hk=> ?_
 refine fL H (i := 2) rfl ((r_codes (h.keep H.ext) hs).mono ?_)
 rintro r92 r93 w94 ⟨rfl,hcv,e94,how92⟩
 have H := H.keep e94
 refine Br.ne (fun q=> stMx H 3 rfl noM fun u H _=> H.ld 3 rfl (x := noM.1) rfl (H.ld 3 rfl (x := noM.2.1) rfl (H.ld 3 rfl (x := noM.2.2.1) rfl (H.ld 3 rfl (x := noM.2.2.2.1) rfl (H.ld 3 rfl (x := noM.2.2.2.2.1) rfl (H.ld 3 rfl (x := noM.2.2.2.2.2) rfl ((fin (by unfold askE; rw [if_neg hn1,if_neg (by simp [hk]),if_pos q]) q u H.ext)))))))) fun hc2=> ?_
 have hin := codes_in f.wide s
 have hcl : r92.len = (codesF f.wide s).1.length := VRow.count icell_len (by decide) hcv
 rw [hcl]
 refine Br.dec (fun q=> stMx H 3 rfl noM fun u H _=> H.ld 3 rfl (x := noM.1) rfl (H.ld 3 rfl (x := noM.2.1) rfl (H.ld 3 rfl (x := noM.2.2.1) rfl (H.ld 3 rfl (x := noM.2.2.2.1) rfl (H.ld 3 rfl (x := noM.2.2.2.2.1) rfl (H.ld 3 rfl (x := noM.2.2.2.2.2) rfl ((fin (by unfold askE; rw [if_neg hn1,if_neg (by simp [hk]),if_neg (by simp [hc2]),if_pos (by omega)]) (by decide) u H.ext)))))))) fun hlen=> ?_
 have hask : askE g m f s = 0 := ask_of hu ho hk hc2 (by omega)
 have hyes : ∀ {L m'},showP g f (codesF f.wide s).1 m = some (L,m') -> stringF g m f s = (L,m',0) := fun hs=> string_of hask hs
 have hnone : showP g f (codesF f.wide s).1 m = none -> stringF g m f s = ([],noM,2) := fun hs=> by
  unfold stringF
  rw [if_neg (by rw [hask]; simp),hs]
 generalize (codesF f.wide s).1 = cs at *
 have hmay := chk_may hk
 have sz8 : vw8.heap.size <= w78.heap.size := (e20.tr (e54.tr e78)).size
 have sz94 : vw8.heap.size <= w94.heap.size := Nat.le_trans sz8 e94.size
 refine ⟨fun n st u=> ∃ (i : Nat) (Lg : List GlT) (mc : Mx),st.2 = (i : Int) /\ i <= cs.length /\ Lg.length = i /\ n = cs.length - i /\ Hn w u [(w.heap.size,grl g,TG),(vw5.heap.size,mrow mc,TM),(vw6.heap.size,fol x,TF),(vw7.heap.size,mrow noM,TM)] /\ Row u st.1 TL 9 (Lg.flatMap glc) /\ (∀ j,st.1.own j -> w94.heap.size <= j) /\
  showP g f cs m = (showP g f (cs.drop i) mc).bind (fun y=> some (Lg ++ y.1,y.2)) /\ Ext (· = vw5.heap.size) w94 u,cs.length,⟨0,[],m,rfl,Nat.zero_le _,rfl,rfl,H,Row.nil _ _ _,fun j hj=> (no_own j hj).elim,?_,Ext.refl _ _⟩,?_⟩
 ·rw [List.drop_zero]
  cases showP g f cs m with
  | none=> rfl
  | some y=> rfl
 clear H
 rintro n ⟨so,i'⟩ u ⟨i,Lg,mc,hi',hi,hLl,rfl,H,hR,how,hsh,hEu⟩
 simp only at hi' hR how
 subst hi'
 have hcv := hcv.keepO hEu fun j hj ho e=> by
  have := how92 j ho
  have e : j = vw5.heap.size := e
  omega
 unfold S87L1
 dsimp only
 rw [hcl]
 refine Br.dec (fun q=> ?_) fun q=> ?_
 ·have hil : i < cs.length := by omega
  obtain ⟨a,ha,hac⟩ := VRow.elem icell_len hcv (List.getElem?_eq_getElem hil) (by decide)
  have hci := hin _ (List.getElem_mem hil)
  have hdr : cs.drop i = cs[i] :: cs.drop (i + 1) := List.drop_eq_getElem_cons hil
  rw [hdr] at hsh
  generalize cs[i] = c at *
  rw [ha]
  refine ⟨by omega,by omega,Nn.of (Sh.Ld.mk (x := c) (by rw [Int.toNat_natCast]; have := hac 0 _ rfl; simpa using this) ?_)⟩
  refine gL H (i := 0) rfl (H.ld 1 rfl (x := mc.1) rfl (H.ld 1 rfl (x := mc.2.1) rfl (H.ld 1 rfl (x := mc.2.2.1) rfl (H.ld 1 rfl (x := mc.2.2.2.1) rfl (H.ld 1 rfl (x := mc.2.2.2.2.1) rfl (H.ld 1 rfl (x := mc.2.2.2.2.2) rfl ((fL H (i := 2) rfl ?_))))))))
  refine (r_glyph (h.keep H.ext) hmay hu (code := c) (by unfold I64; omega) mc).mono ?_
  rintro r199 r200 r201 w202 ⟨hsg,e202⟩
  have H := H.keep e202
  refine (Hn.start w202).nw (cs := glc gz0) fun w203 K=> K.nw (cs := mrow noM) fun w204 K=> ?_
  refine K.stT (i := 0) (ts := LiA69) (pre := []) (post := []) (x := r199) (zs := glc gz0) rfl rfl rfl fun w205 K=> ?_
  refine stMx K 1 rfl r200 fun w211 K _=> ?_
  have K : Hn w202 w211 [(w202.heap.size,glc r199,TL),(w203.heap.size,mrow r200,TM)] := K
  have H := H.keep K.ext
  have E211 := e202.tr K.ext
  refine Br.ne (fun q201=> ?_) fun q201=> ?_
  ·have hnn : signP g f mc c = none /\ r201 = 2 := by
    cases hx : signP g f mc c with
    | none=> rw [hx] at hsg; exact ⟨rfl,hsg⟩
    | some y=> rw [hx] at hsg; exact absurd hsg.2.2 q201
   obtain ⟨hx,rfl⟩ := hnn
   have hs0 : showP g f cs m = none := by
    rw [hsh]
    unfold showP
    rw [hx]
    rfl
   exact stMx H 3 rfl noM fun u H _=> H.ld 3 rfl (x := noM.1) rfl (H.ld 3 rfl (x := noM.2.1) rfl (H.ld 3 rfl (x := noM.2.2.1) rfl (H.ld 3 rfl (x := noM.2.2.2.1) rfl (H.ld 3 rfl (x := noM.2.2.2.2.1) rfl (H.ld 3 rfl (x := noM.2.2.2.2.2) rfl (⟨H.ext,[],hnone hs0,Row.view (Row.nil _ TL _),fun j hj=> (no_own j hj).elim⟩))))))
  subst q201
  have hss : ∃ y,signP g f mc c = some y /\ r199 = y.1 /\ r200 = y.2 := by
   cases hx : signP g f mc c with
   | none=> rw [hx] at hsg; cases hsg
   | some y=> rw [hx] at hsg; exact ⟨y,rfl,hsg.1,hsg.2.1⟩
  obtain ⟨⟨y1,y2⟩,hx,rfl,rfl⟩ := hss
  have KD := K.drew
  have b0 : ∀ w',(Blk w' w202.heap.size (glc r199).toArray TL /\ Blk w' w203.heap.size (mrow r200).toArray TM) -> Blk w' w203.heap.size (mrow r200).toArray TM := fun w' hh=> hh.2
  refine ⟨fun w'=> Blk w' w202.heap.size (glc r199).toArray TL /\ Blk w' w203.heap.size (mrow r200).toArray TM,⟨KD.get 0 rfl,KD.get 1 rfl⟩,LdST.blk (ts := LiA69) (pre := []) (post := []) (t := TL) (x := r199) (fun w' hw=> hw.1) rfl ?_⟩
  refine LdS.of b0 (x := r200.1) rfl (LdS.of b0 (x := r200.2.1) rfl (LdS.of b0 (x := r200.2.2.1) rfl (LdS.of b0 (x := r200.2.2.2.1) rfl (LdS.of b0 (x := r200.2.2.2.2.1) rfl (LdS.of b0 (x := r200.2.2.2.2.2) rfl ?_)))))
  refine Nw.of ?_
  have eA := (Ext.refl (fun _=> False) w211.drew).alloc (.cells (glc r199).toArray TL)
  have KA := KD.keep eA
  refine ⟨⟨KA.get 0 rfl,KA.get 1 rfl⟩,?_⟩
  have EA : Ext (fun _=> False) u (w211.drew.alloc (.cells (glc r199).toArray TL)) := (E211.tr (Ext.refl _ _).drew).tr eA
  have hRA := hR.keep EA fun _ _ e=> e
  have hsl : so.len = Lg.length := VRow.count glc_len (by decide) (Row.view hR)
  obtain ⟨s',w',hrun,hrow,hlen',hext,hown⟩ := elGl.app1 (ty := 49) (ys := glc r199) hRA (Blk.new w211.drew (glc r199).toArray TL) rfl (glc_one r199) (by omega) (by omega)
  refine ⟨s',w',hrun,?_⟩
  have su : u.heap.size <= w202.heap.size := e202.size
  have own1 : ∀ j,so.own j -> j < u.heap.size := fun j hj=> hR.own_lt hj
  have s203 : w202.heap.size <= w203.heap.size := by
   have hh := K.ge 1 rfl
   exact hh
  refine ⟨⟨hext.blk (KA.get 0 rfl) fun hj=> by have := own1 _ hj; omega,hext.blk (KA.get 1 rfl) fun hj=> by have := own1 _ hj; omega⟩,?_⟩
  have HA := H.drew.keep eA
  have HB := HA.other hext fun j hj=> by
   have := how j hj
   refine ⟨by omega,?_⟩
   simp only [List.map_cons,List.map_nil,List.mem_cons,List.not_mem_nil,or_false]
   omega
  have E0 : Ext (fun _=> False) w94 (w211.drew.alloc (.cells (glc r199).toArray TL)) -> True := fun _=> trivial
  have sA : w94.heap.size <= (w211.drew.alloc (.cells (glc r199).toArray TL)).heap.size := Nat.le_trans hEu.size EA.size
  have EB : Ext (· = vw5.heap.size) w94 w' := (hEu.trans EA (fun _ h=> h) fun _ _ h=> h.elim).trans hext (fun _ h=> h) fun j hj ho=> by
   have := how j ho
   omega
  have own2 : ∀ j,s'.own j -> w94.heap.size <= j := fun j hj=> by
   rcases hown j hj with e | e
   ·exact how j e
   ·omega
  refine stMx HB 1 rfl r200 fun w240 HC eC=> ?_
  refine ⟨cs.length - (i + 1),by omega,i + 1,Lg ++ [r199],r200,by rw [i64_id (by omega)]; rfl,by omega,by rw [List.length_append,hLl]; rfl,rfl,HC,?_,own2,?_,EB.trans eC (fun _ h=> h) fun _ _ h=> h⟩
  ·have hrow' : Row w' s' TL 9 ((Lg ++ [r199]).flatMap glc) := by
    rw [List.flatMap_append]
    simpa using hrow
   refine hrow'.keep eC fun j hj e=> ?_
   have := own2 j hj
   have e : j = vw5.heap.size := e
   omega
  ·rw [hsh]
   have : showP g f (c :: cs.drop (i + 1)) mc = (showP g f (cs.drop (i + 1)) r200).bind fun y=> some (r199 :: y.1,y.2) := by
    show ((signP g f mc c).bind fun x=> (showP g f (cs.drop (i + 1)) x.2).bind fun y=> some (x.1 :: y.1,y.2)) = _
    rw [hx]
    rfl
   rw [this]
   cases showP g f (cs.drop (i + 1)) r200 with
   | none=> rfl
   | some y=> simp
 ·have : i = cs.length := by omega
  subst this
  rw [List.drop_length] at hsh
  have hsh : showP g f cs m = some (Lg,mc) := by
   rw [hsh]
   unfold showP
   simp
  have H := H.drew
  refine H.ld 1 rfl (x := mc.1) rfl (H.ld 1 rfl (x := mc.2.1) rfl (H.ld 1 rfl (x := mc.2.2.1) rfl (H.ld 1 rfl (x := mc.2.2.2.1) rfl (H.ld 1 rfl (x := mc.2.2.2.2.1) rfl (H.ld 1 rfl (x := mc.2.2.2.2.2) rfl ((stMx H 3 rfl mc fun w252 H e252=> H.ld 3 rfl (x := mc.1) rfl (H.ld 3 rfl (x := mc.2.1) rfl (H.ld 3 rfl (x := mc.2.2.1) rfl (H.ld 3 rfl (x := mc.2.2.2.1) rfl (H.ld 3 rfl (x := mc.2.2.2.2.1) rfl (H.ld 3 rfl (x := mc.2.2.2.2.2) rfl (⟨H.ext,Lg,hyes hsh,?_,fun j hj=> ?_⟩)))))))))))))
  ·refine Row.view ((hR.keep (Ext.refl (fun _=> False) u).drew fun _ _ e=> e).keep e252 fun j hj e=> ?_)
   have := how j hj
   have e : j = vw7.heap.size := e
   omega
  ·have := how j hj
   omega
end
end Ma
end Go.Proofs.YtcblpehnkogfdaaGreatDoor

/- The reference's text machine: moves, lines, numbers, names. Conditions: sizes. -/
namespace Go.Proofs.YtcblpehnkogfdaaGreatDoor
namespace Ma
open Sh Mat Fix Fo Sw Opr Pat
set_option maxRecDepth 8000
set_option maxHeartbeats 4000000
attribute [local irreducible] Ld Sh.St Nw Nn Lt LdS
abbrev MT := TyA38
abbrev TR : TypeId := 39
def mz : Mc := ⟨false,noM,noM⟩
section
variable {w0 u : World} {Ls : List (Nat × List Value × TypeId)} {b b' : Nat} {m m' : Mc}
theorem mcL (H : Hn w0 u Ls) {i : Nat} (hi : Ls[i]? = some (b,mcc m,TR)) {K : MT -> Prop} (k : K (mct m)) : LdT u (⟨b,0,none⟩ : Addr) 0 LiA38 K :=
 H.ldT (i := i) (ts := LiA38) (pre := []) (post := []) (x := mct m) hi rfl k
theorem mcSt (H : Hn w0 u Ls) {j : Nat} (hj : Ls[j]? = some (b,mcc m',TR)) (m : Mc) {K : World -> Prop} (k : ∀ u',Hn w0 u' (Ls.set j (b,mcc m,TR)) -> Ext (· = b) u u' -> K u') : StT (⟨b,0,none⟩ : Addr) 0 LiA38 (mct m) u K :=
 StT.blk (ts := LiA38) (x := mct m) (pre := []) (zs := mcc m') (post := []) (t := TR) (H.get j hj) rfl rfl fun u' hb e=> k u' (H.turn j hj hb e) e
theorem mexit (H : Hn w0 u Ls) {i j : Nat} (hi : Ls[i]? = some (b,mcc m,TR)) (hj : Ls[j]? = some (b',mcc m',TR)) {K : MT -> World -> Prop} (k : ∀ u',Hn w0 u' (Ls.set j (b',mcc m,TR)) -> Ext (· = b') u u' -> K (mct m) u') :
  LdT u (⟨b,0,none⟩ : Addr) 0 LiA38 fun (x : MT)=> StT (⟨b',0,none⟩ : Addr) 0 LiA38 x u fun u'=> LdT u' (⟨b',0,none⟩ : Addr) 0 LiA38 fun (y : MT)=> K y u' :=
 mcL H hi (mcSt H hj m fun u' H' e=> mcL H' (by rw [List.getElem?_set_self (List.getElem?_eq_some_iff.1 hj).1]) (k u' H' e))
theorem mk_mc (H : Hn w0 u Ls) (m : Mc) {K : World -> Prop} (k : ∀ u',Hn w0 u' (Ls ++ [(u.heap.size,mcc m,TR)]) -> Ext (fun _=> False) u u' -> K u') :
  Nw u (.cells #[.bool false,.int .i64 0,.int .i64 0,.int .i64 0,.int .i64 0,.int .i64 0,.int .i64 0,.int .i64 0,.int .i64 0,.int .i64 0,.int .i64 0,.int .i64 0,.int .i64 0] TR) fun u1=> StT (⟨u.heap.size,0,none⟩ : Addr) 0 LiA38 (mct m) u1 K := by
 refine (Hn.start u).nw (cs := mcc mz) fun u1 K1=> ?_
 exact mcSt K1 (j := 0) (m' := mz) rfl m fun u2 K2 _=> k u2 ((H.keep K2.ext).push (K2.get 0 rfl) H.size fun hm=> Nat.lt_irrefl _ (H.all_lt hm)) K2.ext
theorem mcText (H : Hn w0 u Ls) {i : Nat} (hi : Ls[i]? = some (b,mcc m,TR)) (r : Mx) {K : World -> Prop} (k : ∀ u',Hn w0 u' (Ls.set i (b,mcc ⟨m.on,r,m.line⟩,TR)) -> Ext (· = b) u u' -> K u') :
  Sh.St u ((⟨b,0,none⟩ : Addr).add 1) (.int .i64 r.1) fun w1=> Sh.St w1 (((⟨b,0,none⟩ : Addr).add 1).add 1) (.int .i64 r.2.1) fun w2=> Sh.St w2 (((⟨b,0,none⟩ : Addr).add 1).add 2) (.int .i64 r.2.2.1) fun w3=>
   Sh.St w3 (((⟨b,0,none⟩ : Addr).add 1).add 3) (.int .i64 r.2.2.2.1) fun w4=> Sh.St w4 (((⟨b,0,none⟩ : Addr).add 1).add 4) (.int .i64 r.2.2.2.2.1) fun w5=> Sh.St w5 (((⟨b,0,none⟩ : Addr).add 1).add 5) (.int .i64 r.2.2.2.2.2) fun w6=> K w6 :=
 st_mat (o := 1) r (pre := (mcc m).take 1) (zs := mrow m.text) (post := (mcc m).drop 7) (H.get i hi) rfl rfl fun w2 hb e=> k w2 (H.turn i hi hb e) e
theorem mcLine (H : Hn w0 u Ls) {i : Nat} (hi : Ls[i]? = some (b,mcc m,TR)) (r : Mx) {K : World -> Prop} (k : ∀ u',Hn w0 u' (Ls.set i (b,mcc ⟨m.on,m.text,r⟩,TR)) -> Ext (· = b) u u' -> K u') :
  Sh.St u ((⟨b,0,none⟩ : Addr).add 7) (.int .i64 r.1) fun w1=> Sh.St w1 (((⟨b,0,none⟩ : Addr).add 7).add 1) (.int .i64 r.2.1) fun w2=> Sh.St w2 (((⟨b,0,none⟩ : Addr).add 7).add 2) (.int .i64 r.2.2.1) fun w3=>
   Sh.St w3 (((⟨b,0,none⟩ : Addr).add 7).add 3) (.int .i64 r.2.2.2.1) fun w4=> Sh.St w4 (((⟨b,0,none⟩ : Addr).add 7).add 4) (.int .i64 r.2.2.2.2.1) fun w5=> Sh.St w5 (((⟨b,0,none⟩ : Addr).add 7).add 5) (.int .i64 r.2.2.2.2.2) fun w6=> K w6 :=
 st_mat (o := 7) r (pre := (mcc m).take 7) (zs := mrow m.line) (post := []) (H.get i hi) rfl rfl fun w2 hb e=> k w2 (H.turn i hi hb e) e
end
theorem r_new (w : World) : C8 w fun r w1=> r = mct m0 /\ Ext (fun _=> False) w w1 := by
 refine T8 _ _ ?_
 unfold S8
 refine (Hn.start w).nw (cs := mcc mz) fun w1 H=> ?_
 refine (Mat.r_one _).mono ?_
 rintro r2 w3 ⟨rfl,e3⟩
 refine (Mat.r_one _).mono ?_
 rintro r4 w5 ⟨rfl,e5⟩
 have H := (H.keep e3).keep e5
 exact mcSt H (j := 0) (m' := mz) rfl m0 fun w6 H _=> mcL H (i := 0) rfl ⟨rfl,H.ext⟩
def fixA (A : Int × Mc × List GlT) (m : Mc) : Int × Mc × List GlT := if A.1 ≠ 0 then (A.1,m,[]) else A
structure RA (A : Int × Mc × List GlT) (w : World) (r : MT) (sl : Slc) (e : Int) (w1 : World) : Prop where
 err : e = A.1
 mc : r = mct A.2.1
 gls : VRow w1 sl 9 (A.2.2.flatMap glc)
 own : ∀ j,sl.own j -> w.heap.size <= j
 ext : Ext (fun _=> False) w w1
theorem RA.bad {A : Int × Mc × List GlT} {m : Mc} {w w1 : World} {e : Int} (he : e ≠ 0) (hA : A.1 = e) (E : Ext (fun _=> False) w w1) : RA (fixA A m) w (mct m) ⟨none,0,0⟩ e w1 := by
 have : fixA A m = (e,m,[]) := by unfold fixA; rw [if_pos (by rw [hA]; exact he),hA]
 rw [this]
 exact ⟨rfl,rfl,Row.view (Row.nil _ TL _),fun j hj=> (no_own j hj).elim,E⟩
theorem fixA_ok {A : Int × Mc × List GlT} {m : Mc} (h : A.1 = 0) : fixA A m = A := if_neg (by simp [h])
section
variable {w : World} {g : GT} {x : FT} {f : Font} {m : Mc}
theorem r_moved (m : Mc) (a b : Int) (w : World) : C48 (mct m) a b w fun r e w1=> (match moveF m.line a b with
  | some l=> r = mct ⟨m.on,l,l⟩ /\ e = 0
  | none=> r = mct m /\ e = 2) /\ Ext (fun _=> False) w w1 := by
 refine T48 _ _ _ _ _ ?_
 unfold S48
 refine (Hn.start w).nw (cs := mcc m) fun vw4 H=> ?_
 refine H.nw (cs := mcc mz) fun vw5 H=> ?_
 have H : Hn w vw5 [(w.heap.size,mcc m,TR),(vw4.heap.size,mcc mz,TR)] := H
 refine ⟨fun st w'=> ∃ k r e,st = (⟨k,0,none⟩,e) /\ Hn w w' [(w.heap.size,mcc m,TR),(vw4.heap.size,mcc mz,TR),(k,mrow r,TM)] /\ (r,e) = resM (mulP (moveM a b) m.line),?_,?_⟩
 ·rintro _ w48 ⟨k,r,e,rfl,H,hr⟩
  unfold S48J1
  dsimp only
  refine Br.ne (fun q=> ?_) fun q=> ?_
  ·obtain ⟨hn,rfl⟩ := resM_no hr q
   have hn : moveF m.line a b = none := hn
   rw [hn]
   exact mexit H (i := 0) (j := 1) rfl rfl fun u' H' _=> ⟨⟨rfl,rfl⟩,H'.ext⟩
  subst q
  have hs : moveF m.line a b = some r := resM_yes hr
  rw [hs]
  have hS : ∀ w',Blk w' k (mrow r).toArray TM -> Blk w' k (mrow r).toArray TM := fun _ h=> h
  have H := H.drew
  refine ⟨fun w'=> Blk w' k (mrow r).toArray TM,H.get 2 rfl,LdS.of hS (x := r.1) rfl (LdS.of hS (x := r.2.1) rfl (LdS.of hS (x := r.2.2.1) rfl (LdS.of hS (x := r.2.2.2.1) rfl (LdS.of hS (x := r.2.2.2.2.1) rfl (LdS.of hS (x := r.2.2.2.2.2) rfl (LdS.of hS (x := r.1) rfl (LdS.of hS (x := r.2.1) rfl (LdS.of hS (x := r.2.2.1) rfl (LdS.of hS (x := r.2.2.2.1) rfl (LdS.of hS (x := r.2.2.2.2.1) rfl (LdS.of hS (x := r.2.2.2.2.2) rfl ?_)))))))))))⟩
  refine mcLine H (i := 0) rfl r fun w72 H _=> ⟨H.get 2 rfl,?_⟩
  refine mcText H (i := 0) rfl r fun w78 H _=> ?_
  exact mexit H (i := 0) (j := 1) rfl rfl fun u' H' _=> ⟨⟨rfl,rfl⟩,H'.ext⟩
 ·have hS : ∀ w',Hn w w' [(w.heap.size,mcc m,TR),(vw4.heap.size,mcc mz,TR)] -> Blk w' w.heap.size (mcc m).toArray TR := fun w' h=> h.get 0 rfl
  refine reg H (LdS.of hS (x := m.line.1) rfl (LdS.of hS (x := m.line.2.1) rfl (LdS.of hS (x := m.line.2.2.1) rfl (LdS.of hS (x := m.line.2.2.2.1) rfl (LdS.of hS (x := m.line.2.2.2.2.1) rfl (LdS.of hS (x := m.line.2.2.2.2.2) rfl ?_))))))
  have H := H.drew
  refine ⟨(Mat.r_move a b _).mono ?_,H.nw (cs := mrow noM) fun w465 H=> ⟨Hn.left (M := [_]) H,(Mat.r_move a b _).mono ?_⟩⟩
  ·rintro r443 w444 ⟨rfl,e444⟩
   have H := H.keep e444
   refine ⟨H,(Mat.r_mul (moveM a b) m.line _).mono ?_,H.nw (cs := mrow noM) fun w455 H=> ⟨Hn.left (M := [_]) H,(Mat.r_mul (moveM a b) m.line _).mono ?_⟩⟩
   ·rintro r445 r446 w447 ⟨hr,e447⟩
    have H := H.keep e447
    refine mk_mx w447 r445 fun w454 e454 hb=> ?_
    exact ⟨_,r445,r446,rfl,(H.keep e454).push hb H.size fun hm=> Nat.lt_irrefl _ (H.all_lt hm),hr⟩
   ·rintro r456 r457 w458 ⟨hr,e458⟩
    have H := H.keep e458
    exact stMx H 2 rfl r456 fun w464 H _=> ⟨_,r456,r457,rfl,H,hr⟩
  ·rintro r466 w467 ⟨rfl,e467⟩
   have H := H.keep e467
   refine ⟨Hn.left (M := [_]) H,(Mat.r_mul (moveM a b) m.line _).mono ?_⟩
   rintro r468 r469 w470 ⟨hr,e470⟩
   have H := H.keep e470
   exact stMx H 2 rfl r468 fun w476 H _=> ⟨_,r468,r469,rfl,H,hr⟩
theorem r_shown (h : FoV w x f) (m : Mc) {s : ByteArray} (hs : s.size <= 1048576) : C50 (mct m) g x s w fun r sl e w1=> RA (fixA (shownF g f m s) m) w r sl e w1 := by
 refine T50 _ _ _ _ _ _ ?_
 unfold S50
 refine (Hn.start w).nw (cs := mcc m) fun vw5 H=> H.nw (cs := grl g) fun vw6 H=> H.nw (cs := fol x) fun vw7 H=> ?_
 refine H.nw (cs := mcc mz) fun vw8 H=> ?_
 have H : Hn w vw8 [(w.heap.size,mcc m,TR),(vw5.heap.size,grl g,TG),(vw6.heap.size,fol x,TF),(vw7.heap.size,mcc mz,TR)] := H
 have l0 := H.lt 0 rfl
 have l3 := H.lt 3 rfl
 have hs8 := H.size
 refine gL H (i := 1) rfl (H.ld 0 rfl (x := m.text.1) rfl (H.ld 0 rfl (x := m.text.2.1) rfl (H.ld 0 rfl (x := m.text.2.2.1) rfl (H.ld 0 rfl (x := m.text.2.2.2.1) rfl (H.ld 0 rfl (x := m.text.2.2.2.2.1) rfl (H.ld 0 rfl (x := m.text.2.2.2.2.2) rfl (fL H (i := 2) rfl ?_)))))))
 refine (r_string (g := g) (h.keep H.ext) m.text hs).mono ?_
 rintro r17 r18 r19 w20 ⟨e20,L,hF,hv,how⟩
 have H := H.keep e20
 refine mk_mx w20 r18 fun w27 e27 hb=> ?_
 have H : Hn w w27 [(w.heap.size,mcc m,TR),(vw5.heap.size,grl g,TG),(vw6.heap.size,fol x,TF),(vw7.heap.size,mcc mz,TR),(w20.heap.size,mrow r18,TM)] := (H.keep e27).push hb H.size fun hm=> Nat.lt_irrefl _ (H.all_lt hm)
 clear hb
 have hv := hv.keep e27
 refine Br.ne (fun q=> ?_) fun q=> ?_
 ·have hA : (shownF g f m s).1 = r19 := by
   unfold shownF showF
   rw [hF,if_pos q]
  exact mexit H (i := 0) (j := 3) rfl rfl fun u' H' _=> RA.bad q hA H'.ext
 subst q
 have hmost := string_most hF
 have hA : shownF g f m s = (0,⟨m.on,r18,m.line⟩,L) := by
  unfold shownF showF
  rw [hF,if_neg (by simp),if_neg (by simp; omega)]
  rfl
 rw [hA,fixA_ok rfl]
 refine H.ld 4 rfl (x := r18.1) rfl (H.ld 4 rfl (x := r18.2.1) rfl (H.ld 4 rfl (x := r18.2.2.1) rfl (H.ld 4 rfl (x := r18.2.2.2.1) rfl (H.ld 4 rfl (x := r18.2.2.2.2.1) rfl (H.ld 4 rfl (x := r18.2.2.2.2.2) rfl ((mcText H (i := 0) rfl r18 fun w44 H e44=> ?_)))))))
 have hv := hv.keepF e44 fun j hj e=> by
  have := how j hj
  have e : j = w.heap.size := e
  omega
 refine mexit H (i := 0) (j := 3) rfl rfl fun u' H' e'=> ⟨rfl,rfl,hv.keepF e' fun j hj e=> ?_,fun j hj=> ?_,H'.ext⟩
 ·have := how j hj
  have e : j = vw7.heap.size := e
  omega
 ·have := how j hj
  omega
theorem r_lined (h : FoV w x f) (m : Mc) {s : ByteArray} (hs : s.size <= 1048576) : C51 (mct m) g x s w fun r sl e w1=> RA (fixA (linedF g f m s) m) w r sl e w1 := by
 refine T51 _ _ _ _ _ _ ?_
 unfold S51
 refine (Hn.start w).nw (cs := mcc m) fun vw5 H=> H.nw (cs := grl g) fun vw6 H=> H.nw (cs := fol x) fun vw7 H=> ?_
 refine H.nw (cs := mcc mz) fun vw8 H=> ?_
 have H : Hn w vw8 [(w.heap.size,mcc m,TR),(vw5.heap.size,grl g,TG),(vw6.heap.size,fol x,TF),(vw7.heap.size,mcc mz,TR)] := H
 have l3 := H.lt 3 rfl
 have hs8 := H.size
 refine gL H (i := 1) rfl ((r_may g _).mono ?_)
 rintro r15 w16 ⟨rfl,e16⟩
 have H := H.keep e16
 cases hu : useG g with
 | false=>
  have hA : (linedF g f m s).1 = 2 := by
   unfold linedF nextF
   rw [if_neg (by rw [hu]; decide)]
  rw [if_neg (by decide)]
  exact Br.ne (fun q=> mexit H (i := 0) (j := 3) rfl rfl fun u' H' _=> RA.bad (by decide) hA H'.ext) fun q=> by cases q
 | true=>
 rw [if_pos rfl]
 have hl := inW_spec.1 (useG_lead hu)
 refine Br.ne (fun q=> absurd rfl q) fun _=> mcL H (i := 0) rfl (H.ld 1 rfl (x := tlead g) rfl ?_)
 rw [i64_id (n := 0 - tlead g) (by omega),Int.zero_sub]
 refine (r_moved m 0 (-(tlead g)) _).mono ?_
 rintro r22 r23 w24 ⟨hr,e24⟩
 have H := H.keep e24
 have hnx : nextF g m.line = moveF m.line 0 (-(tlead g)) := by unfold nextF; rw [if_pos hu]
 cases hmv : moveF m.line 0 (-(tlead g)) with
 | none=>
  rw [hmv] at hr hnx
  obtain ⟨rfl,rfl⟩ := hr
  have hA : (linedF g f m s).1 = 2 := by
   unfold linedF
   rw [hnx]
  refine mk_mc H m fun w26 H _=> ?_
  exact Br.ne (fun q=> mexit H (i := 0) (j := 3) rfl rfl fun u' H' _=> RA.bad (by decide) hA H'.ext) fun q=> by cases q
 | some l=>
  rw [hmv] at hr hnx
  obtain ⟨rfl,rfl⟩ := hr
  have hA : linedF g f m s = shownF g f ⟨m.on,l,l⟩ s := by
   unfold linedF
   rw [hnx]
  rw [hA]
  refine mk_mc H ⟨m.on,l,l⟩ fun w26 H e26=> Br.ne (fun q=> absurd rfl q) fun _=> ?_
  have s26 : w.heap.size <= w26.heap.size := H.size
  have z26 : vw8.heap.size <= w26.heap.size := (e16.tr (e24.tr e26)).size
  refine mcL H (i := 4) rfl (gL H (i := 1) rfl (fL H (i := 2) rfl ?_))
  refine (r_shown (g := g) (h.keep H.ext) ⟨m.on,l,l⟩ hs).mono ?_
  rintro r35 r36 r37 w38 hRA
  have H := H.keep hRA.ext
  have he := hRA.err
  by_cases q : r37 = 0
  ·have hA0 : (shownF g f ⟨m.on,l,l⟩ s).1 = 0 := by
    rw [q] at he
    unfold fixA at he
    split at he
    ·rename_i hne
     exact absurd he.symm hne
    ·exact he.symm
   have hfx : fixA (shownF g f ⟨m.on,l,l⟩ s) ⟨m.on,l,l⟩ = shownF g f ⟨m.on,l,l⟩ s := fixA_ok hA0
   rw [hfx] at hRA
   rw [fixA_ok hA0]
   have hmc := hRA.mc
   subst hmc
   refine mk_mc H (shownF g f ⟨m.on,l,l⟩ s).2.1 fun w40 H e40=> Br.ne (fun q'=> absurd q q') fun _=> ?_
   have hv := hRA.gls.keep e40
   have how := hRA.own
   refine mexit H (i := 5) (j := 3) rfl rfl fun u' H' e'=> ⟨hA0.symm,rfl,hv.keepF e' fun j hj e=> ?_,fun j hj=> ?_,H'.ext⟩
   ·have := how j hj
    have e : j = vw7.heap.size := e
    omega
   ·have := how j hj
    omega
  ·have hA1 : (shownF g f ⟨m.on,l,l⟩ s).1 = r37 := by
    unfold fixA at he
    split at he
    ·exact he.symm
    ·exact he.symm
   have hfx : (fixA (shownF g f ⟨m.on,l,l⟩ s) ⟨m.on,l,l⟩) = (r37,⟨m.on,l,l⟩,[]) := by
    unfold fixA
    rw [if_pos (by rw [hA1]; exact q),hA1]
   have hmc := hRA.mc
   rw [hfx] at hmc
   have hmc : r35 = mct ⟨m.on,l,l⟩ := hmc
   subst hmc
   refine mk_mc H ⟨m.on,l,l⟩ fun w40 H e40=> Br.ne (fun _=> ?_) fun q'=> absurd q' q
   exact mexit H (i := 0) (j := 3) rfl rfl fun u' H' _=> RA.bad q hA1 H'.ext
theorem r_back (g : GT) (m : Mx) {n : Int} (hn : -4611686018427387904 <= n /\ n <= 4611686018427387904) (w : World) : C88 g m n w fun r e w1=> (match backF g m n with
  | some m'=> r = m' /\ e = 0
  | none=> e = 2) /\ Ext (fun _=> False) w w1 := by
 refine T88 g m n _ _ ?_
 unfold S88 backF
 refine Nw.of ?_
 have HG := gr_blk w g
 have H := Hn.push ((Hn.start w).keep HG.ext) (show Blk _ w.heap.size (grl g).toArray TG from HG.get 0 rfl) (Nat.le_refl _) (by simp)
 generalize w.alloc (.cells (Sig.cells LiA30 g).toArray TG) = vw4 at *
 refine H.nw (cs := mrow m) fun vw5 H=> H.nw (cs := mrow noM) fun vw6 H=> ?_
 have H : Hn w vw6 [(w.heap.size,grl g,TG),(vw4.heap.size,mrow m,TM),(vw5.heap.size,mrow noM,TM)] := H
 refine gL H (i := 0) rfl ((r_may g _).mono ?_)
 rintro r23 w24 ⟨rfl,e24⟩
 have H := H.keep e24
 cases hu : useG g with
 | false=>
  rw [if_neg (by decide),if_neg (by decide)]
  exact Br.ne (fun q=> H.ld 1 rfl (x := m.1) rfl (H.ld 1 rfl (x := m.2.1) rfl (H.ld 1 rfl (x := m.2.2.1) rfl (H.ld 1 rfl (x := m.2.2.2.1) rfl (H.ld 1 rfl (x := m.2.2.2.2.1) rfl (H.ld 1 rfl (x := m.2.2.2.2.2) rfl ((stMx H 2 rfl m fun u H _=> H.ld 2 rfl (x := m.1) rfl (H.ld 2 rfl (x := m.2.1) rfl (H.ld 2 rfl (x := m.2.2.1) rfl (H.ld 2 rfl (x := m.2.2.2.1) rfl (H.ld 2 rfl (x := m.2.2.2.2.1) rfl (H.ld 2 rfl (x := m.2.2.2.2.2) rfl (⟨rfl,H.ext⟩)))))))))))))) fun q=> by cases q
 | true=>
 rw [if_pos rfl,if_pos rfl]
 obtain ⟨g1,g2,g3,g4,g5,g6⟩ := useG_in hu
 refine Br.ne (fun q=> absurd rfl q) fun _=> (r_Near3 hn _).mono ?_
 rintro r43 r44 w45 ⟨rfl,rfl,e45⟩
 have H := H.keep e45
 refine Br.ne (fun q=> absurd rfl q) fun _=> H.ld 0 rfl (x := tsize g) rfl ((r_mul2 _ _ _).mono ?_)
 rintro r77 r78 w79 ⟨hr,e79⟩
 have H := H.keep e79
 refine Br.ne (fun q=> ?_) fun q=> ?_
 ·obtain ⟨hn,rfl⟩ := resI_no hr q
  rw [hn,Option.bind_none]
  exact H.ld 1 rfl (x := m.1) rfl (H.ld 1 rfl (x := m.2.1) rfl (H.ld 1 rfl (x := m.2.2.1) rfl (H.ld 1 rfl (x := m.2.2.2.1) rfl (H.ld 1 rfl (x := m.2.2.2.2.1) rfl (H.ld 1 rfl (x := m.2.2.2.2.2) rfl ((stMx H 2 rfl m fun u H _=> H.ld 2 rfl (x := m.1) rfl (H.ld 2 rfl (x := m.2.1) rfl (H.ld 2 rfl (x := m.2.2.1) rfl (H.ld 2 rfl (x := m.2.2.2.1) rfl (H.ld 2 rfl (x := m.2.2.2.2.1) rfl (H.ld 2 rfl (x := m.2.2.2.2.2) rfl (⟨rfl,H.ext⟩)))))))))))))
 subst q
 have hm2 := resI_yes hr
 rw [hm2,Option.bind_some]
 refine H.ld 0 rfl (x := tscale g) rfl ((r_scaled (g := g) (mulO_in hm2) g4 _).mono ?_)
 rintro r111 r112 w113 ⟨hr,e113⟩
 have H := H.keep e113
 refine Br.ne (fun q=> ?_) fun q=> ?_
 ·obtain ⟨hn,rfl⟩ := resI_no hr q
  rw [hn,Option.bind_none]
  exact H.ld 1 rfl (x := m.1) rfl (H.ld 1 rfl (x := m.2.1) rfl (H.ld 1 rfl (x := m.2.2.1) rfl (H.ld 1 rfl (x := m.2.2.2.1) rfl (H.ld 1 rfl (x := m.2.2.2.2.1) rfl (H.ld 1 rfl (x := m.2.2.2.2.2) rfl ((stMx H 2 rfl m fun u H _=> H.ld 2 rfl (x := m.1) rfl (H.ld 2 rfl (x := m.2.1) rfl (H.ld 2 rfl (x := m.2.2.1) rfl (H.ld 2 rfl (x := m.2.2.2.1) rfl (H.ld 2 rfl (x := m.2.2.2.2.1) rfl (H.ld 2 rfl (x := m.2.2.2.2.2) rfl (⟨rfl,H.ext⟩)))))))))))))
 subst q
 have hsc := resI_yes hr
 have hin := inW_spec.1 (scaledP_in hsc)
 rw [hsc,Option.bind_some]
 refine reg H (LdS.of (fun w' hw=> hw.get 1 rfl) (x := m.1) rfl (LdS.of (fun w' hw=> hw.get 1 rfl) (x := m.2.1) rfl (LdS.of (fun w' hw=> hw.get 1 rfl) (x := m.2.2.1) rfl (LdS.of (fun w' hw=> hw.get 1 rfl) (x := m.2.2.2.1) rfl (LdS.of (fun w' hw=> hw.get 1 rfl) (x := m.2.2.2.2.1) rfl (LdS.of (fun w' hw=> hw.get 1 rfl) (x := m.2.2.2.2.2) rfl (?_)))))))
 rw [i64_id (n := 0 - r111) (by omega),Int.zero_sub]
 refine (Mat.r_move _ 0 _).mono ?_
 rintro r151 w152 ⟨rfl,e152⟩
 have H := H.drew.keep e152
 refine ⟨H,(Mat.r_mul (moveM (-r111) 0) m _).mono ?_⟩
 rintro r153 r154 w155 ⟨hr,e155⟩
 have H := H.keep e155
 refine stMx H 2 rfl r153 fun u H _=> H.ld 2 rfl (x := r153.1) rfl (H.ld 2 rfl (x := r153.2.1) rfl (H.ld 2 rfl (x := r153.2.2.1) rfl (H.ld 2 rfl (x := r153.2.2.2.1) rfl (H.ld 2 rfl (x := r153.2.2.2.2.1) rfl (H.ld 2 rfl (x := r153.2.2.2.2.2) rfl (?_))))))
 cases hmp : mulP (moveM (-r111) 0) m with
 | none=>
  rw [hmp] at hr
  cases hr
  exact ⟨rfl,H.ext⟩
 | some m'=>
  rw [hmp] at hr
  cases hr
  exact ⟨⟨rfl,rfl⟩,H.ext⟩
theorem fil_at {L : List Ob} {i : Nat} (hi : i < L.length) : (L.drop i).filter isNum = (if isNum L[i] = true then [L[i]] else []) ++ (L.drop (i + 1)).filter isNum := by
 rw [List.drop_eq_getElem_cons hi,List.filter_cons]
 split <;> simp
theorem r_nums {s : Slc} {L : List Ob} {a d : ByteArray} (h : OV w s L) (hl : L.length <= 100000) : C47 (a,s,d) w fun r e w1=> Ext (fun _=> False) w w1 /\ match nmO (L.filter isNum) with
  | none=> e = 2
  | some l=> e = 0 /\ IO w w1 r l := by
 refine T47 (a,s,d) _ _ ?_
 unfold S47
 refine (Hn.start w).nw fun w2 H=> ?_
 simp only [List.nil_append] at H
 have hlen := h.1
 refine H.ld 0 rfl (x := s) rfl ?_
 refine ⟨fun n st w3=> ∃ (i : Nat) (l : List Int),st.2 = (i : Int) /\ i <= L.length /\ n = L.length - i /\ l.length <= i /\ IO w w3 st.1 l /\ Ext (fun _=> False) w w3 /\ nmO (L.filter isNum) = (nmO ((L.drop i).filter isNum)).bind (fun r=> some (l ++ r)),L.length,⟨0,[],rfl,by omega,rfl,Nat.le_refl _,IO.nil _ _,H.ext,?_⟩,?_⟩
 ·rw [List.drop_zero]
  cases nmO (L.filter isNum) <;> rfl
 clear H
 rintro n ⟨r,st⟩ w3 ⟨i,l,hst,hi,rfl,hll,ho,e3,hn⟩
 simp only at hst ho
 subst hst
 unfold S47L1
 dsimp only
 rw [hlen]
 refine Br.dec (fun q=> ⟨by omega,by omega,?_⟩) fun q=> ?_
 ·have hlt : i < L.length := by omega
  have hLi : L[i]? = some L[i] := List.getElem?_eq_getElem hlt
  obtain ⟨ad,ha,c0,c1,c2,c3,c4,c5⟩ := (h.keep e3).get hLi
  have hfil := fil_at hlt
  rw [hfil] at hn
  generalize L[i] = o at *
  rw [ha,Int.toNat_natCast]
  refine Nn.of (Ld.mk c0 (Ld.mk c1 (Ld.mk c2 (Ld.mk c3 (Ld.mk c4 (Ld.mk c5 ?_))))))
  refine (Hn.start w3).nw fun w4 H=> ?_
  simp only [List.nil_append,List.cons_append,List.set_cons_zero,List.set_cons_succ,Nat.zero_add] at H
  iterate 6 (refine H.st 0 rfl (by simp) fun _ H=> ?_; simp only [List.nil_append,List.cons_append,List.set_cons_zero,List.set_cons_succ,Nat.zero_add] at H)
  rename_i w20
  have hw : IntKind.i64.wrap ((i : Int) + 1) = ((i + 1 : Nat) : Int) := by rw [i64_id (by omega)]; rfl
  rw [hw]
  have num : isNum o = true -> ∀ v,Ext (fun _=> False) w3 v ->
    C84 (o.1,o.2.1,o.2.2.1,o.2.2.2.1,o.2.2.2.2.1,o.2.2.2.2.2) v fun r28 r29 vw30=> Br (!r29) (Ext (fun _=> False) w vw30 /\ match nmO (L.filter isNum) with
      | none=> (2 : Int) = 2
      | some l=> (2 : Int) = 0 /\ IO w vw30 ⟨none,0,0⟩ l) (Nw vw30 (.cells #[.int .i64 r28] 2) fun vw31=>
      Rn Tryz.prog (Builtin.append_ #[25,25] 25 #[Slc.v r,Slc.v ((⟨some ⟨vw30.heap.size,0,none⟩,1,1⟩ : Slc))]) vw31 Slc.v fun (x32 : Slc) vw33=>
      ∃ m',m' < L.length - i /\ ∃ (k : Nat) (l' : List Int),((i + 1 : Nat) : Int) = (k : Int) /\ k <= L.length /\ m' = L.length - k /\ l'.length <= k /\ IO w vw33 x32 l' /\ Ext (fun _=> False) w vw33 /\ nmO (L.filter isNum) = (nmO ((L.drop k).filter isNum)).bind (fun r=> some (l' ++ r))) := by
   intro hnum v ev
   rw [if_pos hnum] at hn
   have hn : nmO (L.filter isNum) = ((numV o).bind fun n=> (nmO ((L.drop (i + 1)).filter isNum)).bind fun l=> some (n :: l)).bind (fun r=> some (l ++ r)) := hn
   refine (r_number o v).mono ?_
   rintro x ok w5 ⟨hv,e5⟩
   have e35 := ev.tr e5
   cases hx : numV o with
   | none=>
    rw [hx] at hv hn
    cases hv
    refine Br.t rfl ⟨e3.tr e35,?_⟩
    rw [hn]
    trivial
   | some y=>
    rw [hx] at hv hn
    cases hv
    refine Br.f rfl (IO.snoc (w0 := w) ⟨ho.1.keep e35 fun _ _ e=> e,ho.2⟩ (e3.tr e35) (by omega) fun r' w' ho' e'=> ⟨L.length - (i + 1),by omega,i + 1,l ++ [x],rfl,by omega,rfl,by rw [List.length_append,List.length_singleton]; omega,ho',e',?_⟩)
    rw [hn,Option.bind_some]
    cases nmO ((L.drop (i + 1)).filter isNum) with
    | none=> rfl
    | some r=> simp
  refine H.ld 0 rfl (x := o.1) rfl (Br.ne (fun q2=> H.ld 0 rfl (x := o.1) rfl (Br.ne (fun q3=> ?_) fun q3=> ?_)) fun q2=> ?_)
  ·have hno : isNum o = false := by simp [isNum,q2,q3]
   rw [if_neg (by rw [hno]; decide),List.nil_append] at hn
   exact ⟨L.length - (i + 1),by omega,i + 1,l,rfl,by omega,rfl,by omega,⟨ho.1.keep H.ext fun _ _ e=> e,ho.2⟩,e3.tr H.ext,hn⟩
  ·iterate 6 refine H.ld 0 rfl rfl ?_
   exact num (by simp [isNum,q3]) _ H.ext
  ·iterate 6 refine H.ld 0 rfl rfl ?_
   exact num (by simp [isNum,q2]) _ H.ext
 ·have : i = L.length := by omega
  subst this
  rw [List.drop_length] at hn
  have hn : nmO (L.filter isNum) = some l := by
   rw [hn]
   simp [nmO]
  rw [hn]
  exact ⟨e3,by trivial,ho⟩
theorem r_known (a : ByteArray) (w : World) : C45 a w fun r w1=> r = decide (Opr.bl a ∈ ten) /\ w1 = w := by
 refine T45 _ _ _ ?_
 unfold S45
 refine BrN (fun q=> BrN (fun _=> ⟨by rw [q]; decide,rfl⟩) fun h=> absurd q h) fun q0=> ?_
 refine BrN (fun q=> BrN (fun _=> ⟨by rw [q]; decide,rfl⟩) fun h=> absurd q h) fun q1=> ?_
 refine BrN (fun q=> BrN (fun _=> ⟨by rw [q]; decide,rfl⟩) fun h=> absurd q h) fun q2=> ?_
 refine BrN (fun q=> BrN (fun _=> ⟨by rw [q]; decide,rfl⟩) fun h=> absurd q h) fun q3=> ?_
 refine BrN (fun q=> BrN (fun _=> ⟨by rw [q]; decide,rfl⟩) fun h=> absurd q h) fun q4=> ?_
 refine BrN (fun q=> BrN (fun _=> ⟨by rw [q]; decide,rfl⟩) fun h=> absurd q h) fun q5=> ?_
 refine BrN (fun q=> BrN (fun _=> ⟨by rw [q]; decide,rfl⟩) fun h=> absurd q h) fun q6=> ?_
 refine BrN (fun q=> BrN (fun _=> ⟨by rw [q]; decide,rfl⟩) fun h=> absurd q h) fun q7=> ?_
 refine BrN (fun q=> BrN (fun _=> ⟨by rw [q]; decide,rfl⟩) fun h=> absurd q h) fun q8=> ?_
 refine BrN (fun q=> ⟨by rw [q]; decide,rfl⟩) fun q9=> ⟨?_,rfl⟩
 have q0 : ¬ Opr.bl a = [66,84] := q0
 have q1 : ¬ Opr.bl a = [69,84] := q1
 have q2 : ¬ Opr.bl a = [84,100] := q2
 have q3 : ¬ Opr.bl a = [84,68] := q3
 have q4 : ¬ Opr.bl a = [84,109] := q4
 have q5 : ¬ Opr.bl a = [84,42] := q5
 have q6 : ¬ Opr.bl a = [84,106] := q6
 have q7 : ¬ Opr.bl a = [84,74] := q7
 have q8 : ¬ Opr.bl a = [39] := q8
 have q9 : ¬ Opr.bl a = [34] := q9
 generalize Opr.bl a = n at *
 simp [ten,q0,q1,q2,q3,q4,q5,q6,q7,q8,q9]
end
end Ma
end Go.Proofs.YtcblpehnkogfdaaGreatDoor

/- The reference's text machine: arrays. Conditions: sizes. -/
namespace Go.Proofs.YtcblpehnkogfdaaGreatDoor
namespace Ma
open Sh Mat Fix Fo Sw Opr Pat
set_option maxRecDepth 8000
set_option maxHeartbeats 4000000
attribute [local irreducible] Ld Sh.St Nw Nn Lt LdS
section
variable {w : World} {g : GT} {x : FT} {f : Font} {m : Mc}
theorem shown_err {g : GT} {f : Font} {m : Mc} {s : ByteArray} {L : List GlT} {tm : Mx} {e : Int} (h : stringF g m.text f s = (L,tm,e)) : (shownF g f m s).1 = e /\ (e = 0 -> shownF g f m s = (0,⟨m.on,tm,m.line⟩,L) /\ L.length <= 16384) := by
 by_cases q : e = 0
 ·subst q
  have hmost := string_most h
  have hA : shownF g f m s = (0,⟨m.on,tm,m.line⟩,L) := by
   unfold shownF showF
   rw [h,if_neg (by simp),if_neg (by simp; omega)]
   rfl
  exact ⟨by rw [hA],fun _=> ⟨hA,hmost⟩⟩
 ·refine ⟨?_,fun h0=> absurd h0 q⟩
  unfold shownF showF
  rw [h,if_pos q]
theorem kid_some {g : GT} {f : Font} {tx m' : Mx} {gl : List GlT} {k : Ob} {y : Int} (h4 : ¬ k.1 = 4) (hy : numV k = some y) (hb : backF g tx y = some m') : kidF g f tx gl k = (0,gl,m') := by
 unfold kidF
 rw [if_neg h4,hy,Option.getD_some,hb]
theorem kid_none {g : GT} {f : Font} {tx : Mx} {gl : List GlT} {k : Ob} {y : Int} (h4 : ¬ k.1 = 4) (hy : numV k = some y) (hb : backF g tx y = none) : kidF g f tx gl k = (2,gl,tx) := by
 unfold kidF
 rw [if_neg h4,hy,Option.getD_some,hb]
noncomputable def arrF (g : GT) (f : Font) (m : Mc) (K : List Ob) : Int × Mc × List GlT := if K.all kidOk = false then (28,m,[]) else ((rowF g f K m.text []).1,{ m with text := (rowF g f K m.text []).2.2 },(rowF g f K m.text []).2.1)
theorem r_array (h : FoV w x f) (m : Mc) {o : Ob} {K : List Ob} (hK : OV w o.2.2.2.2.2 K) (hKl : K.length <= 9223372036854775807) (hks : ∀ k ∈ K,k.2.2.2.1.size <= 1048576) :
  C52 (mct m) g x o w fun r sl e w1=> RA (fixA (arrF g f m K) m) w r sl e w1 := by
 refine T52 (mct m) g x o _ _ ?_
 unfold S52
 refine (Hn.start w).nw (cs := mcc m) fun vw5 H=> H.nw (cs := grl g) fun vw6 H=> H.nw (cs := fol x) fun vw7 H=> H.nw (cs := obrow o) fun vw8 H=> H.nw (cs := mcc mz) fun vw9 H=> ?_
 have H : Hn w vw9 [(w.heap.size,mcc m,TR),(vw5.heap.size,grl g,TG),(vw6.heap.size,fol x,TF),(vw7.heap.size,obrow o,TO),(vw8.heap.size,mcc mz,TR)] := H
 refine H.ld 3 rfl (x := o.2.2.2.2.2) rfl ?_
 have hlen := hK.1
 refine ⟨fun n st v=> ∃ i : Nat,st = (i : Int) /\ i <= K.length /\ n = K.length - i /\ (K.take i).all kidOk = true /\ Hn w v [(w.heap.size,mcc m,TR),(vw5.heap.size,grl g,TG),(vw6.heap.size,fol x,TF),(vw7.heap.size,obrow o,TO),(vw8.heap.size,mcc mz,TR)],K.length,⟨0,rfl,Nat.zero_le _,rfl,rfl,H⟩,?_⟩
 clear H
 rintro n st v ⟨i,rfl,hi,rfl,hall,H⟩
 unfold S52L2
 rw [hlen]
 refine Br.dec (fun q=> ⟨by omega,by omega,?_⟩) fun q=> ?_
 ·have hlt : i < K.length := by omega
  have hLi : K[i]? = some K[i] := List.getElem?_eq_getElem hlt
  obtain ⟨ad,ha,c0,c1,c2,c3,c4,c5⟩ := (hK.keep H.ext).get hLi
  have hat := all_take hLi hall
  have hno := all_no (p := kidOk) hLi
  generalize K[i] = k at *
  rw [ha,Int.toNat_natCast]
  refine Nn.of (Ld.mk c0 (Ld.mk c1 (Ld.mk c2 (Ld.mk c3 (Ld.mk c4 (Ld.mk c5 ?_))))))
  have HV := H
  have H := Hn.start v
  refine H.nw fun w51 H=> ?_
  simp only [List.nil_append,List.cons_append,List.set_cons_zero,List.set_cons_succ,Nat.zero_add] at H
  iterate 6 (refine H.st 0 rfl (by simp) fun _ H=> ?_; simp only [List.nil_append,List.cons_append,List.set_cons_zero,List.set_cons_succ,Nat.zero_add] at H)
  iterate 6 refine H.ld 0 rfl rfl ?_
  have H5 := HV.keep H.ext
  refine (r_number k _).mono ?_
  rintro r64 r65 w66 ⟨hv,e66⟩
  have H := H.keep e66
  have H5 := H5.keep e66
  have hw : IntKind.i64.wrap ((i : Int) + 1) = ((i + 1 : Nat) : Int) := by rw [i64_id (by omega)]; rfl
  rw [hw]
  cases hx : numV k with
  | some y=>
   rw [hx] at hv
   cases hv
   exact Br.f rfl ⟨K.length - (i + 1),by omega,i + 1,rfl,by omega,rfl,by rw [hat]; unfold kidOk; rw [hx]; rfl,H5⟩
  | none=>
   rw [hx] at hv
   cases hv
   refine Br.t rfl (H.ld 0 rfl (x := k.1) rfl (Br.ne (fun q4=> ?_) fun q4=> ?_))
   ·have hA : (arrF g f m K).1 = 28 := by
     unfold arrF
     rw [if_pos (hno (by unfold kidOk; rw [hx]; simp [q4]))]
    exact mexit H5 (i := 0) (j := 4) rfl rfl fun u' H' _=> RA.bad (by decide) hA H'.ext
   ·exact ⟨K.length - (i + 1),by omega,i + 1,rfl,by omega,rfl,by rw [hat]; unfold kidOk; rw [hx]; simp [q4],H5⟩
 have : i = K.length := by omega
 subst this
 rw [List.take_length] at hall
 have hAF : arrF g f m K = ((rowF g f K m.text []).1,{ m with text := (rowF g f K m.text []).2.2 },(rowF g f K m.text []).2.1) := by
  unfold arrF
  rw [if_neg (by rw [hall]; decide)]
 refine mcL H (i := 0) rfl (mk_mc H m fun w73 H _=> ?_)
 have H : Hn w w73 [(w.heap.size,mcc m,TR),(vw5.heap.size,grl g,TG),(vw6.heap.size,fol x,TF),(vw7.heap.size,obrow o,TO),(vw8.heap.size,mcc mz,TR),(v.heap.size,mcc m,TR)] := H
 have l0 := H.lt 0 rfl
 have l1 := H.lt 1 rfl
 have l2 := H.lt 2 rfl
 have l3 := H.lt 3 rfl
 have l4 := H.lt 4 rfl
 have l5 := H.lt 5 rfl
 have g5 := H.ge 5 rfl
 have hs73 := H.size
 refine H.ld 3 rfl (x := o.2.2.2.2.2) rfl ?_
 refine ⟨fun n st u=> ∃ (i : Nat) (gl : List GlT) (tx : Mx),st.2 = (i : Int) /\ i <= K.length /\ n = K.length - i /\ gl.length <= 16384 /\ Hn w u [(w.heap.size,mcc m,TR),(vw5.heap.size,grl g,TG),(vw6.heap.size,fol x,TF),(vw7.heap.size,obrow o,TO),(vw8.heap.size,mcc mz,TR),(v.heap.size,mcc ⟨m.on,tx,m.line⟩,TR)] /\
  Row u st.1 TL 9 (gl.flatMap glc) /\ (∀ j,st.1.own j -> w73.heap.size <= j) /\ w73.heap.size <= u.heap.size /\ rowF g f K m.text [] = rowF g f (K.drop i) tx gl,K.length,⟨0,[],m.text,rfl,Nat.zero_le _,rfl,by simp,H,Row.nil _ _ _,fun j hj=> (no_own j hj).elim,Nat.le_refl _,rfl⟩,?_⟩
 clear H
 rintro n ⟨so,i'⟩ u ⟨i,gl,tx,hi',hi2,rfl,hgl,H,hR,how,hsu,hrow⟩
 simp only at hi' hR how
 subst hi'
 unfold S52L1
 dsimp only
 rw [hlen]
 refine Br.dec (fun q=> ⟨by omega,by omega,?_⟩) fun q=> ?_
 ·have hlt : i < K.length := by omega
  have hLi : K[i]? = some K[i] := List.getElem?_eq_getElem hlt
  obtain ⟨ad,ha,c0,c1,c2,c3,c4,c5⟩ := (hK.keep H.ext).get hLi
  have hkok : kidOk K[i] = true := List.all_eq_true.1 hall _ (List.getElem_mem hlt)
  have hsz := hks _ (List.getElem_mem hlt)
  have hdr : K.drop i = K[i] :: K.drop (i + 1) := List.drop_eq_getElem_cons hlt
  rw [hdr] at hrow
  generalize K[i] = k at *
  rw [ha,Int.toNat_natCast]
  refine Nn.of (Ld.mk c0 (Ld.mk c1 (Ld.mk c2 (Ld.mk c3 (Ld.mk c4 (Ld.mk c5 ?_))))))
  have H6 := H
  have H := Hn.start u
  refine H.nw fun w185 H=> ?_
  simp only [List.nil_append,List.cons_append,List.set_cons_zero,List.set_cons_succ,Nat.zero_add] at H
  iterate 6 (refine H.st 0 rfl (by simp) fun _ H=> ?_; simp only [List.nil_append,List.cons_append,List.set_cons_zero,List.set_cons_succ,Nat.zero_add] at H)
  rename_i w191
  have HO := H
  have H := H6.keep HO.ext
  have hR := hR.keep HO.ext fun _ _ e=> e
  have hw : IntKind.i64.wrap ((i : Int) + 1) = ((i + 1 : Nat) : Int) := by rw [i64_id (by omega)]; rfl
  rw [hw]
  have bad : ∀ {e : Int} {u1 : World},(kidF g f tx gl k).1 = e -> e ≠ 0 -> Hn w u1 [(w.heap.size,mcc m,TR),(vw5.heap.size,grl g,TG),(vw6.heap.size,fol x,TF),(vw7.heap.size,obrow o,TO),(vw8.heap.size,mcc mz,TR),(v.heap.size,mcc ⟨m.on,tx,m.line⟩,TR)] -> ∀ {u2 : World},Ext (fun _=> False) w u2 -> RA (fixA (arrF g f m K) m) w (mct m) ⟨none,0,0⟩ e u2 := fun {e u1} hk he _ {u2} E=>
   RA.bad he (by rw [hAF]; show (rowF g f K m.text []).1 = e; rw [hrow]; exact rowF_stop hk he) E
  refine HO.ld 0 rfl (x := k.1) rfl (Br.eq (fun q4=> ?_) fun q4=> ?_)
  ·have hkid : kidF g f tx gl k = showF g f tx gl k.2.2.2.1 := by unfold kidF; rw [if_pos q4]
   refine mcL H (i := 5) rfl (gL H (i := 1) rfl (fL H (i := 2) rfl (HO.ld 0 rfl (x := k.2.2.2.1) rfl ?_)))
   refine (r_shown (g := g) (h.keep H.ext) ⟨m.on,tx,m.line⟩ hsz).mono ?_
   rintro r197 r198 r199 w200 hRA
   have H := H.keep hRA.ext
   have hR := hR.keep hRA.ext fun _ _ e=> e
   obtain ⟨⟨L,tm,e⟩,hstr⟩ : ∃ y,stringF g tx f k.2.2.2.1 = y := ⟨_,rfl⟩
   obtain ⟨he1,he2⟩ := shown_err (m := ⟨m.on,tx,m.line⟩) hstr
   have herr : r199 = e := by
    rw [hRA.err]
    unfold fixA
    split
    ·exact he1
    ·exact he1
   subst herr
   by_cases q9 : r199 = 0
   ·obtain ⟨hA,hLm⟩ := he2 q9
    rw [hA,fixA_ok rfl] at hRA
    have hmc := hRA.mc
    have hv := hRA.gls
    have how2 := hRA.own
    dsimp only at hmc hv
    subst hmc
    refine mk_mc H ⟨m.on,tm,m.line⟩ fun w202 H e202=> Br.ne (fun q'=> absurd q9 q') fun _=> ?_
    have hR := hR.keep e202 fun _ _ e=> e
    have hv := hv.keep e202
    have HD := H.drew
    have hz : ∀ w',Blk w' w200.heap.size (mcc ⟨m.on,tm,m.line⟩).toArray TR -> Blk w' w200.heap.size (mcc ⟨m.on,tm,m.line⟩).toArray TR := fun _ h=> h
    have z0 := HD.get 6 rfl
    have H := Hn.left (L := [(w.heap.size,mcc m,TR),(vw5.heap.size,grl g,TG),(vw6.heap.size,fol x,TF),(vw7.heap.size,obrow o,TO),(vw8.heap.size,mcc mz,TR),(v.heap.size,mcc ⟨m.on,tx,m.line⟩,TR)]) HD
    refine ⟨fun w'=> Blk w' w200.heap.size (mcc ⟨m.on,tm,m.line⟩).toArray TR,z0,LdST.blk (ts := LiA38) (pre := []) (post := []) (t := TR) (x := mct ⟨m.on,tm,m.line⟩) (fun w' hw=> hw) rfl ?_⟩
    have eD := (Ext.refl (fun _=> False) w202).drew
    have hR := hR.keep eD fun _ _ e=> e
    have hv := hv.keep eD
    have n1 : so.len = gl.length := VRow.count glc_len (by decide) (Row.view hR)
    have n2 := VRow.count glc_len (by decide) hv
    obtain ⟨s',w',hrun,hrow',hlen',hext,hown⟩ := elGl.app (ty := 49) hR hv (fun v hv=> by
     obtain ⟨y,_,hx⟩ := List.mem_flatMap.1 hv
     exact glc_one y v hx) (by omega) (by omega)
    refine ⟨s',w',hrun,?_⟩
    have own1 : ∀ j,so.own j -> j ≠ w200.heap.size := fun j hj e=> by
     have h1 := hR.own_lt hj
     obtain ⟨cs1,hb1⟩ := own_blk hR hj
     have h2 := z0
     rw [<- e] at h2
     exact absurd (blk_ty hb1 h2) (by decide)
    have zw := hext.blk z0 fun hj=> own1 _ hj rfl
    have HB := H.other hext fun j hj=> by
     have := how j hj
     refine ⟨by omega,?_⟩
     simp only [List.map_cons,List.map_nil,List.mem_cons,List.not_mem_nil,or_false]
     omega
    have own2 : ∀ j,s'.own j -> w73.heap.size <= j := fun j hj=> by
     rcases hown j hj with e | e
     ·exact how j e
     ·have := (HO.ext.tr (hRA.ext.tr e202)).size
      have : w202.drew.heap.size = w202.heap.size := rfl
      omega
    refine ⟨zw,mcSt HB (j := 5) rfl ⟨m.on,tm,m.line⟩ fun w210 HC eC=> ?_⟩
    rw [hlen',n1,n2]
    refine Br.dec (fun q6=> ?_) fun q6=> ?_
    ·refine mexit HC (i := 0) (j := 4) rfl rfl fun u' H' _=> RA.bad (by decide) ?_ H'.ext
     rw [hAF]
     show (rowF g f K m.text []).1 = 6
     rw [hrow]
     refine rowF_stop ?_ (by decide)
     rw [hkid]
     unfold showF
     rw [hstr,if_neg (by simp [q9]),if_pos (by show 16384 < gl.length + L.length; omega)]
    ·refine ⟨K.length - (i + 1),by omega,i + 1,gl ++ L,tm,rfl,by omega,rfl,by rw [List.length_append]; omega,HC,?_,own2,?_,?_⟩
     ·have hr2 : Row w' s' TL 9 ((gl ++ L).flatMap glc) := by
       rw [List.flatMap_append]
       exact hrow'
      refine hr2.keep eC fun j hj e=> ?_
      have := own2 j hj
      have e : j = v.heap.size := e
      omega
     ·have := (HO.ext.tr (hRA.ext.tr e202)).size
      have := hext.size
      have := eC.size
      have : w202.drew.heap.size = w202.heap.size := rfl
      omega
     ·rw [hrow]
      refine rowF_step ?_
      rw [hkid]
      unfold showF
      rw [hstr,if_neg (by simp [q9]),if_neg (by show ¬ 16384 < gl.length + L.length; omega)]
   ·have hmc : r197 = mct ⟨m.on,tx,m.line⟩ := by
     rw [hRA.mc]
     unfold fixA
     rw [if_pos (by rw [he1]; exact q9)]
    subst hmc
    refine mk_mc H ⟨m.on,tx,m.line⟩ fun w202 H e202=> Br.ne (fun _=> ?_) fun q'=> absurd q' q9
    have hk1 : (kidF g f tx gl k).1 = r199 := by
     rw [hkid]
     unfold showF
     rw [hstr,if_pos q9]
    exact mexit H (i := 0) (j := 4) rfl rfl fun u' H' _=> bad hk1 q9 H6 H'.ext
  ·have hnum : ∃ y,numV k = some y := by
    unfold kidOk at hkok
    rw [decide_eq_false q4,Bool.or_false] at hkok
    exact Option.isSome_iff_exists.1 hkok
   obtain ⟨y,hy⟩ := hnum
   have hyb := numV_in hy
   iterate 6 refine HO.ld 0 rfl rfl ?_
   refine (r_number k _).mono ?_
   rintro r220 r221 w222 ⟨hv,e222⟩
   rw [hy] at hv
   cases hv
   have H := H.keep e222
   have hR := hR.keep e222 fun _ _ e=> e
   refine gL H (i := 1) rfl (H.ld 5 rfl (x := tx.1) rfl (H.ld 5 rfl (x := tx.2.1) rfl (H.ld 5 rfl (x := tx.2.2.1) rfl (H.ld 5 rfl (x := tx.2.2.2.1) rfl (H.ld 5 rfl (x := tx.2.2.2.2.1) rfl (H.ld 5 rfl (x := tx.2.2.2.2.2) rfl ?_))))))
   refine (r_back g tx (n := y) (by omega) _).mono ?_
   rintro r230 r231 w232 ⟨hb,e232⟩
   have H := H.keep e232
   have hR := hR.keep e232 fun _ _ e=> e
   refine mk_mx w232 r230 fun w239 e239 hbk=> ?_
   have H : Hn w w239 [(w.heap.size,mcc m,TR),(vw5.heap.size,grl g,TG),(vw6.heap.size,fol x,TF),(vw7.heap.size,obrow o,TO),(vw8.heap.size,mcc mz,TR),(v.heap.size,mcc ⟨m.on,tx,m.line⟩,TR),(w232.heap.size,mrow r230,TM)] := (H.keep e239).push hbk H.size fun hm=> Nat.lt_irrefl _ (H.all_lt hm)
   clear hbk
   have hR := hR.keep e239 fun _ _ e=> e
   cases hbf : backF g tx y with
   | none=>
    rw [hbf] at hb
    have hkid := kid_none (f := f) (gl := gl) q4 hy hbf
    subst hb
    exact Br.ne (fun _=> mexit H (i := 0) (j := 4) rfl rfl fun u' H' _=> bad (by rw [hkid]) (by decide) H6 H'.ext) fun q'=> by cases q'
   | some m'=>
    rw [hbf] at hb
    have hkid := kid_some (f := f) (gl := gl) q4 hy hbf
    obtain ⟨rfl,rfl⟩ := hb
    refine Br.ne (fun q'=> absurd rfl q') fun _=> H.ld 6 rfl (x := r230.1) rfl (H.ld 6 rfl (x := r230.2.1) rfl (H.ld 6 rfl (x := r230.2.2.1) rfl (H.ld 6 rfl (x := r230.2.2.2.1) rfl (H.ld 6 rfl (x := r230.2.2.2.2.1) rfl (H.ld 6 rfl (x := r230.2.2.2.2.2) rfl ((mcText H (i := 5) rfl r230 fun w254 HC eC=> ?_)))))))
    refine ⟨K.length - (i + 1),by omega,i + 1,gl,r230,rfl,by omega,rfl,hgl,Hn.left (M := [(w232.heap.size,mrow r230,TM)]) HC,?_,how,?_,?_⟩
    ·refine hR.keep eC fun j hj e=> ?_
     have := how j hj
     have e : j = v.heap.size := e
     omega
    ·have := (HO.ext.tr (e222.tr (e232.tr e239))).size
     have := eC.size
     omega
    ·rw [hrow]
     exact rowF_step hkid
 ·have : i = K.length := by omega
  subst this
  rw [List.drop_length] at hrow
  have hrow : rowF g f K m.text [] = (0,gl,tx) := hrow
  have hA : arrF g f m K = (0,⟨m.on,tx,m.line⟩,gl) := by rw [hAF,hrow]
  rw [hA,fixA_ok rfl]
  refine mexit H (i := 5) (j := 4) rfl rfl fun u' H' e'=> ⟨rfl,rfl,Row.view (hR.keep e' fun j hj e=> ?_),fun j hj=> ?_,H'.ext⟩
  ·have := how j hj
   have e : j = vw8.heap.size := e
   omega
  ·have := how j hj
   omega
end
end Ma
end Go.Proofs.YtcblpehnkogfdaaGreatDoor

/- Content operators: the reference's Takes and Check. Condition: none. -/
namespace Go.Proofs.YtcblpehnkogfdaaGreatDoor
namespace Opr
open Sh Mat
set_option maxRecDepth 8000
set_option maxHeartbeats 8000000
attribute [local irreducible] Ld St Nw Nn Lt LdS
section
variable {w w1 : World} {s : Slc} {L : List By}
theorem BrB {a b : ByteArray} {A B : Prop} (h1 : bl a = bl b -> A) (h2 : ¬ bl a = bl b -> B) : Br (a.toList == b.toList) A B := by rw [eqB]; exact Br.dec h1 h2
theorem r_takes (name : ByteArray) (w : World) : C82 name w fun r w1=> r = ba (takes (bl name)) /\ w1 = w := by
 refine T82 _ _ _ ?_
 unfold S82
 have ev : ∀ l : By,bl (⟨l.toArray⟩ : ByteArray) = l := fun l=> rfl
 refine ⟨fun m w1=> w1 = w /\ m = decide (bl name ∈ ([[98],[66],[98,42],[66,42],[66,84],[69,84],[69,77,67],[66,88],[69,88],[102],[70],[102,42],[104],[110],[113],[81],[115],[83],[84,42],[87],[87,42]] : List By)),?_,?_⟩
 rotate_left
 ·skip
  refine BrB (fun h=> ⟨rfl,by rw [eqB,decide_eq_true h,decide_eq_true]; rw [h]; decide⟩) fun h0=> ?_
  refine BrB (fun h=> ⟨rfl,by rw [eqB,decide_eq_true h,decide_eq_true]; rw [h]; decide⟩) fun h1=> ?_
  refine BrB (fun h=> ⟨rfl,by rw [eqB,decide_eq_true h,decide_eq_true]; rw [h]; decide⟩) fun h2=> ?_
  refine BrB (fun h=> ⟨rfl,by rw [eqB,decide_eq_true h,decide_eq_true]; rw [h]; decide⟩) fun h3=> ?_
  refine BrB (fun h=> ⟨rfl,by rw [eqB,decide_eq_true h,decide_eq_true]; rw [h]; decide⟩) fun h4=> ?_
  refine BrB (fun h=> ⟨rfl,by rw [eqB,decide_eq_true h,decide_eq_true]; rw [h]; decide⟩) fun h5=> ?_
  refine BrB (fun h=> ⟨rfl,by rw [eqB,decide_eq_true h,decide_eq_true]; rw [h]; decide⟩) fun h6=> ?_
  refine BrB (fun h=> ⟨rfl,by rw [eqB,decide_eq_true h,decide_eq_true]; rw [h]; decide⟩) fun h7=> ?_
  refine BrB (fun h=> ⟨rfl,by rw [eqB,decide_eq_true h,decide_eq_true]; rw [h]; decide⟩) fun h8=> ?_
  refine BrB (fun h=> ⟨rfl,by rw [eqB,decide_eq_true h,decide_eq_true]; rw [h]; decide⟩) fun h9=> ?_
  refine BrB (fun h=> ⟨rfl,by rw [eqB,decide_eq_true h,decide_eq_true]; rw [h]; decide⟩) fun h10=> ?_
  refine BrB (fun h=> ⟨rfl,by rw [eqB,decide_eq_true h,decide_eq_true]; rw [h]; decide⟩) fun h11=> ?_
  refine BrB (fun h=> ⟨rfl,by rw [eqB,decide_eq_true h,decide_eq_true]; rw [h]; decide⟩) fun h12=> ?_
  refine BrB (fun h=> ⟨rfl,by rw [eqB,decide_eq_true h,decide_eq_true]; rw [h]; decide⟩) fun h13=> ?_
  refine BrB (fun h=> ⟨rfl,by rw [eqB,decide_eq_true h,decide_eq_true]; rw [h]; decide⟩) fun h14=> ?_
  refine BrB (fun h=> ⟨rfl,by rw [eqB,decide_eq_true h,decide_eq_true]; rw [h]; decide⟩) fun h15=> ?_
  refine BrB (fun h=> ⟨rfl,by rw [eqB,decide_eq_true h,decide_eq_true]; rw [h]; decide⟩) fun h16=> ?_
  refine BrB (fun h=> ⟨rfl,by rw [eqB,decide_eq_true h,decide_eq_true]; rw [h]; decide⟩) fun h17=> ?_
  refine BrB (fun h=> ⟨rfl,by rw [eqB,decide_eq_true h,decide_eq_true]; rw [h]; decide⟩) fun h18=> ?_
  refine BrB (fun h=> ⟨rfl,by rw [eqB,decide_eq_true h,decide_eq_true]; rw [h]; decide⟩) fun h19=> ?_
  refine ⟨rfl,(eqB _ _).trans (decide_eq_decide.2 ⟨fun h=> by rw [h]; decide,fun h=> ?_⟩)⟩
  simp only [List.mem_cons,List.not_mem_nil,or_false] at h
  rcases h with h | h | h | h | h | h | h | h | h | h | h | h | h | h | h | h | h | h | h | h | h
  ·exact absurd h h0
  ·exact absurd h h1
  ·exact absurd h h2
  ·exact absurd h h3
  ·exact absurd h h4
  ·exact absurd h h5
  ·exact absurd h h6
  ·exact absurd h h7
  ·exact absurd h h8
  ·exact absurd h h9
  ·exact absurd h h10
  ·exact absurd h h11
  ·exact absurd h h12
  ·exact absurd h h13
  ·exact absurd h h14
  ·exact absurd h h15
  ·exact absurd h h16
  ·exact absurd h h17
  ·exact absurd h h18
  ·exact absurd h h19
  ·exact h
 rintro m w1 ⟨hw,rfl⟩
 rw [hw]
 clear hw w1
 unfold S82J9
 refine Br.dec (fun q0=> ⟨by unfold takes rows; simp only [takesL,if_pos q0]; rfl,rfl⟩) fun q0=> ?_
 refine ⟨fun m w1=> w1 = w /\ m = decide (bl name ∈ ([[103],[71],[105],[106],[74],[77],[119],[84,99],[84,76],[84,114],[84,115],[84,119],[84,122]] : List By)),?_,?_⟩
 rotate_left
 ·skip
  refine BrB (fun h=> ⟨rfl,by rw [eqB,decide_eq_true h,decide_eq_true]; rw [h]; decide⟩) fun h0=> ?_
  refine BrB (fun h=> ⟨rfl,by rw [eqB,decide_eq_true h,decide_eq_true]; rw [h]; decide⟩) fun h1=> ?_
  refine BrB (fun h=> ⟨rfl,by rw [eqB,decide_eq_true h,decide_eq_true]; rw [h]; decide⟩) fun h2=> ?_
  refine BrB (fun h=> ⟨rfl,by rw [eqB,decide_eq_true h,decide_eq_true]; rw [h]; decide⟩) fun h3=> ?_
  refine BrB (fun h=> ⟨rfl,by rw [eqB,decide_eq_true h,decide_eq_true]; rw [h]; decide⟩) fun h4=> ?_
  refine BrB (fun h=> ⟨rfl,by rw [eqB,decide_eq_true h,decide_eq_true]; rw [h]; decide⟩) fun h5=> ?_
  refine BrB (fun h=> ⟨rfl,by rw [eqB,decide_eq_true h,decide_eq_true]; rw [h]; decide⟩) fun h6=> ?_
  refine BrB (fun h=> ⟨rfl,by rw [eqB,decide_eq_true h,decide_eq_true]; rw [h]; decide⟩) fun h7=> ?_
  refine BrB (fun h=> ⟨rfl,by rw [eqB,decide_eq_true h,decide_eq_true]; rw [h]; decide⟩) fun h8=> ?_
  refine BrB (fun h=> ⟨rfl,by rw [eqB,decide_eq_true h,decide_eq_true]; rw [h]; decide⟩) fun h9=> ?_
  refine BrB (fun h=> ⟨rfl,by rw [eqB,decide_eq_true h,decide_eq_true]; rw [h]; decide⟩) fun h10=> ?_
  refine BrB (fun h=> ⟨rfl,by rw [eqB,decide_eq_true h,decide_eq_true]; rw [h]; decide⟩) fun h11=> ?_
  refine ⟨rfl,(eqB _ _).trans (decide_eq_decide.2 ⟨fun h=> by rw [h]; decide,fun h=> ?_⟩)⟩
  simp only [List.mem_cons,List.not_mem_nil,or_false] at h
  rcases h with h | h | h | h | h | h | h | h | h | h | h | h | h
  ·exact absurd h h0
  ·exact absurd h h1
  ·exact absurd h h2
  ·exact absurd h h3
  ·exact absurd h h4
  ·exact absurd h h5
  ·exact absurd h h6
  ·exact absurd h h7
  ·exact absurd h h8
  ·exact absurd h h9
  ·exact absurd h h10
  ·exact absurd h h11
  ·exact h
 rintro m w1 ⟨hw,rfl⟩
 rw [hw]
 clear hw w1
 unfold S82J8
 refine Br.dec (fun q1=> ⟨by unfold takes rows; simp only [takesL,if_neg q0,if_pos q1]; rfl,rfl⟩) fun q1=> ?_
 refine ⟨fun m w1=> w1 = w /\ m = decide (bl name ∈ ([[100,48],[108],[109],[84,100],[84,68]] : List By)),?_,?_⟩
 rotate_left
 ·skip
  refine BrB (fun h=> ⟨rfl,by rw [eqB,decide_eq_true h,decide_eq_true]; rw [h]; decide⟩) fun h0=> ?_
  refine BrB (fun h=> ⟨rfl,by rw [eqB,decide_eq_true h,decide_eq_true]; rw [h]; decide⟩) fun h1=> ?_
  refine BrB (fun h=> ⟨rfl,by rw [eqB,decide_eq_true h,decide_eq_true]; rw [h]; decide⟩) fun h2=> ?_
  refine BrB (fun h=> ⟨rfl,by rw [eqB,decide_eq_true h,decide_eq_true]; rw [h]; decide⟩) fun h3=> ?_
  refine ⟨rfl,(eqB _ _).trans (decide_eq_decide.2 ⟨fun h=> by rw [h]; decide,fun h=> ?_⟩)⟩
  simp only [List.mem_cons,List.not_mem_nil,or_false] at h
  rcases h with h | h | h | h | h
  ·exact absurd h h0
  ·exact absurd h h1
  ·exact absurd h h2
  ·exact absurd h h3
  ·exact h
 rintro m w1 ⟨hw,rfl⟩
 rw [hw]
 clear hw w1
 unfold S82J7
 refine Br.dec (fun q2=> ⟨by unfold takes rows; simp only [takesL,if_neg q0,if_neg q1,if_pos q2]; rfl,rfl⟩) fun q2=> ?_
 refine ⟨fun m w1=> w1 = w /\ m = decide (bl name ∈ ([[114,103],[82,71]] : List By)),?_,?_⟩
 rotate_left
 ·skip
  refine BrB (fun h=> ⟨rfl,by rw [eqB,decide_eq_true h,decide_eq_true]; rw [h]; decide⟩) fun h0=> ?_
  refine ⟨rfl,(eqB _ _).trans (decide_eq_decide.2 ⟨fun h=> by rw [h]; decide,fun h=> ?_⟩)⟩
  simp only [List.mem_cons,List.not_mem_nil,or_false] at h
  rcases h with h | h
  ·exact absurd h h0
  ·exact h
 rintro m w1 ⟨hw,rfl⟩
 rw [hw]
 clear hw w1
 unfold S82J6
 refine Br.dec (fun q3=> ⟨by unfold takes rows; simp only [takesL,if_neg q0,if_neg q1,if_neg q2,if_pos q3]; rfl,rfl⟩) fun q3=> ?_
 refine ⟨fun m w1=> w1 = w /\ m = decide (bl name ∈ ([[107],[75],[114,101],[118],[121]] : List By)),?_,?_⟩
 rotate_left
 ·skip
  refine BrB (fun h=> ⟨rfl,by rw [eqB,decide_eq_true h,decide_eq_true]; rw [h]; decide⟩) fun h0=> ?_
  refine BrB (fun h=> ⟨rfl,by rw [eqB,decide_eq_true h,decide_eq_true]; rw [h]; decide⟩) fun h1=> ?_
  refine BrB (fun h=> ⟨rfl,by rw [eqB,decide_eq_true h,decide_eq_true]; rw [h]; decide⟩) fun h2=> ?_
  refine BrB (fun h=> ⟨rfl,by rw [eqB,decide_eq_true h,decide_eq_true]; rw [h]; decide⟩) fun h3=> ?_
  refine ⟨rfl,(eqB _ _).trans (decide_eq_decide.2 ⟨fun h=> by rw [h]; decide,fun h=> ?_⟩)⟩
  simp only [List.mem_cons,List.not_mem_nil,or_false] at h
  rcases h with h | h | h | h | h
  ·exact absurd h h0
  ·exact absurd h h1
  ·exact absurd h h2
  ·exact absurd h h3
  ·exact h
 rintro m w1 ⟨hw,rfl⟩
 rw [hw]
 clear hw w1
 unfold S82J5
 refine Br.dec (fun q4=> ⟨by unfold takes rows; simp only [takesL,if_neg q0,if_neg q1,if_neg q2,if_neg q3,if_pos q4]; rfl,rfl⟩) fun q4=> ?_
 refine ⟨fun m w1=> w1 = w /\ m = decide (bl name ∈ ([[99],[99,109],[100,49],[84,109]] : List By)),?_,?_⟩
 rotate_left
 ·skip
  refine BrB (fun h=> ⟨rfl,by rw [eqB,decide_eq_true h,decide_eq_true]; rw [h]; decide⟩) fun h0=> ?_
  refine BrB (fun h=> ⟨rfl,by rw [eqB,decide_eq_true h,decide_eq_true]; rw [h]; decide⟩) fun h1=> ?_
  refine BrB (fun h=> ⟨rfl,by rw [eqB,decide_eq_true h,decide_eq_true]; rw [h]; decide⟩) fun h2=> ?_
  refine ⟨rfl,(eqB _ _).trans (decide_eq_decide.2 ⟨fun h=> by rw [h]; decide,fun h=> ?_⟩)⟩
  simp only [List.mem_cons,List.not_mem_nil,or_false] at h
  rcases h with h | h | h | h
  ·exact absurd h h0
  ·exact absurd h h1
  ·exact absurd h h2
  ·exact h
 rintro m w1 ⟨hw,rfl⟩
 rw [hw]
 clear hw w1
 unfold S82J4
 refine Br.dec (fun q5=> ⟨by unfold takes rows; simp only [takesL,if_neg q0,if_neg q1,if_neg q2,if_neg q3,if_neg q4,if_pos q5]; rfl,rfl⟩) fun q5=> ?_
 refine ⟨fun m w1=> w1 = w /\ m = decide (bl name ∈ ([[66,77,67],[99,115],[67,83],[68,111],[103,115],[77,80],[114,105],[115,104]] : List By)),?_,?_⟩
 rotate_left
 ·skip
  refine BrB (fun h=> ⟨rfl,by rw [eqB,decide_eq_true h,decide_eq_true]; rw [h]; decide⟩) fun h0=> ?_
  refine BrB (fun h=> ⟨rfl,by rw [eqB,decide_eq_true h,decide_eq_true]; rw [h]; decide⟩) fun h1=> ?_
  refine BrB (fun h=> ⟨rfl,by rw [eqB,decide_eq_true h,decide_eq_true]; rw [h]; decide⟩) fun h2=> ?_
  refine BrB (fun h=> ⟨rfl,by rw [eqB,decide_eq_true h,decide_eq_true]; rw [h]; decide⟩) fun h3=> ?_
  refine BrB (fun h=> ⟨rfl,by rw [eqB,decide_eq_true h,decide_eq_true]; rw [h]; decide⟩) fun h4=> ?_
  refine BrB (fun h=> ⟨rfl,by rw [eqB,decide_eq_true h,decide_eq_true]; rw [h]; decide⟩) fun h5=> ?_
  refine BrB (fun h=> ⟨rfl,by rw [eqB,decide_eq_true h,decide_eq_true]; rw [h]; decide⟩) fun h6=> ?_
  refine ⟨rfl,(eqB _ _).trans (decide_eq_decide.2 ⟨fun h=> by rw [h]; decide,fun h=> ?_⟩)⟩
  simp only [List.mem_cons,List.not_mem_nil,or_false] at h
  rcases h with h | h | h | h | h | h | h | h
  ·exact absurd h h0
  ·exact absurd h h1
  ·exact absurd h h2
  ·exact absurd h h3
  ·exact absurd h h4
  ·exact absurd h h5
  ·exact absurd h h6
  ·exact h
 rintro m w1 ⟨hw,rfl⟩
 rw [hw]
 clear hw w1
 unfold S82J3
 refine Br.dec (fun q6=> ⟨by unfold takes rows; simp only [takesL,if_neg q0,if_neg q1,if_neg q2,if_neg q3,if_neg q4,if_neg q5,if_pos q6]; rfl,rfl⟩) fun q6=> ?_
 refine BrB (fun h=> ?_) fun h=> ?_
 ·have q7 : bl name ∈ ([[84,102]] : List By) := by rw [show bl name = [84,102] from h]; decide
  exact ⟨by unfold takes rows; simp only [takesL,if_neg q0,if_neg q1,if_neg q2,if_neg q3,if_neg q4,if_neg q5,if_neg q6,if_pos q7]; rfl,rfl⟩
 have q7 : bl name ∉ ([[84,102]] : List By) := fun hh=> h (List.mem_singleton.1 hh)
 clear h
 refine ⟨fun m w1=> w1 = w /\ m = decide (bl name ∈ ([[66,68,67],[68,80]] : List By)),?_,?_⟩
 rotate_left
 ·skip
  refine BrB (fun h=> ⟨rfl,by rw [eqB,decide_eq_true h,decide_eq_true]; rw [h]; decide⟩) fun h0=> ?_
  refine ⟨rfl,(eqB _ _).trans (decide_eq_decide.2 ⟨fun h=> by rw [h]; decide,fun h=> ?_⟩)⟩
  simp only [List.mem_cons,List.not_mem_nil,or_false] at h
  rcases h with h | h
  ·exact absurd h h0
  ·exact h
 rintro m w1 ⟨hw,rfl⟩
 rw [hw]
 clear hw w1
 unfold S82J2
 refine Br.dec (fun q8=> ⟨by unfold takes rows; simp only [takesL,if_neg q0,if_neg q1,if_neg q2,if_neg q3,if_neg q4,if_neg q5,if_neg q6,if_neg q7,if_pos q8]; rfl,rfl⟩) fun q8=> ?_
 refine ⟨fun m w1=> w1 = w /\ m = decide (bl name ∈ ([[84,106],[39]] : List By)),?_,?_⟩
 rotate_left
 ·skip
  refine BrB (fun h=> ⟨rfl,by rw [eqB,decide_eq_true h,decide_eq_true]; rw [h]; decide⟩) fun h0=> ?_
  refine ⟨rfl,(eqB _ _).trans (decide_eq_decide.2 ⟨fun h=> by rw [h]; decide,fun h=> ?_⟩)⟩
  simp only [List.mem_cons,List.not_mem_nil,or_false] at h
  rcases h with h | h
  ·exact absurd h h0
  ·exact h
 rintro m w1 ⟨hw,rfl⟩
 rw [hw]
 clear hw w1
 unfold S82J1
 refine Br.dec (fun q9=> ⟨by unfold takes rows; simp only [takesL,if_neg q0,if_neg q1,if_neg q2,if_neg q3,if_neg q4,if_neg q5,if_neg q6,if_neg q7,if_neg q8,if_pos q9]; rfl,rfl⟩) fun q9=> ?_
 refine BrB (fun h=> ?_) fun h=> ?_
 ·have q10 : bl name ∈ ([[34]] : List By) := by rw [show bl name = [34] from h]; decide
  exact ⟨by unfold takes rows; simp only [takesL,if_neg q0,if_neg q1,if_neg q2,if_neg q3,if_neg q4,if_neg q5,if_neg q6,if_neg q7,if_neg q8,if_neg q9,if_pos q10]; rfl,rfl⟩
 have q10 : bl name ∉ ([[34]] : List By) := fun hh=> h (List.mem_singleton.1 hh)
 clear h
 refine BrB (fun h=> ?_) fun h=> ?_
 ·have q11 : bl name ∈ ([[84,74]] : List By) := by rw [show bl name = [84,74] from h]; decide
  exact ⟨by unfold takes rows; simp only [takesL,if_neg q0,if_neg q1,if_neg q2,if_neg q3,if_neg q4,if_neg q5,if_neg q6,if_neg q7,if_neg q8,if_neg q9,if_neg q10,if_pos q11]; rfl,rfl⟩
 have q11 : bl name ∉ ([[84,74]] : List By) := fun hh=> h (List.mem_singleton.1 hh)
 clear h
 refine BrB (fun h=> ?_) fun h=> ?_
 ·have q12 : bl name ∈ ([[100]] : List By) := by rw [show bl name = [100] from h]; decide
  exact ⟨by unfold takes rows; simp only [takesL,if_neg q0,if_neg q1,if_neg q2,if_neg q3,if_neg q4,if_neg q5,if_neg q6,if_neg q7,if_neg q8,if_neg q9,if_neg q10,if_neg q11,if_pos q12]; rfl,rfl⟩
 have q12 : bl name ∉ ([[100]] : List By) := fun hh=> h (List.mem_singleton.1 hh)
 clear h
 refine BrB (fun h=> ?_) fun h=> ?_
 ·have q13 : bl name ∈ ([[66,73]] : List By) := by rw [show bl name = [66,73] from h]; decide
  exact ⟨by unfold takes rows; simp only [takesL,if_neg q0,if_neg q1,if_neg q2,if_neg q3,if_neg q4,if_neg q5,if_neg q6,if_neg q7,if_neg q8,if_neg q9,if_neg q10,if_neg q11,if_neg q12,if_pos q13]; rfl,rfl⟩
 have q13 : bl name ∉ ([[66,73]] : List By) := fun hh=> h (List.mem_singleton.1 hh)
 clear h
 exact ⟨by unfold takes rows; simp only [takesL,if_neg q0,if_neg q1,if_neg q2,if_neg q3,if_neg q4,if_neg q5,if_neg q6,if_neg q7,if_neg q8,if_neg q9,if_neg q10,if_neg q11,if_neg q12,if_neg q13]; rfl,rfl⟩
theorem r_fits (o : Ob) (b : UInt8) (w : World) : C83 o ((b.toNat : Nat) : Int) w fun r w1=> r = fitsK b o.1 /\ Ext (fun _=> False) w w1 := by
 refine T83 _ _ _ _ ?_
 unfold S83 fitsK
 have e : ∀ c : UInt8,(((b.toNat : Nat) : Int) = ((c.toNat : Nat) : Int)) ↔ b = c := fun c=> ⟨fun h=> UInt8.toNat_inj.1 (by omega),fun h=> by rw [h]⟩
 refine (Hn.start w).nw fun w2 H=> ?_
 simp only [List.nil_append] at H
 have he := H.ext
 refine Br.eq (fun q=> ?_) fun q=> ?_
 ·rw [if_pos ((e 110).1 q)]
  refine H.ld 0 rfl rfl (Br.eq (fun q2=> ⟨by rw [q2]; rfl,he⟩) fun q2=> H.ld 0 rfl rfl ⟨by simp [q2],he⟩)
 rw [if_neg fun h=> q ((e 110).2 h)]
 refine Br.eq (fun q=> ?_) fun q=> ?_
 ·rw [if_pos ((e 115).1 q)]
  exact H.ld 0 rfl rfl ⟨rfl,he⟩
 rw [if_neg fun h=> q ((e 115).2 h)]
 refine Br.eq (fun q=> ?_) fun q=> ?_
 ·rw [if_pos ((e 78).1 q)]
  exact H.ld 0 rfl rfl ⟨rfl,he⟩
 rw [if_neg fun h=> q ((e 78).2 h)]
 refine Br.eq (fun q=> ?_) fun q=> ?_
 ·rw [if_pos ((e 97).1 q)]
  exact H.ld 0 rfl rfl ⟨rfl,he⟩
 rw [if_neg fun h=> q ((e 97).2 h)]
 refine Br.eq (fun q=> ?_) fun q=> ?_
 ·rw [if_pos ((e 100).1 q)]
  exact H.ld 0 rfl rfl ⟨rfl,he⟩
 rw [if_neg fun h=> q ((e 100).2 h)]
 exact ⟨rfl,he⟩
theorem r_check {name data : ByteArray} {s : Slc} {L : List Ob} (hL : OV w s L) (hlen : L.length <= 9223372036854775807) : C46 (name,s,data) w fun r w1=> r = chkF (bl name) L (bl data) /\ Ext (fun _=> False) w w1 := by
 refine T46 (name,s,data) _ _ ?_
 unfold S46
 refine (Hn.start w).nw fun w2 H=> ?_
 simp only [List.nil_append] at H
 iterate 1 refine H.ld 0 rfl rfl ?_
 refine (r_takes name _).mono ?_
 rintro t w3 ⟨rfl,rfl⟩
 obtain ⟨tl1,tl2⟩ := takes_low (bl name)
 rw [eqB,bl_ba]
 unfold chkF
 refine Br.dec (fun q=> ⟨by rw [if_pos q],H.ext⟩) fun q=> ?_
 have q' : takes (bl name) ≠ [63] := q
 rw [if_neg q']
 iterate 1 refine H.ld 0 rfl rfl ?_
 rw [ba_size,hL.1]
 refine Br.ne (fun q2=> ⟨by rw [if_pos (by omega)],H.ext⟩) fun q2=> ?_
 rw [if_neg (c := List.length (takes (bl name)) ≠ List.length L) (by omega)]
 generalize ht : takes (bl name) = t at *
 refine ⟨fun n st w4=> ∃ i : Nat,st = (i : Int) /\ i <= t.length /\ n = t.length - i /\ Hn w w4 [(w.heap.size,[.string name,Slc.v s,.string data],48)] /\ ∀ j b o,j < i -> t[j]? = some b -> L[j]? = some o -> fitsK b o.1 = true,t.length,
  ⟨0,rfl,by omega,rfl,H,fun j b o hj=> by omega⟩,?_⟩
 clear H
 rintro n st w4 ⟨i,rfl,hi,rfl,H,hall⟩
 unfold S46L1
 rw [ba_size]
 refine Br.dec (fun q3=> ?_) fun q3=> ?_
 ·have q3 : i < t.length := by omega
  have H5 := H.drew
  refine H5.ld 0 rfl rfl ?_
  obtain ⟨o,ho⟩ : ∃ o,L[i]? = some o := ⟨_,List.getElem?_eq_getElem (by omega)⟩
  obtain ⟨a,ha,c0,c1,c2,c3,c4,c5⟩ := (hL.keep H5.ext).get ho
  rw [hL.1,ha,Int.toNat_natCast]
  refine ⟨by omega,by omega,Nn.of (Ld.mk c0 (Ld.mk c1 (Ld.mk c2 (Ld.mk c3 (Ld.mk c4 (Ld.mk c5 ⟨by omega,by omega,?_⟩))))))⟩
  have hbt : bAt (ba t) (i : Int) = (((t.getD i 0).toNat : Nat) : Int) := by rw [bAt_list]; rfl
  rw [hbt]
  refine (r_fits o _ _).mono ?_
  rintro r w6 ⟨rfl,e6⟩
  have H6 := H5.keep e6
  by_cases hf : fitsK (t.getD i 0) o.1 = true
  ·rw [hf]
   refine Br.f rfl ⟨t.length - (i + 1),by omega,i + 1,by rw [i64_id (by omega)]; rfl,by omega,rfl,H6,fun j b o' hj hb ho'=> ?_⟩
   by_cases e : j = i
   ·subst e
    rw [byte_at q3] at hb
    rw [ho] at ho'
    cases hb; cases ho'
    exact hf
   ·exact hall j b o' (by omega) hb ho'
  ·have hf : fitsK (t.getD i 0) o.1 = false := by simpa using hf
   rw [hf]
   exact Br.t rfl ⟨by rw [if_pos (fitsT_no (byte_at q3) ho hf)],H6.ext⟩
 ·have hyes : fitsT t L = true := fitsT_yes fun j b o hb ho=> hall j b o (by have := (List.getElem?_eq_some_iff.1 hb).1; omega) hb ho
  rw [if_neg (by rw [hyes]; simp)]
  iterate 1 refine H.ld 0 rfl rfl ?_
  rw [eqB]
  have e0 : bl (⟨#[]⟩ : ByteArray) = [] := rfl
  have e1 : bl (⟨#[66,73]⟩ : ByteArray) = [66,73] := rfl
  rw [e0]
  by_cases hd : bl data = []
  ·rw [decide_eq_true hd,if_neg fun hh=> hh.1 hd]
   exact Br.f rfl ⟨rfl,H.ext⟩
  ·rw [decide_eq_false hd]
   refine Br.t rfl ?_
   iterate 1 refine H.ld 0 rfl rfl ?_
   rw [eqB,e1]
   by_cases hn : bl name = [66,73]
   ·rw [decide_eq_true hn,if_neg fun hh=> hh.2 hn]
    exact Br.f rfl ⟨rfl,H.ext⟩
   ·rw [decide_eq_false hn,if_pos ⟨hd,hn⟩]
    exact Br.t rfl ⟨rfl,H.ext⟩
end
end Opr
end Go.Proofs.YtcblpehnkogfdaaGreatDoor
