/- The formulas of 2 functions of the program, written by program (gen.py); the kernel checks each. No condition. -/
import Derived.Test.YtodhdkbhmkinjaaDoorFn
import Derived.Test.YtodhdkbhmkinjaaDoorFnSs
import Derived.Test.YtodhdkbhmkinjaaDoorFnOl
import Derived.Test.YtodhdkbhmkinjaaDoorFnOk
import Derived.Test.YtodhdkbhmkinjaaDoorFnOr
namespace Go.Proofs.YtodhdkbhmkinjaaDoor
open Sh
set_option linter.unusedVariables false
set_option maxRecDepth 100000

def C22 (l1 : Slc) (w : World) (R : Bool → World → Prop) : Prop :=
  Calls Tryd.prog 22 #[Slc.v l1] w fun e w' => ∃ r0 : Bool, e = .returned (.bool r0) ∧ R r0 w'
theorem C22.mono {l1 : Slc} {w : World} {R R' : Bool → World → Prop} (h : C22 l1 w R) (hr : ∀ r0 w', R r0 w' → R' r0 w') : C22 l1 w R' :=
  Calls.mono h fun _ _ ⟨r0, he, hR⟩ => ⟨r0, he, hr _ _ hR⟩
def C7 (l1 : Slc) (vat2 : Int) (w : World) (R : Bool → World → Prop) : Prop :=
  Calls Tryd.prog 7 #[Slc.v l1, .int .u8 vat2] w fun e w' => ∃ r0 : Bool, e = .returned (.bool r0) ∧ R r0 w'
theorem C7.mono {l1 : Slc} {vat2 : Int} {w : World} {R R' : Bool → World → Prop} (h : C7 l1 vat2 w R) (hr : ∀ r0 w', R r0 w' → R' r0 w') : C7 l1 vat2 w R' :=
  Calls.mono h fun _ _ ⟨r0, he, hR⟩ => ⟨r0, he, hr _ _ hR⟩

def S22L1 (l1 : Slc) (s2 : Int) (I4 : Int → World → Prop) (R : Bool → World → Prop) (I7 : Int → World → Prop) (s5 : Int) (vw6 : World) : Prop :=
  Br (decide (s5 < s2)) (0 ≤ s2 ∧ s2 < (l1.len : Nat) ∧ Nn l1.p fun a8 =>
    Ld vw6.drew ((a8.add ((s2).toNat * 9)).add 1) Value.string fun (x9 : ByteArray) =>
    Br (!(x9.toList == (⟨#[]⟩ : ByteArray).toList)) (0 ≤ s5 ∧ s5 < (l1.len : Nat) ∧ Nn l1.p fun a10 =>
      Ld vw6.drew ((a10.add ((s5).toNat * 9)).add 1) Value.string fun (x11 : ByteArray) =>
      Br (!(x11.toList == (⟨#[]⟩ : ByteArray).toList)) (0 ≤ s2 ∧ s2 < (l1.len : Nat) ∧ Nn l1.p fun a12 =>
        Ld vw6.drew ((a12.add ((s2).toNat * 9)).add 2) (Value.int .i64) fun (x13 : Int) =>
        0 ≤ s5 ∧ s5 < (l1.len : Nat) ∧ Nn l1.p fun a14 =>
        Ld vw6.drew ((a14.add ((s5).toNat * 9)).add 2) (Value.int .i64) fun (x15 : Int) =>
        Br (x13 == x15) (R false vw6.drew) (I7 (IntKind.i64.wrap (s5 + 1)) vw6.drew)) (I7 (IntKind.i64.wrap (s5 + 1)) vw6.drew)) (I7 (IntKind.i64.wrap (s5 + 1)) vw6.drew)) (I4 (IntKind.i64.wrap (s2 + 1)) vw6)
def S22L2 (l1 : Slc) (R : Bool → World → Prop) (I4 : Int → World → Prop) (s2 : Int) (vw3 : World) : Prop :=
  Br (decide (s2 < ((l1.len : Nat) : Int))) (Lp (σ := Int) (S22L1 l1 s2 I4 R) 0 vw3) (R true vw3)
/-- foliant/foliantlaw50.level -/
def S22 (l1 : Slc) (w : World) (R : Bool → World → Prop) : Prop :=
  Lp (σ := Int) (S22L2 l1 R) 0 w
def pl22 : Plan := (.seq (.reg .seq) (.seq (.seq (.reg .seq) (.block (.loop [(3, (.one (.int .i64)))] [0] (.seq (.seq (.reg .seq) (.cond .leaf .leaf)) (.seq (.block (.seq (.reg .seq) (.block (.loop [(4, (.one (.int .i64)))] [0, 3] (.seq (.seq (.reg .seq) (.cond .leaf .leaf)) (.seq (.block (.seq (.reg .still) (.cond (.seq (.reg .seq) .leaf) .leaf))) (.reg .seq))))))) (.reg .seq)))))) (.seq (.reg .seq) .leaf)))
set_option maxRecDepth 100000 in
theorem T22 (l1 : Slc) (w : World) (R : Bool → World → Prop) (h : S22 l1 w R) : C22 l1 w R := by
  have e : fnT Tryd.prog ⟨FF, MAY, (fun _ _ => False)⟩ pl22 Tryd.f22 [Slc.v l1] w [(.one .bool)] (fun s w => R s w) = S22 l1 w R := by kernel_rfl
  exact (fn_calls okF okM Tryd.func22 (by kernel_rfl) (by kernel_rfl) (e.mpr h)).mono fun _ _ ⟨s, he, hR⟩ => ⟨s, he, hR⟩

def S7L1 (l1 : Slc) (s166 : Int) (I168 : Int → World → Prop) (R : Bool → World → Prop) (I171 : Int → World → Prop) (s169 : Int) (vw170 : World) : Prop :=
  Br (decide (s169 < s166)) (∃ vS172 : World → Prop, vS172 vw170.drew ∧ 0 ≤ s166 ∧ s166 < (l1.len : Nat) ∧ Nn l1.p fun a173 =>
    LdS vS172 ((a173.add ((s166).toNat * 9)).add 1) Value.string fun (x174 : ByteArray) =>
    Br (!(x174.toList == (⟨#[]⟩ : ByteArray).toList)) (0 ≤ s169 ∧ s169 < (l1.len : Nat) ∧ Nn l1.p fun a175 =>
      LdS vS172 ((a175.add ((s169).toNat * 9)).add 1) Value.string fun (x176 : ByteArray) =>
      Br (!(x176.toList == (⟨#[]⟩ : ByteArray).toList)) (0 ≤ s166 ∧ s166 < (l1.len : Nat) ∧ Nn l1.p fun a177 =>
        LdS vS172 ((a177.add ((s166).toNat * 9)).add 2) (Value.int .i64) fun (x178 : Int) =>
        LdS vS172 (((a177.add ((s166).toNat * 9)).add 2).add 1) (Value.int .i64) fun (x179 : Int) =>
        0 ≤ s169 ∧ s169 < (l1.len : Nat) ∧ Nn l1.p fun a180 =>
        LdS vS172 ((a180.add ((s169).toNat * 9)).add 2) (Value.int .i64) fun (x181 : Int) =>
        LdS vS172 (((a180.add ((s169).toNat * 9)).add 2).add 1) (Value.int .i64) fun (x182 : Int) =>
        Br ((x178 == x181) && ((x179 == x182) && true)) (∃ vS183 : World → Prop, vS183 vw170.drew ∧ ∃ vS184 : World → Prop, vS184 vw170.drew ∧ ∃ vS185 : World → Prop, vS185 vw170.drew ∧ C8 vw170.drew fun r186 vw187 =>
            R r186 vw187) (0 ≤ s166 ∧ s166 < (l1.len : Nat) ∧ Nn l1.p fun a188 =>
          LdS vS172 (((a188.add ((s166).toNat * 9)).add 2).add 1) (Value.int .i64) fun (x189 : Int) =>
          0 ≤ s169 ∧ s169 < (l1.len : Nat) ∧ Nn l1.p fun a190 =>
          LdS vS172 (((a190.add ((s169).toNat * 9)).add 2).add 1) (Value.int .i64) fun (x191 : Int) =>
          Br (x189 == x191) (0 ≤ s166 ∧ s166 < (l1.len : Nat) ∧ Nn l1.p fun a192 =>
            LdS vS172 ((a192.add ((s166).toNat * 9)).add 6) (Value.int .i64) fun (x193 : Int) =>
            0 ≤ s169 ∧ s169 < (l1.len : Nat) ∧ Nn l1.p fun a194 =>
            LdS vS172 ((a194.add ((s169).toNat * 9)).add 6) (Value.int .i64) fun (x195 : Int) =>
            Br (x193 != x195) (∃ vS196 : World → Prop, vS196 vw170.drew ∧ ∃ vS197 : World → Prop, vS197 vw170.drew ∧ ∃ vS198 : World → Prop, vS198 vw170.drew ∧ C8 vw170.drew fun r199 vw200 =>
                R r199 vw200) (0 ≤ s166 ∧ s166 < (l1.len : Nat) ∧ Nn l1.p fun a201 =>
              LdS vS172 ((a201.add ((s166).toNat * 9)).add 2) (Value.int .i64) fun (x202 : Int) =>
              C21 x202 vw170.drew fun r203 vw204 =>
                ∃ vS205 : World → Prop, vS205 vw204 ∧ Br (!r203) (∃ vS206 : World → Prop, vS206 vw204 ∧ ∃ vS207 : World → Prop, vS207 vw204 ∧ C8 vw204 fun r208 vw209 =>
                    R r208 vw209) (0 ≤ s166 ∧ s166 < (l1.len : Nat) ∧ Nn l1.p fun a210 =>
                  LdS vS205 (((a210.add ((s166).toNat * 9)).add 2).add 1) (Value.int .i64) fun (x211 : Int) =>
                  C21 x211 vw204 fun r212 vw213 =>
                    ∃ vS214 : World → Prop, vS214 vw213 ∧ Br (!r212) (∃ vS215 : World → Prop, vS215 vw213 ∧ C8 vw213 fun r216 vw217 =>
                        R r216 vw217) (0 ≤ s169 ∧ s169 < (l1.len : Nat) ∧ Nn l1.p fun a218 =>
                      LdS vS214 ((a218.add ((s169).toNat * 9)).add 2) (Value.int .i64) fun (x219 : Int) =>
                      C21 x219 vw213 fun r220 vw221 =>
                        ∃ vS222 : World → Prop, vS222 vw221 ∧ Br (!r220) (C8 vw221 fun r223 vw224 =>
                            R r223 vw224) (0 ≤ s169 ∧ s169 < (l1.len : Nat) ∧ Nn l1.p fun a225 =>
                          LdS vS222 (((a225.add ((s169).toNat * 9)).add 2).add 1) (Value.int .i64) fun (x226 : Int) =>
                          C21 x226 vw221 fun r227 vw228 =>
                            Br (!r227) (C8 vw228 fun r229 vw230 =>
                                R r229 vw230) (I171 (IntKind.i64.wrap (s169 + 1)) vw228)))))) (0 ≤ s166 ∧ s166 < (l1.len : Nat) ∧ Nn l1.p fun a231 =>
            LdS vS172 ((a231.add ((s166).toNat * 9)).add 2) (Value.int .i64) fun (x232 : Int) =>
            C21 x232 vw170.drew fun r233 vw234 =>
              ∃ vS235 : World → Prop, vS235 vw234 ∧ Br (!r233) (∃ vS236 : World → Prop, vS236 vw234 ∧ ∃ vS237 : World → Prop, vS237 vw234 ∧ C8 vw234 fun r238 vw239 =>
                  R r238 vw239) (0 ≤ s166 ∧ s166 < (l1.len : Nat) ∧ Nn l1.p fun a240 =>
                LdS vS235 (((a240.add ((s166).toNat * 9)).add 2).add 1) (Value.int .i64) fun (x241 : Int) =>
                C21 x241 vw234 fun r242 vw243 =>
                  ∃ vS244 : World → Prop, vS244 vw243 ∧ Br (!r242) (∃ vS245 : World → Prop, vS245 vw243 ∧ C8 vw243 fun r246 vw247 =>
                      R r246 vw247) (0 ≤ s169 ∧ s169 < (l1.len : Nat) ∧ Nn l1.p fun a248 =>
                    LdS vS244 ((a248.add ((s169).toNat * 9)).add 2) (Value.int .i64) fun (x249 : Int) =>
                    C21 x249 vw243 fun r250 vw251 =>
                      ∃ vS252 : World → Prop, vS252 vw251 ∧ Br (!r250) (C8 vw251 fun r253 vw254 =>
                          R r253 vw254) (0 ≤ s169 ∧ s169 < (l1.len : Nat) ∧ Nn l1.p fun a255 =>
                        LdS vS252 (((a255.add ((s169).toNat * 9)).add 2).add 1) (Value.int .i64) fun (x256 : Int) =>
                        C21 x256 vw251 fun r257 vw258 =>
                          Br (!r257) (C8 vw258 fun r259 vw260 =>
                              R r259 vw260) (I171 (IntKind.i64.wrap (s169 + 1)) vw258))))))) (0 ≤ s166 ∧ s166 < (l1.len : Nat) ∧ Nn l1.p fun a261 =>
        LdS vS172 ((a261.add ((s166).toNat * 9)).add 2) (Value.int .i64) fun (x262 : Int) =>
        C21 x262 vw170.drew fun r263 vw264 =>
          ∃ vS265 : World → Prop, vS265 vw264 ∧ Br (!r263) (∃ vS266 : World → Prop, vS266 vw264 ∧ ∃ vS267 : World → Prop, vS267 vw264 ∧ C8 vw264 fun r268 vw269 =>
              R r268 vw269) (0 ≤ s166 ∧ s166 < (l1.len : Nat) ∧ Nn l1.p fun a270 =>
            LdS vS265 (((a270.add ((s166).toNat * 9)).add 2).add 1) (Value.int .i64) fun (x271 : Int) =>
            C21 x271 vw264 fun r272 vw273 =>
              ∃ vS274 : World → Prop, vS274 vw273 ∧ Br (!r272) (∃ vS275 : World → Prop, vS275 vw273 ∧ C8 vw273 fun r276 vw277 =>
                  R r276 vw277) (0 ≤ s169 ∧ s169 < (l1.len : Nat) ∧ Nn l1.p fun a278 =>
                LdS vS274 ((a278.add ((s169).toNat * 9)).add 2) (Value.int .i64) fun (x279 : Int) =>
                C21 x279 vw273 fun r280 vw281 =>
                  ∃ vS282 : World → Prop, vS282 vw281 ∧ Br (!r280) (C8 vw281 fun r283 vw284 =>
                      R r283 vw284) (0 ≤ s169 ∧ s169 < (l1.len : Nat) ∧ Nn l1.p fun a285 =>
                    LdS vS282 (((a285.add ((s169).toNat * 9)).add 2).add 1) (Value.int .i64) fun (x286 : Int) =>
                    C21 x286 vw281 fun r287 vw288 =>
                      Br (!r287) (C8 vw288 fun r289 vw290 =>
                          R r289 vw290) (I171 (IntKind.i64.wrap (s169 + 1)) vw288)))))) (0 ≤ s166 ∧ s166 < (l1.len : Nat) ∧ Nn l1.p fun a291 =>
      LdS vS172 ((a291.add ((s166).toNat * 9)).add 2) (Value.int .i64) fun (x292 : Int) =>
      C21 x292 vw170.drew fun r293 vw294 =>
        ∃ vS295 : World → Prop, vS295 vw294 ∧ Br (!r293) (∃ vS296 : World → Prop, vS296 vw294 ∧ ∃ vS297 : World → Prop, vS297 vw294 ∧ C8 vw294 fun r298 vw299 =>
            R r298 vw299) (0 ≤ s166 ∧ s166 < (l1.len : Nat) ∧ Nn l1.p fun a300 =>
          LdS vS295 (((a300.add ((s166).toNat * 9)).add 2).add 1) (Value.int .i64) fun (x301 : Int) =>
          C21 x301 vw294 fun r302 vw303 =>
            ∃ vS304 : World → Prop, vS304 vw303 ∧ Br (!r302) (∃ vS305 : World → Prop, vS305 vw303 ∧ C8 vw303 fun r306 vw307 =>
                R r306 vw307) (0 ≤ s169 ∧ s169 < (l1.len : Nat) ∧ Nn l1.p fun a308 =>
              LdS vS304 ((a308.add ((s169).toNat * 9)).add 2) (Value.int .i64) fun (x309 : Int) =>
              C21 x309 vw303 fun r310 vw311 =>
                ∃ vS312 : World → Prop, vS312 vw311 ∧ Br (!r310) (C8 vw311 fun r313 vw314 =>
                    R r313 vw314) (0 ≤ s169 ∧ s169 < (l1.len : Nat) ∧ Nn l1.p fun a315 =>
                  LdS vS312 (((a315.add ((s169).toNat * 9)).add 2).add 1) (Value.int .i64) fun (x316 : Int) =>
                  C21 x316 vw311 fun r317 vw318 =>
                    Br (!r317) (C8 vw318 fun r319 vw320 =>
                        R r319 vw320) (I171 (IntKind.i64.wrap (s169 + 1)) vw318)))))) (I168 (IntKind.i64.wrap (s166 + 1)) vw170)
def S7L2 (l1 : Slc) (r341 : Slc) (r343 : Slc) (R : Bool → World → Prop) (I366 : Int → World → Prop) (s364 : Int) (vw365 : World) : Prop :=
  Br (decide (s364 < ((r341.len : Nat) : Int))) (0 ≤ s364 ∧ s364 < (r341.len : Nat) ∧ Nn r341.p fun a367 =>
    Ld vw365.drew ((a367.add ((s364).toNat * 5)).add 1) (Value.int .i64) fun (x368 : Int) =>
    Ld vw365.drew (((a367.add ((s364).toNat * 5)).add 1).add 1) (Value.int .i64) fun (x369 : Int) =>
    Ld vw365.drew (((a367.add ((s364).toNat * 5)).add 1).add 2) (Value.int .i64) fun (x370 : Int) =>
    Ld vw365.drew (((a367.add ((s364).toNat * 5)).add 1).add 3) (Value.int .i64) fun (x371 : Int) =>
    0 ≤ s364 ∧ s364 < (r343.len : Nat) ∧ Nn r343.p fun a372 =>
    Ld vw365.drew ((a372.add ((s364).toNat * 5)).add 1) (Value.int .i64) fun (x373 : Int) =>
    Ld vw365.drew (((a372.add ((s364).toNat * 5)).add 1).add 1) (Value.int .i64) fun (x374 : Int) =>
    Ld vw365.drew (((a372.add ((s364).toNat * 5)).add 1).add 2) (Value.int .i64) fun (x375 : Int) =>
    Ld vw365.drew (((a372.add ((s364).toNat * 5)).add 1).add 3) (Value.int .i64) fun (x376 : Int) =>
    Br (!((x368 == x373) && ((x369 == x374) && ((x370 == x375) && ((x371 == x376) && true))))) (R false vw365.drew) (0 ≤ s364 ∧ s364 < (r341.len : Nat) ∧ Nn r341.p fun a377 =>
      Ld vw365.drew (a377.add ((s364).toNat * 5)) Slc.v fun (x378 : Slc) =>
      0 ≤ s364 ∧ s364 < (r343.len : Nat) ∧ Nn r343.p fun a379 =>
      Ld vw365.drew (a379.add ((s364).toNat * 5)) Slc.v fun (x380 : Slc) =>
      Br (((x378.len : Nat) : Int) != ((x380.len : Nat) : Int)) (C22 l1 vw365.drew fun r381 vw382 =>
          Br r381 (R false vw382) (I366 (IntKind.i64.wrap (s364 + 1)) vw382)) (I366 (IntKind.i64.wrap (s364 + 1)) vw365.drew))) (C22 l1 vw365 fun r383 vw384 =>
      Br (!r383) (C8 vw384 fun r385 vw386 =>
          R r385 vw386) (C13 r341 r343 vw384 fun r387 vw388 =>
          Br r387 (C8 vw388 fun r389 vw390 =>
              R r389 vw390) (R false vw388)))
def S7L3 (l1 : Slc) (vat2 : Int) (R : Bool → World → Prop) (I333 : (Slc × Int) → World → Prop) (s331 : Slc × Int) (vw332 : World) : Prop :=
  Br (decide (s331.2 < ((l1.len : Nat) : Int))) (Lt (IntKind.i64.wrap ((IntKind.i64.wrap ((IntKind.i64.wrap (2 * ((l1.len : Nat) : Int))) - 1)) - s331.2)) fun (x334 : Int) =>
    ((l1.len : Nat) : Int) ≠ 0 ∧ Lt (Int.tmod (IntKind.i64.wrap (x334 + (Int.tmod (IntKind.i64.wrap vat2) ((l1.len : Nat) : Int)))) ((l1.len : Nat) : Int)) fun (x335 : Int) =>
    0 ≤ x335 ∧ x335 < (l1.len : Nat) ∧ Nn l1.p fun a336 =>
    LdT vw332 (a336.add ((x335).toNat * 9)) 0 LiA31 fun (x337 : TyA31) =>
    Nw vw332 (.cells #[.int .i64 (x337.1), .string x337.2.1, .int .i64 (x337.2.2.1), .int .i64 (x337.2.2.2.1), .int .i64 (x337.2.2.2.2.1), .int .i64 (x337.2.2.2.2.2.1), .int .i64 (x337.2.2.2.2.2.2.1), .string x337.2.2.2.2.2.2.2.1, .int .i64 (x337.2.2.2.2.2.2.2.2)] 32) fun vw338 =>
    Rn Tryd.prog (Builtin.append_ #[22, 22] 22 #[Slc.v s331.1, Slc.v ((⟨some ⟨vw332.heap.size, 0, none⟩, 1, 1⟩ : Slc))]) vw338 Slc.v fun (x339 : Slc) vw340 =>
    I333 (x339, IntKind.i64.wrap (s331.2 + 1)) vw340) (C9 l1 vw332 fun r341 vw342 =>
      C9 s331.1 vw342 fun r343 vw344 =>
        Br (((r341.len : Nat) : Int) != ((r343.len : Nat) : Int)) (R false vw344) (Lp (σ := Int) (S7L2 l1 r341 r343 R) 0 vw344))
def S7L4 (l1 : Slc) (vat2 : Int) (R : Bool → World → Prop) (I168 : Int → World → Prop) (s166 : Int) (vw167 : World) : Prop :=
  Br (decide (s166 < ((l1.len : Nat) : Int))) (Lp (σ := Int) (S7L1 l1 s166 I168 R) 0 vw167) (((l1.len : Nat) : Int) ≠ 0 ∧ Lp (σ := Slc × Int) (S7L3 l1 vat2 R) ((⟨none, 0, 0⟩ : Slc), 0) vw167)
/-- foliant/foliantlaw50.OrderList -/
def S7 (l1 : Slc) (vat2 : Int) (w : World) (R : Bool → World → Prop) : Prop :=
  Br (decide (((l1.len : Nat) : Int) > 80)) (C8 w fun r7 vw8 =>
      R r7 vw8) (Br (((l1.len : Nat) : Int) == 0) (C8 w fun r9 vw10 =>
        R r9 vw10) (Lp (σ := Int) (S7L4 l1 vat2 R) 0 w))
def pl7 : Plan := (.seq (.reg .seq) (.seq (.seq (.reg .seq) (.cond (.seq (.reg .seq) .leaf) .leaf)) (.seq (.seq (.reg .seq) (.block (.loop [(5, (.one (.int .i64)))] [0, 1] (.seq (.seq (.reg .seq) (.cond .leaf .leaf)) (.seq (.block (.seq (.reg .seq) (.block (.loop [(6, (.one (.int .i64)))] [0, 1, 5] (.seq (.seq (.reg .seq) (.cond .leaf .leaf)) (.seq (.block (.seq (.reg (.held [62] (.take 0 (.take 1 (.take 2 (.take 3 (.take 4 (.take 5 (.take 6 (.take 7 (.take 8 (.take 9 (.take 10 (.take 11 (.take 12 (.take 13 (.take 14 (.take 15 (.take 16 (.take 17 (.take 18 (.take 19 (.take 20 (.take 21 (.take 22 (.take 23 (.take 24 (.take 25 (.take 26 (.take 27 (.take 28 (.take 29 (.take 30 (.take 31 (.take 32 (.take 33 (.take 34 (.take 35 (.take 36 (.take 37 (.take 38 (.take 39 (.take 40 (.take 41 (.take 42 (.take 43 (.take 44 (.take 45 (.take 46 (.take 47 (.take 48 (.take 49 (.take 50 (.take 51 (.take 52 (.take 53 (.take 54 (.take 55 (.take 56 (.take 57 (.take 58 (.take 59 (.take 60 (.take 61 (.eff 62 (some [72]) (.take 63 (.take 64 (.take 65 (.take 66 (.take 67 (.take 68 (.take 69 (.take 70 (.take 71 (.eff 72 (some [82]) (.take 73 (.take 74 (.take 75 (.take 76 (.take 77 (.take 78 (.take 79 (.take 80 (.take 81 (.eff 82 (some [92]) (.take 83 (.take 84 (.take 85 (.take 86 (.take 87 (.take 88 (.take 89 (.take 90 (.take 91 (.eff 92 (some []) (.take 93 (.take 94 .done))))))))))))))))))))))))))))))))))))))))))))))))))))))))))))))))))))))))))))))))))))))))))))))))) (.cond (.seq (.reg .seq) .leaf) .leaf))) (.reg .seq))))))) (.reg .seq)))))) (.seq (.reg .seq) (.seq (.reg .seq) (.seq (.seq (.reg .seq) (.block (.loop [(8, (.one .slc)), (9, (.one (.int .i64)))] [0, 7] (.seq (.seq (.reg .seq) (.cond .leaf .leaf)) (.seq (.block (.reg .seq)) (.reg .seq)))))) (.seq (.reg .seq) (.seq (.seq (.reg .seq) (.cond (.seq (.reg .seq) .leaf) .leaf)) (.seq (.seq (.reg .seq) (.block (.loop [(12, (.one (.int .i64)))] [0, 10, 11] (.seq (.seq (.reg .seq) (.cond .leaf .leaf)) (.seq (.block (.seq (.reg (.tail 27)) (.cond (.seq (.reg .seq) .leaf) .leaf))) (.reg .seq)))))) (.seq (.reg .seq) .leaf))))))))))
set_option maxRecDepth 100000 in
theorem T7 (l1 : Slc) (vat2 : Int) (w : World) (R : Bool → World → Prop) (h : S7 l1 vat2 w R) : C7 l1 vat2 w R := by
  have e : fnT Tryd.prog ⟨FF, MAY, (fun _ _ => False)⟩ pl7 Tryd.f7 [Slc.v l1, .int .u8 vat2] w [(.one .bool)] (fun s w => R s w) = S7 l1 vat2 w R := by kernel_rfl
  exact (fn_calls okF okM Tryd.func7 (by kernel_rfl) (by kernel_rfl) (e.mpr h)).mono fun _ _ ⟨s, he, hR⟩ => ⟨s, he, hR⟩

end Go.Proofs.YtodhdkbhmkinjaaDoor
