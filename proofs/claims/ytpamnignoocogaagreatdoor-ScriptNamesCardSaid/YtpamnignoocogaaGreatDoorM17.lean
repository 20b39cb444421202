import Derived.Test.YtpamnignoocogaaGreatDoorM15
import Derived.Lib.SlTrimSet
import Derived.Lib.Atoi
import Derived.Shelf.Strings.Prefix
import Derived.Shelf.Slices.Turned
import Derived.Test.YtpamnignoocogaaGreatDoorTy
import Derived.Test.YtpamnignoocogaaGreatDoorSw
import Derived.Shelf.Strings.SlTrimAscii
import Derived.Shelf.Strconv.Atoi
import Derived.WalkKit
import Derived.Test.YtpamnignoocogaaGreatDoorProg
import Derived.Test.YtpamnignoocogaaGreatDoorM16
import Derived.Test.YtpamnignoocogaaGreatDoorM13
import Derived.Test.YtpamnignoocogaaGreatDoorM12
import Derived.Test.YtpamnignoocogaaGreatDoorM11
import Derived.Test.YtpamnignoocogaaGreatDoorM06
import Derived.Test.YtpamnignoocogaaGreatDoorM04
section
namespace Go.Proofs
open Go.Ab
noncomputable def gp (x0 : ByteArray) (x1 : ByteArray) : Option Bool :=
 need (Under (leqI (lenS x1) (lenS x0)) true (CutB 0 (lenS x1) (lenS x0))) <|
 some (pickB (leqI (lenS x1) (lenS x0)) (eqS (cutS x0 0 (lenS x1)) x1) false)
noncomputable def gP (x0 : ByteArray) (x1 : ByteArray) : Option Bool :=
 ((gp x0 x1)).bind fun r1 =>
 some r1
noncomputable def gaa (x0 : Int) : Option Int :=
 bif (pickB (pickB (eqI x0 45) true (eqI x0 95)) true (eqI x0 46)) then (
  some 3
 ) else (
   need (I32B x0) <|
   bif (letterR x0) then (
    some 1
   ) else (
     need (I32B x0) <|
     bif (digitR x0) then (
      some 2
     ) else (
       some 0
     )
   )
 )
noncomputable def gC.loop1 (x0 : ByteArray) (s1 : Int × Int × Nat) : Option (Fl (Int × Int × Nat) (Fl (Int × Int) Int)) :=
 bif (nextB x0 s1.2.2) then (
  ((gaa (runeS x0 s1.2.2))).bind fun r1 =>
  need (Under (eqI (runeS x0 s1.2.2) 65533) true (Under (pickB (eqI r1 0) true (pickB (eqI r1 3) (eqI s1.2.1 3) false)) false (CutB (posI s1.2.2) (lenS x0) (lenS x0)))) <|
  need (Under (eqI (runeS x0 s1.2.2) 65533) true (Under (pickB (eqI r1 0) true (pickB (eqI r1 3) (eqI s1.2.1 3) false)) false ((gP (cutS x0 (posI s1.2.2) (lenS x0)) ⟨#[239, 191, 189]⟩).isSome = true))) <|
  bif (pickB (pickB (eqI r1 0) true (pickB (eqI r1 3) (eqI s1.2.1 3) false)) true (pickB (eqI (runeS x0 s1.2.2) 65533) (notB ((gP (cutS x0 (posI s1.2.2) (lenS x0)) ⟨#[239, 191, 189]⟩).getD dflt)) false)) then (
   some (.out (.out 6))
  ) else (
    some (.go ((addI .i64 s1.1 1), r1, (stepS x0 s1.2.2)))
  )
 ) else (
   some (.out (.go (s1.1, s1.2.1)))
 )
noncomputable def gC (x0 : ByteArray) : Option Int :=
 bif (pickB (eqS x0 ⟨#[]⟩) true (ltI 64 (lenS x0))) then (
  some 6
 ) else (
   ((loopF (gC.loop1 x0) (0, 3, 0)).bind fun f => flC f fun (v1 : Int × Int) =>
     bif (pickB (ltI 16 v1.1) true (eqI v1.2 3)) then (
      some 6
     ) else (
       some 0
     )
   )
 )
end Go.Proofs
end
section
namespace Go.Ab
def trimB (s c : ByteArray) : ByteArray := ⟨(Lib.trimS s.data.toList c.data.toList).toArray⟩
def AsciiB (c : ByteArray) : Prop := c.size < 4294967281 ∧ c.data.toList.all (fun b => decide (b.toNat < 128)) = true
def hasT (l : List ByteArray) (x : ByteArray) : Bool := Lib.containsS l x
end Go.Ab
end
section
namespace Go.Proofs
open Go.Ab
@[simp] def gZ.out  (r : Bool) : Out := { av := .lit (.bool r), M := none }
set_option maxHeartbeats 4000000 in
set_option maxRecDepth 100000 in
theorem gZ.can  (r : Bool) (hr : gZ = some r) : CallOk Tryz.prog 9 [] [] (gZ.out  r) := by
 unfold gZ at hr;obtain ⟨r1, h1, hr⟩ := Ld (show (gaq ).bind (fun r1 => some r1) = some r from hr);obtain rfl := La hr;exact gaq.can  _ h1
@[simp] noncomputable def gZ.S : Sp
  | [], _ => some { av := .lit (.bool (gZ.getD dflt)), M := none, obl := gZ.isSome = true }
  | _, _ => none
set_option maxHeartbeats 1000000 in
theorem gZ.ok : SpecOk Tryz.prog 9 gZ.S := by
 intro l M out h;unfold gZ.S at h;split at h
 ·cases h;refine callOk_of fun ho => ?_;have hs := ho;obtain ⟨r, hr⟩ := so1 hs;simp only [hr, gd1];have q := Lh (M := M) [] (gZ.can r hr) (by simp) rfl ixn;exact callOk_conv q trivial (by simp) (by simp [frameOut]) (by simp [frameOut])
 ·cases h
end Go.Proofs
end
section
namespace Go.Proofs
open Go.Shelf
def Tryz.laysTrim_ren : Go.Shelf.Ren := ⟨fun | 160 => 94 | 232 => 134 | 231 => 133 | 227 => 135 | 234 => 137 | 233 => 136 | 236 => 139 | 235 => 138 | 228 => 194 | 271 => 196 | 151 => 195 | 197 => 112 | 120 => 282 | 152 => 281 | 260 => 148 | 137 => 56 | 119 => 365 | 224 => 150 | 225 => 149 | 217 => 92 | 266 => 132 | n => n, fun | 9 => 9 | 4 => 4 | 3 => 3 | 5 => 5 | 117 => 219 | 116 => 218 | 0 => 0 | 124 => 222 | 21 => 21 | 105 => 188 | 46 => 85 | 119 => 173 | 139 => 349 | 138 => 348 | n => n, fun | 3 => 5 | 4 => 6 | n => n⟩
theorem Tryz.laysTrim : Go.Proofs.Lays.n160 Tryz.prog Tryz.laysTrim_ren := {
 mixed := by kernel_rfl
 f119 := Tryz.func365.trans (congrArg some (by kernel_rfl))
 f120 := Tryz.func282.trans (congrArg some (by kernel_rfl))
 f137 := Tryz.func56.trans (congrArg some (by kernel_rfl))
 f151 := Tryz.func195.trans (congrArg some (by kernel_rfl))
 f152 := Tryz.func281.trans (congrArg some (by kernel_rfl))
 f160 := Tryz.func94.trans (congrArg some (by kernel_rfl))
 f197 := Tryz.func112.trans (congrArg some (by kernel_rfl))
 f217 := Tryz.func92.trans (congrArg some (by kernel_rfl))
 f224 := Tryz.func150.trans (congrArg some (by kernel_rfl))
 f225 := Tryz.func149.trans (congrArg some (by kernel_rfl))
 f227 := Tryz.func135.trans (congrArg some (by kernel_rfl))
 f228 := Tryz.func194.trans (congrArg some (by kernel_rfl))
 f231 := Tryz.func133.trans (congrArg some (by kernel_rfl))
 f232 := Tryz.func134.trans (congrArg some (by kernel_rfl))
 f233 := Tryz.func136.trans (congrArg some (by kernel_rfl))
 f234 := Tryz.func137.trans (congrArg some (by kernel_rfl))
 f235 := Tryz.func138.trans (congrArg some (by kernel_rfl))
 f236 := Tryz.func139.trans (congrArg some (by kernel_rfl))
 f260 := Tryz.func148.trans (congrArg some (by kernel_rfl))
 f266 := Tryz.func132.trans (congrArg some (by kernel_rfl))
 f271 := Tryz.func196.trans (congrArg some (by kernel_rfl))
 t0 := Tryz.underlying0
 a0 := Tryz.isAgg0
 z0 := Tryz.sizeOf0
 v0 := Tryz.zeroValue0
 t3 := Tryz.underlying3
 a3 := Tryz.isAgg3
 z3 := Tryz.sizeOf3
 v3 := Tryz.zeroValue3
 t4 := Tryz.underlying4
 a4 := Tryz.isAgg4
 z4 := Tryz.sizeOf4
 v4 := Tryz.zeroValue4
 t5 := Tryz.underlying5
 a5 := Tryz.isAgg5
 z5 := Tryz.sizeOf5
 v5 := Tryz.zeroValue5
 t9 := Tryz.underlying9
 a9 := Tryz.isAgg9
 z9 := Tryz.sizeOf9
 v9 := Tryz.zeroValue9
 t21 := Tryz.underlying21
 a21 := Tryz.isAgg21
 z21 := Tryz.sizeOf21
 v21 := Tryz.zeroValue21
 t46 := Tryz.underlying85
 a46 := Tryz.isAgg85
 z46 := Tryz.sizeOf85
 v46 := Tryz.zeroValue85
 t105 := Tryz.underlying188
 a105 := Tryz.isAgg188
 z105 := Tryz.sizeOf188
 v105 := Tryz.zeroValue188
 t116 := Tryz.underlying218
 a116 := Tryz.isAgg218
 z116 := Tryz.sizeOf218
 t117 := Tryz.underlying219
 a117 := Tryz.isAgg219
 z117 := Tryz.sizeOf219
 v117 := Tryz.zeroValue219
 t119 := Tryz.underlying173
 a119 := Tryz.isAgg173
 z119 := Tryz.sizeOf173
 t124 := Tryz.underlying222
 a124 := Tryz.isAgg222
 z124 := Tryz.sizeOf222
 v124 := Tryz.zeroValue222
 t138 := Tryz.underlying348
 a138 := Tryz.isAgg348
 z138 := Tryz.sizeOf348
 v138 := Tryz.zeroValue348
 t139 := Tryz.underlying349
 a139 := Tryz.isAgg349
 z139 := Tryz.sizeOf349
 v139 := Tryz.zeroValue349
 g3 := by kernel_rfl
 g4 := by kernel_rfl }
def Tryz.laysHas_ren : Go.Shelf.Ren := ⟨fun | 110 => 32 | 109 => 58 | n => n, fun | 31 => 27 | 9 => 9 | 4 => 4 | 3 => 3 | 0 => 0 | n => n, fun | n => n⟩
theorem Tryz.laysHas : Go.Proofs.Lays.n110 Tryz.prog Tryz.laysHas_ren := {
 mixed := by kernel_rfl
 f109 := Tryz.func58.trans (congrArg some (by kernel_rfl))
 f110 := Tryz.func32.trans (congrArg some (by kernel_rfl))
 t0 := Tryz.underlying0
 a0 := Tryz.isAgg0
 z0 := Tryz.sizeOf0
 v0 := Tryz.zeroValue0
 t3 := Tryz.underlying3
 a3 := Tryz.isAgg3
 z3 := Tryz.sizeOf3
 v3 := Tryz.zeroValue3
 t4 := Tryz.underlying4
 a4 := Tryz.isAgg4
 z4 := Tryz.sizeOf4
 v4 := Tryz.zeroValue4
 t9 := Tryz.underlying9
 a9 := Tryz.isAgg9
 z9 := Tryz.sizeOf9
 v9 := Tryz.zeroValue9
 t31 := Tryz.underlying27
 a31 := Tryz.isAgg27
 z31 := Tryz.sizeOf27
 v31 := Tryz.zeroValue27 }
def Tryz.laysAtoi_ren : Go.Shelf.Ren := ⟨fun | 172 => 95 | 244 => 140 | 245 => 141 | 247 => 197 | 279 => 198 | 280 => 199 | 281 => 200 | 282 => 201 | 287 => 283 | 316 => 284 | 171 => 130 | 205 => 285 | 321 => 366 | 322 => 367 | 243 => 193 | 246 => 280 | 283 => 361 | 284 => 362 | 285 => 363 | 286 => 364 | 129 => 400 | 317 => 425 | 318 => 426 | 319 => 427 | 320 => 428 | 337 => 458 | 338 => 459 | n => n, fun | 9 => 9 | 3 => 3 | 75 => 83 | 76 => 141 | 4 => 4 | 5 => 5 | 167 => 335 | 37 => 77 | 0 => 0 | 85 => 336 | 2 => 2 | 168 => 338 | 53 => 114 | 175 => 451 | 46 => 85 | 210 => 454 | 127 => 118 | 145 => 571 | 143 => 569 | 21 => 21 | 171 => 563 | 173 => 566 | 212 => 640 | 51 => 116 | 20 => 20 | 213 => 641 | 232 => 672 | 233 => 673 | 80 => 86 | n => n, fun | 15 => 7 | 16 => 8 | 17 => 9 | 18 => 10 | 19 => 11 | n => n⟩
theorem Tryz.laysAtoi : Go.Proofs.Lays.n172 Tryz.prog Tryz.laysAtoi_ren := {
 mixed := by kernel_rfl
 f129 := Tryz.func400.trans (congrArg some (by kernel_rfl))
 f171 := Tryz.func130.trans (congrArg some (by kernel_rfl))
 f172 := Tryz.func95.trans (congrArg some (by kernel_rfl))
 f205 := Tryz.func285.trans (congrArg some (by kernel_rfl))
 f243 := Tryz.func193.trans (congrArg some (by kernel_rfl))
 f244 := Tryz.func140.trans (congrArg some (by kernel_rfl))
 f245 := Tryz.func141.trans (congrArg some (by kernel_rfl))
 f246 := Tryz.func280.trans (congrArg some (by kernel_rfl))
 f247 := Tryz.func197.trans (congrArg some (by kernel_rfl))
 f279 := Tryz.func198.trans (congrArg some (by kernel_rfl))
 f280 := Tryz.func199.trans (congrArg some (by kernel_rfl))
 f281 := Tryz.func200.trans (congrArg some (by kernel_rfl))
 f282 := Tryz.func201.trans (congrArg some (by kernel_rfl))
 f283 := Tryz.func361.trans (congrArg some (by kernel_rfl))
 f284 := Tryz.func362.trans (congrArg some (by kernel_rfl))
 f285 := Tryz.func363.trans (congrArg some (by kernel_rfl))
 f286 := Tryz.func364.trans (congrArg some (by kernel_rfl))
 f287 := Tryz.func283.trans (congrArg some (by kernel_rfl))
 f316 := Tryz.func284.trans (congrArg some (by kernel_rfl))
 f317 := Tryz.func425.trans (congrArg some (by kernel_rfl))
 f318 := Tryz.func426.trans (congrArg some (by kernel_rfl))
 f319 := Tryz.func427.trans (congrArg some (by kernel_rfl))
 f320 := Tryz.func428.trans (congrArg some (by kernel_rfl))
 f321 := Tryz.func366.trans (congrArg some (by kernel_rfl))
 f322 := Tryz.func367.trans (congrArg some (by kernel_rfl))
 f337 := Tryz.func458.trans (congrArg some (by kernel_rfl))
 f338 := Tryz.func459.trans (congrArg some (by kernel_rfl))
 t0 := Tryz.underlying0
 a0 := Tryz.isAgg0
 z0 := Tryz.sizeOf0
 v0 := Tryz.zeroValue0
 t2 := Tryz.underlying2
 a2 := Tryz.isAgg2
 z2 := Tryz.sizeOf2
 v2 := Tryz.zeroValue2
 t3 := Tryz.underlying3
 a3 := Tryz.isAgg3
 z3 := Tryz.sizeOf3
 v3 := Tryz.zeroValue3
 t4 := Tryz.underlying4
 a4 := Tryz.isAgg4
 z4 := Tryz.sizeOf4
 v4 := Tryz.zeroValue4
 t5 := Tryz.underlying5
 a5 := Tryz.isAgg5
 z5 := Tryz.sizeOf5
 v5 := Tryz.zeroValue5
 t9 := Tryz.underlying9
 a9 := Tryz.isAgg9
 z9 := Tryz.sizeOf9
 v9 := Tryz.zeroValue9
 t20 := Tryz.underlying20
 a20 := Tryz.isAgg20
 z20 := Tryz.sizeOf20
 v20 := Tryz.zeroValue20
 t21 := Tryz.underlying21
 a21 := Tryz.isAgg21
 z21 := Tryz.sizeOf21
 v21 := Tryz.zeroValue21
 t37 := Tryz.underlying77
 a37 := Tryz.isAgg77
 z37 := Tryz.sizeOf77
 v37 := Tryz.zeroValue77
 t46 := Tryz.underlying85
 a46 := Tryz.isAgg85
 z46 := Tryz.sizeOf85
 v46 := Tryz.zeroValue85
 t51 := Tryz.underlying116
 a51 := Tryz.isAgg116
 z51 := Tryz.sizeOf116
 v51 := Tryz.zeroValue116
 t53 := Tryz.underlying114
 a53 := Tryz.isAgg114
 z53 := Tryz.sizeOf114
 v53 := Tryz.zeroValue114
 t75 := Tryz.underlying83
 a75 := Tryz.isAgg83
 z75 := Tryz.sizeOf83
 v75 := Tryz.zeroValue83
 t76 := Tryz.underlying141
 a76 := Tryz.isAgg141
 z76 := Tryz.sizeOf141
 v76 := Tryz.zeroValue141
 t85 := Tryz.underlying336
 a85 := Tryz.isAgg336
 z85 := Tryz.sizeOf336
 v85 := Tryz.zeroValue336
 t127 := Tryz.underlying118
 a127 := Tryz.isAgg118
 z127 := Tryz.sizeOf118
 v127 := Tryz.zeroValue118
 t143 := Tryz.underlying569
 a143 := Tryz.isAgg569
 z143 := Tryz.sizeOf569
 v143 := Tryz.zeroValue569
 t145 := Tryz.underlying571
 a145 := Tryz.isAgg571
 z145 := Tryz.sizeOf571
 v145 := Tryz.zeroValue571
 t167 := Tryz.underlying335
 a167 := Tryz.isAgg335
 z167 := Tryz.sizeOf335
 v167 := Tryz.zeroValue335
 t168 := Tryz.underlying338
 a168 := Tryz.isAgg338
 z168 := Tryz.sizeOf338
 v168 := Tryz.zeroValue338
 t171 := Tryz.underlying563
 a171 := Tryz.isAgg563
 z171 := Tryz.sizeOf563
 v171 := Tryz.zeroValue563
 t173 := Tryz.underlying566
 a173 := Tryz.isAgg566
 z173 := Tryz.sizeOf566
 v173 := Tryz.zeroValue566
 t175 := Tryz.underlying451
 a175 := Tryz.isAgg451
 z175 := Tryz.sizeOf451
 v175 := Tryz.zeroValue451
 t210 := Tryz.underlying454
 a210 := Tryz.isAgg454
 z210 := Tryz.sizeOf454
 v210 := Tryz.zeroValue454
 t212 := Tryz.underlying640
 a212 := Tryz.isAgg640
 z212 := Tryz.sizeOf640
 v212 := Tryz.zeroValue640
 t213 := Tryz.underlying641
 a213 := Tryz.isAgg641
 z213 := Tryz.sizeOf641
 t232 := Tryz.underlying672
 a232 := Tryz.isAgg672
 z232 := Tryz.sizeOf672
 v232 := Tryz.zeroValue672
 t233 := Tryz.underlying673
 a233 := Tryz.isAgg673
 z233 := Tryz.sizeOf673
 v233 := Tryz.zeroValue673
 g15 := by kernel_rfl
 g16 := by kernel_rfl
 g17 := by kernel_rfl
 g18 := by kernel_rfl
 g19 := by kernel_rfl }
end Go.Proofs
end
section
set_option maxHeartbeats 4000000
namespace Go.Proofs
open Go.Ab
@[simp] def gV.out (_x0 : Int) (r : Int) : Out := { av := .lit (.int .i64 r), M := none }
set_option maxRecDepth 100000 in
theorem gV.can (x0 : Int) (r : Int) (hr : gV x0 = some r) : CallOk Tryz.prog 28 [.lit (.int .u8 x0)] [] (gV.out x0 r) := by
 unfold gV at hr;have hΓ := (gamL_cons gaz.ok (gamL_nil) : GamOk Tryz.prog _);refine cw Tryz.func28 rfl (by kernel_rfl) rfl rfl (by simp) fun _ _ _ => ?_;refine tq hΓ [] [] ?_;refine tq hΓ [2] [0] ?_;obtain rfl := La hr;exact AWp.ret (Le (by simp))
@[simp] noncomputable def gV.S : Sp
  | [.lit (.int .u8 x0)], _ => some { av := .lit (.int .i64 ((gV x0).getD dflt)), M := none, obl := (gV x0).isSome = true }
  | _, _ => none
theorem gV.ok : SpecOk Tryz.prog 28 gV.S := by
 intro l M out h;unfold gV.S at h;split at h
 ·rename_i x0;cases h;refine callOk_of fun ho => ?_;have hs := ho;obtain ⟨r, hr⟩ := so1 hs;simp only [hr, gd1];have q := Lh (M := M) [] (gV.can x0 r hr) (by simp) rfl ixn;exact callOk_conv q trivial (by simp) (by simp [frameOut]) (by simp [frameOut])
 ·cases h
@[simp] def gQ.out (_x0 : ByteArray) (r : ByteArray × Bool) : Out := { av := .tup [.lit (.string r.1), .lit (.bool r.2)], M := none }
def gQ.fin (x0 : ByteArray) (r : ByteArray × Bool) (σ : St) : Prop := finK (gQ.out x0 r) [] σ.M (resA Tryz.ty σ.A σ.M Tryz.f12.results.toList)
set_option maxRecDepth 100000 in
theorem gQ.can (x0 : ByteArray) (r : ByteArray × Bool) (hr : gQ x0 = some r) : CallOk Tryz.prog 12 [.lit (.string x0)] [] (gQ.out x0 r) := by
 unfold gQ at hr;have hΓ := (gamL_cons gV.ok (gamL_nil) : GamOk Tryz.prog _);refine cw Tryz.func12 rfl (by kernel_rfl) rfl rfl (by simp) fun _ _ _ => ?_;refine tq hΓ [] [] ?_;refine AWp.seq ?_;obtain ⟨h12, hr⟩ := Lb hr;refine tq hΓ [11] [] ?_ (by simp [h12]; exact rr);refine AWp.cnd hr (by simp) (fun h13 hr => ?_) (fun h13 hr => ?_)
 ·refine tq hΓ [2, 3] [11, 0] ?_ (by simp [h13]; exact rr);obtain rfl := La hr;exact AWp.ret (Le (by simp))
 ·refine AWp.skip ?_;obtain ⟨h14, hr⟩ := Lb hr;obtain ⟨h15, hr⟩ := Lb hr;refine tq hΓ [4] [11] ?_ (by simp [h12, h13, h15]; exact rr);refine AWp.seq ?_;refine tq hΓ [5] [] ?_ (by simp; exact rr);refine AWp.loopE (fun (s1 : Int × List Int) (γ1 : Nat) => ⟨[⟨5, none, .n s1.1⟩, ⟨4, none, .sl (s1.2.map (eNum .u8)) (.own 0 (γ1) 1)⟩, ⟨0, none, .s x0⟩], [.room (γ1)]⟩) (fun (v1 : List Int) (γ1a : Nat) => ⟨[⟨4, none, .sl (v1.map (eNum .u8)) (.own 0 (γ1a) 1)⟩], [.room (γ1a)]⟩) (gQ.fin x0) hr 1 1 (by simp) (fun s1 f γ1 hr => ?_) (fun v1 γ1a σ1 m1 hr hc => ?_) (fun _ h => h)
  ·unfold gQ.loop1 at hr;refine AWp.seq ?_;refine tq hΓ [19] [] ?_ (by simp; exact rr);refine AWp.cnd hr (by simp) (fun h16 hr => ?_) (fun h16 hr => ?_)
   ·refine AWp.skip ?_;refine AWp.seq ?_;refine AWp.block ?_;obtain ⟨h17, hr⟩ := Lb hr;obtain ⟨r1, h18, hr⟩ := Ld hr;obtain ⟨h19, hr⟩ := Lb hr;obtain ⟨r2, h20, hr⟩ := Ld hr;refine td hΓ [6, 7] [19] [] [(false, []), (false, []), (false, []), (false, []), (false, []), (false, []), (false, []), (false, []), (false, []), (false, []), (false, [])] (by simp [h16, h17, h18, h19, h20]; exact rr) ?_;refine AWp.seq ?_;refine tq hΓ [36] [] ?_ (by simp; exact rr);refine AWp.cnd hr (by simp) (fun h21 hr => ?_) (fun h21 hr => ?_)
    ·refine tq hΓ [2, 3] [36, 6, 7, 5, 4, 0] ?_ (by simp [h21]; exact rr);refine AWp.ret ?_;obtain rfl := La hr;refine round_ret ?_;refine Le ?_;simp
    ·refine AWp.skip ?_;obtain ⟨h22, hr⟩ := Lb hr;refine tl hΓ [4] [36, 6, 7] ?_ (by simp [h21, h22]; exact rr);refine tl hΓ [5] [] ?_ (by simp; exact rr);obtain rfl := La hr;exact Lo (γ1 + 1) 1 (by first | (simp; done) | simp [h12, h13, h14, h15, h16, h17, h18, h19, h20, h21, h22])
   ·refine AWp.exit ?_;obtain rfl := La hr;exact Lr (γ1) 1 (by first | (simp; done) | simp [h12, h13, h14, h15, h16])
  ·refine AWp.conv hc ?_;refine tq hΓ [2, 3] [4] ?_ (by simp; exact rr);obtain rfl := La hr;exact AWp.ret (Le (by simp))
@[simp] noncomputable def gQ.S : Sp
  | [.lit (.string x0)], _ => some { av := .tup [.lit (.string (((gQ x0).getD dflt).1)), .lit (.bool (((gQ x0).getD dflt).2))], M := none, obl := (gQ x0).isSome = true }
  | _, _ => none
theorem gQ.ok : SpecOk Tryz.prog 12 gQ.S := by
 intro l M out h;unfold gQ.S at h;split at h
 ·rename_i x0;cases h;refine callOk_of fun ho => ?_;have hs := ho;obtain ⟨r, hr⟩ := so1 hs;simp only [hr, gd1];have q := Lh (M := M) [] (gQ.can x0 r hr) (by simp) rfl ixn;exact callOk_conv q trivial (by simp) (by simp [frameOut]) (by simp [frameOut])
 ·cases h
end Go.Proofs
end
section
namespace Go.Proofs
open Go.Ab
end Go.Proofs
end
section
namespace Go.Proofs
open Go.Ab Go.Lib
theorem need_u {α : Type} {a b : Bool} {p : Prop} {x : Option α} (h : a = b → p) : need (Under a b p) x = x := Lf h
theorem need_s {α β : Type} {a b : Bool} {v : β} {x : Option α} : need (Under a b ((some v).isSome = true)) x = x := Lf fun _ => rfl
theorem need_ss {α β : Type} {a b c d : Bool} {v : β} {x : Option α} : need (Under a b (Under c d ((some v).isSome = true))) x = x := Lf fun _ _ => rfl
noncomputable def clsR (r : Int) : Int := if r = 45 ∨ r = 95 ∨ r = 46 then 3 else bif letterR r then 1 else bif digitR r then 2 else 0
theorem class_d {r : Int} (h : I32B r) : gaa r = some (clsR r) := by
 have hb : ((decide (r = 45) || decide (r = 95)) || decide (r = 46)) = decide (r = 45 ∨ r = 95 ∨ r = 46) := by
  simp [Bool.decide_or, Bool.or_assoc]
 simp only [gaa, clsR, pickB_or, eqI_d, Lf h, hb];by_cases hj : r = 45 ∨ r = 95 ∨ r = 46
 ·simp [hj]
 ·simp only [hj, decide_false, cond_false, if_false];cases letterR r <;> cases digitR r <;> rfl
theorem class_d' {r : Int} (h : I32B r) : gW r = some (clsR r) := class_d h
theorem cls_bad : clsR 65533 = 0 := by
 have h1 : letterR 65533 = false := by unfold letterR; decide +kernel
 have h2 : digitR 65533 = false := by unfold digitR; decide +kernel
 unfold clsR;rw [if_neg (by omega), h1, h2];rfl
noncomputable def okFrom : Int → List Int → Bool
 | _, [] => true
 | p, r :: l => decide (clsR r ≠ 0) && !(decide (clsR r = 3) && (decide (p = 3) || l.isEmpty)) && okFrom (clsR r) l
noncomputable def okRun : Int → List Int → Option Int
 | k, [] => some k
 | k, r :: l => if clsR r = 0 ∨ (clsR r = 3 ∧ k = 3) then none else okRun (clsR r) l
noncomputable def goodB (l : List Int) : Bool := decide (1 ≤ l.length) && decide (l.length ≤ 16) && okFrom 3 l
theorem okFrom_run : ∀ (l : List Int) (p : Int), l ≠ [] → okFrom p l = match okRun p l with | some k => decide (k ≠ 3) | none => false
 | [], _, h => absurd rfl h
 | [r], p, _ => by
   unfold okFrom okRun okFrom okRun;by_cases h0 : clsR r = 0
   ·simp [h0]
   ·by_cases h3 : clsR r = 3
    ·by_cases hp : p = 3 <;> simp [h3, hp]
    ·simp [h0, h3]
 | r :: r' :: l, p, _ => by
   rw [okFrom, okRun];have ih := okFrom_run (r' :: l) (clsR r) (by simp);by_cases h0 : clsR r = 0
   ·simp [h0]
   ·by_cases h3 : clsR r = 3
    ·by_cases hp : p = 3
     ·simp [h3, hp]
     ·rw [ih]; simp [h3, hp]
    ·rw [ih]; simp [h0, h3]
theorem okFrom_bad : ∀ (l : List Int) (p : Int), 65533 ∈ l → okFrom p l = false
 | [], _, h => by cases h
 | r :: l, p, h => by
   rw [okFrom];rcases List.mem_cons.1 h with h | h
   ·subst h; simp [cls_bad]
   ·rw [okFrom_bad l _ h]; simp
theorem good_no {l : List Int} (h : goodB l = true) : 65533 ∉ l := fun q => by
 unfold goodB at h;rw [okFrom_bad l 3 q] at h;simp at h
theorem check_loop : ∀ (m : Nat) (s : ByteArray) (pos : Nat) (n k : Int), (restS s pos).length ≤ m → 0 ≤ n → n + m ≤ 1000000000 →
  loopF (gC.loop1 s) (n, k, pos) = some (match okRun k (scan s pos) with | none => .out 6 | some k' => .go (n + (scan s pos).length, k')) := by
 intro m
 induction m with
 | zero =>
   intro s pos n k hm _ _;have h : restS s pos = [] := List.eq_nil_of_length_eq_zero (by omega);rw [loopF_eq];simp only [gC.loop1, nextB_f h, cond_false, scan_f h, okRun];simp
 | succ m ih =>
   intro s pos n k hm hn hb;by_cases h : restS s pos = []
   ·rw [loopF_eq];simp only [gC.loop1, nextB_f h, cond_false, scan_f h, okRun];simp
   rw [loopF_eq, scan_t h, okRun];simp only [gC.loop1, nextB_t h, cond_true, class_d (rune_I32 s pos), Lg];generalize hc : clsR (runeS s pos) = c;have hr : runeS s pos = 65533 → c = 0 := fun e => by rw [← hc, e, cls_bad]
   by_cases hbad : c = 0 ∨ (c = 3 ∧ k = 3)
   ·have e : pickB (eqI c 0) true (pickB (eqI c 3) (eqI k 3) false) = true := by
     rw [pickB_or, pickB_and, eqI_d, eqI_d, eqI_d];rcases hbad with h | h
     ·simp [h]
     ·simp [h.1, h.2]
    rw [if_pos hbad, e, need_u (fun _ q => by cases q), need_u (fun _ q => by cases q)];rfl
   ·have e : pickB (eqI c 0) true (pickB (eqI c 3) (eqI k 3) false) = false := by
     rw [pickB_or, pickB_and, eqI_d, eqI_d, eqI_d];have h1 : c ≠ 0 := fun q => hbad (.inl q);by_cases h3 : c = 3
     ·have h2 : k ≠ 3 := fun q => hbad (.inr ⟨h3, q⟩);simp [h3, h2]
     ·simp [h1, h3]
    have hr' : eqI (runeS s pos) 65533 = false := eqI_f fun q => hbad (.inl (hr q));rw [if_neg hbad, e, hr', need_u (fun q => by cases q), need_u (fun q => by cases q)];have hst := step_gt s pos;have hl := restS_len s pos;have hl' := restS_len s (stepS s pos);have hpos := List.length_pos_iff.2 h;simp only [pickB, cond_false, addI_n (show -9223372036854775808 ≤ n + 1 by omega) (by omega)];rw [ih s (stepS s pos) (n + 1) c (by omega) (by omega) (by omega)];have e2 : n + 1 + ((scan s (stepS s pos)).length : Int) = n + (((runeS s pos :: scan s (stepS s pos)).length : Nat) : Int) := by simp only [List.length_cons]; omega
    rw [e2]
theorem check_d {s : ByteArray} (hs : s.size ≤ 1000000) : gC s = some (if goodB (scan s 0) = true then 0 else 6) := by
 have hlen := scan_len s 0;have hb0 : restS s 0 = bytesOf s := rfl;have hbl := bytesOf_len s;unfold gC;by_cases h0 : bytesOf s = []
 ·have e : eqS s ⟨#[]⟩ = true := by rw [eqS_b, h0]; rfl
  rw [e, scan_f (by rw [hb0, h0])];rfl
 have e : eqS s ⟨#[]⟩ = false := by
  rw [eqS_b, decide_eq_false];exact h0
 have hpos := List.length_pos_iff.2 h0;rw [e];by_cases h64 : 64 < s.size
 ·have e2 : ltI 64 (lenS s) = true := ltI_t (by unfold lenS; omega)
  have e3 : goodB (scan s 0) = false := by
   unfold goodB;have : decide ((scan s 0).length ≤ 16) = false := decide_eq_false (by omega);rw [this]; simp
  rw [e2, e3];rfl
 ·have e2 : ltI 64 (lenS s) = false := ltI_f (by unfold lenS; omega);rw [e2];simp only [pickB, cond_false];rw [check_loop s.size s 0 0 3 (by rw [hb0, hbl]; exact Nat.le_refl _) (by omega) (by omega)]
  have hne : scan s 0 ≠ [] := by
   intro q;have := congrArg List.length q;simp only [List.length_nil] at this;omega
  have hg : goodB (scan s 0) = (decide ((scan s 0).length ≤ 16) && okFrom 3 (scan s 0)) := by
   unfold goodB;have : decide (1 ≤ (scan s 0).length) = true := decide_eq_true (List.length_pos_iff.2 hne);rw [this];rfl
  rw [hg, okFrom_run _ _ hne];cases ho : okRun 3 (scan s 0) with
  | none => simp
  | some k =>
    simp only [Lg, flC_go];by_cases h16 : (scan s 0).length ≤ 16
    ·have e3 : ltI 16 (0 + ((scan s 0).length : Int)) = false := ltI_f (by omega);rw [e3];by_cases hk : k = 3
     ·subst hk; simp [eqI_d]
     ·simp [eqI_d, hk, h16]
    ·have e3 : ltI 16 (0 + ((scan s 0).length : Int)) = true := ltI_t (by omega);rw [e3];simp [h16]
def sizeR (r : Int) : Int := if r < 128 then 1 else if r < 2048 then 2 else if r < 65536 then 3 else 4
theorem size_d (r : Int) : gab r = some (sizeR r) := by
 unfold gab sizeR;simp only [ltI_d];by_cases h1 : r < 128
 ·simp [h1]
 ·by_cases h2 : r < 2048
  ·simp [h1, h2]
  ·by_cases h3 : r < 65536 <;> simp [h1, h2, h3]
theorem sizeR_enc {r : Int} (h : ValidR r) : sizeR r = (encodeRune r).length := by
 unfold ValidR at h;unfold sizeR encodeRune;rw [List.length_map];by_cases h1 : r < 128
 ·rw [if_pos h1, encodeRuneZ_one (by omega) (by omega)]; rfl
 rw [if_neg h1];by_cases h2 : r < 2048
 ·rw [if_pos h2, encodeRuneZ_two (by omega) (by omega)]; rfl
 rw [if_neg h2];by_cases h3 : r < 65536
 ·rw [if_pos h3, encodeRuneZ_three (by omega)]; rfl
 ·rw [if_neg h3, encodeRuneZ_four (by omega) (by omega)]; rfl
theorem sizeR_pos (r : Int) : 1 ≤ sizeR r ∧ sizeR r ≤ 4 := by
 unfold sizeR
 repeat' split
 all_goals omega
theorem runes_loop (s : ByteArray) (hs : s.size ≤ 1000000) : ∀ (m pos : Nat) (p : Int) (out : List Int), (restS s pos).length ≤ m → 0 ≤ p → p ≤ s.size → out.length + m ≤ 1000000 → (65533 ∉ out → p = pos) →
  ∃ r, loopF (gI.loop1 s) (p, out, pos) = some r ∧ (r = .go (out ++ scan s pos) ∨ (r = .out ([], false) ∧ 65533 ∈ out ++ scan s pos)) := by
 intro m
 induction m with
 | zero =>
   intro pos p out hm _ _ _ _;have h : restS s pos = [] := List.eq_nil_of_length_eq_zero (by omega);refine ⟨_, ?_, .inl rfl⟩;rw [loopF_eq];simp [gI.loop1, nextB_f h, scan_f h]
 | succ m ih =>
   intro pos p out hm hp0 hp1 hb hsync;by_cases h : restS s pos = []
   ·refine ⟨_, ?_, .inl rfl⟩;rw [loopF_eq];simp [gI.loop1, nextB_f h, scan_f h]
   rw [loopF_eq, scan_t h];simp only [gI.loop1, nextB_t h, cond_true, size_d, Lg];have hsz := sizeR_pos (runeS s pos);have hst := step_gt s pos;have hl := restS_len s pos;have hl' := restS_len s (stepS s pos);have hpos := List.length_pos_iff.2 h;have hadd : addI .i64 p (sizeR (runeS s pos)) = p + sizeR (runeS s pos) := addI_n (by omega) (by omega);have hlen : lenS s = s.size := rfl;rw [hadd]
   have key : 65533 ∉ out → runeS s pos ≠ 65533 → p = pos ∧ sizeR (runeS s pos) = ((decodeL (restS s pos)).2 : Int) ∧ encodeRune (runeS s pos) = (restS s pos).take (decodeL (restS s pos)).2 := by
    intro h1 h2;have hd := runeS_d s pos
    have he : encodeRune (runeS s pos) = (restS s pos).take (decodeL (restS s pos)).2 := by
     rw [hd];refine encode_decode _ h fun q => h2 ?_;rw [hd, q.1]; rfl
    refine ⟨hsync h1, ?_, he⟩;rw [sizeR_enc (by rw [hd]; exact dec_valid _), he, List.length_take, Nat.min_eq_left (decodeL_le _ h)]
   have hle := decodeL_le _ h
   rw [need_u (fun q => by
    have : ¬ lenS s < p + sizeR (runeS s pos) := by
     intro q';rw [ltI_t q'] at q;cases q
    exact ⟨hp0, by omega, by omega⟩)]
   by_cases hlt : lenS s < p + sizeR (runeS s pos)
   ·rw [ltI_t hlt];refine ⟨_, rfl, .inr ⟨rfl, ?_⟩⟩;refine Classical.byContradiction fun hno => ?_;simp only [List.mem_append, List.mem_cons, not_or] at hno;obtain ⟨k1, k2, _⟩ := key hno.1 (fun q => hno.2.1 q.symm);omega
   ·rw [ltI_f hlt];simp only [pickB, cond_false, neS_b, eqS_b, runes_b, cutS_b, List.flatMap_cons, List.flatMap_nil, List.append_nil];by_cases heq : encodeRune (runeS s pos) = ((bytesOf s).drop p.toNat).take ((p + sizeR (runeS s pos)).toNat - p.toNat)
    ·simp only [heq, decide_true, Bool.not_true, cond_false];rw [Lf (by unfold AppB lenL; omega)]
     have hsy : 65533 ∉ out ++ [runeS s pos] → p + sizeR (runeS s pos) = (stepS s pos : Nat) := by
      intro hno;simp only [List.mem_append, List.mem_cons, List.not_mem_nil, or_false, not_or] at hno;obtain ⟨k1, k2, _⟩ := key hno.1 (fun q => hno.2 q.symm);rw [stepS_d]; omega
     obtain ⟨r, h1, h2⟩ := ih (stepS s pos) (p + sizeR (runeS s pos)) (out ++ [runeS s pos]) (by omega) (by omega) (by omega) (by simp only [List.length_append, List.length_cons, List.length_nil]; omega) hsy;refine ⟨r, h1, ?_⟩;simpa using h2
    ·simp only [heq, decide_false, Bool.not_false, cond_true];refine ⟨_, rfl, .inr ⟨rfl, ?_⟩⟩;refine Classical.byContradiction fun hno => ?_;simp only [List.mem_append, List.mem_cons, not_or] at hno;obtain ⟨k1, k2, k3⟩ := key hno.1 (fun q => hno.2.1 q.symm);apply heq;rw [k3, k2, k1];unfold restS;rw [show ((pos : Int) + ((decodeL ((bytesOf s).drop pos)).2 : Int)).toNat - (pos : Int).toNat = (decodeL ((bytesOf s).drop pos)).2 by omega, Int.toNat_natCast]
theorem runes_d {s : ByteArray} (hs : s.size ≤ 100000) : ∃ l ok, gI s = some (l, ok) ∧ ((ok = true ∧ l = scan s 0) ∨ (ok = false ∧ l = [] ∧ 65533 ∈ scan s 0)) := by
 obtain ⟨r, h1, h2⟩ := runes_loop s (by omega) s.size 0 0 [] (by rw [restS_len]; exact Nat.le_refl _) (by omega) (by omega) (by simp only [List.length_nil]; omega) (fun _ => rfl);unfold gI;rw [h1];rcases h2 with rfl | ⟨rfl, h⟩
 ·exact ⟨_, _, rfl, .inl ⟨rfl, rfl⟩⟩
 ·exact ⟨_, _, rfl, .inr ⟨rfl, rfl, h⟩⟩
noncomputable def prevOf (pre : List Int) : Int := match pre.getLast? with
 | some r => clsR r
 | none => 3
theorem prevOf_snoc (pre : List Int) (r : Int) : prevOf (pre ++ [r]) = clsR r := by simp [prevOf]
theorem nth_at (pre t : List Int) (r : Int) : nthI (pre ++ r :: t) (pre.length : Int) = r := by
 simp [nthI]
theorem nth_snoc (q t : List Int) (x : Int) : nthI (q ++ [x] ++ t) (((q ++ [x]).length : Int) - 1) = x := by
 have : (((q ++ [x]).length : Int) - 1).toNat = q.length := by simp only [List.length_append, List.length_cons, List.length_nil]; omega
 unfold nthI;rw [this];simp
theorem good_loop (l : List Int) (b : Bool) (hl : ∀ r ∈ l, I32B r) (hlen : l.length ≤ 1000) : ∀ (suf pre : List Int), l = pre ++ suf →
  loopF (gE.loop1 (l, b)) (pre.length : Int) = some (if okFrom (prevOf pre) suf = true then .go () else .out false)
 | [], pre, e => by
   rw [loopF_eq];have : ltI (pre.length : Int) (lenL l) = false := ltI_f (by rw [e]; unfold lenL; simp);simp only [gE.loop1, this, cond_false, okFrom, if_true]
 | r :: t, pre, e => by
   have hL : l.length = pre.length + (t.length + 1) := by rw [e]; simp
   have hr : I32B r := hl r (by rw [e]; simp);have hlt : ltI (pre.length : Int) (lenL l) = true := ltI_t (by unfold lenL; omega);have hnth : nthI l (pre.length : Int) = r := by rw [e]; exact nth_at pre t r
   have hsub : subI .i64 (lenL l) 1 = (pre.length : Int) + t.length := by
    rw [subI_n (by unfold lenL; omega) (by unfold lenL; omega)];unfold lenL; omega
   have hadd : addI .i64 (pre.length : Int) 1 = ((pre ++ [r]).length : Nat) := by
    rw [addI_n (by omega) (by omega)];simp
   have ih := good_loop l b hl hlen t (pre ++ [r]) (by rw [e]; simp);rw [prevOf_snoc] at ih;rw [loopF_eq, okFrom];simp only [gE.loop1, hlt, cond_true, hnth, class_d' hr, Lg, hsub, hadd];rw [Lf (show InB _ _ from ⟨by omega, by unfold lenL; omega⟩)];generalize hc : clsR r = c at *
   have hprev : pre ≠ [] → subI .i64 (pre.length : Int) 1 = (pre.length : Int) - 1 ∧ I32B (nthI l ((pre.length : Int) - 1)) ∧ clsR (nthI l ((pre.length : Int) - 1)) = prevOf pre := by
    intro hp;rcases List.eq_nil_or_concat pre with h | ⟨q, x, h⟩
    ·exact absurd h hp
    ·rw [List.concat_eq_append] at h
     have hx : nthI l ((pre.length : Int) - 1) = x := by
      rw [e, h]; exact nth_snoc q (r :: t) x
     refine ⟨subI_n (by omega) (by omega), ?_, ?_⟩
     ·rw [hx]; exact hl x (by rw [e, h]; simp)
     ·rw [hx, h, prevOf_snoc]
   have hi0 : eqI (pre.length : Int) 0 = decide (pre = []) := by
    rw [eqI_d];by_cases h : pre = []
    ·subst h; rfl
    ·have := List.length_pos_iff.2 h;rw [decide_eq_false h, decide_eq_false (by omega)]
   have hi1 : eqI (pre.length : Int) ((pre.length : Int) + t.length) = t.isEmpty := by
    rw [eqI_d];cases t with
    | nil => simp
    | cons a b => rw [decide_eq_false (by simp only [List.length_cons]; omega)]; rfl
   rw [hi0, hi1]
   have hcase : pickB (decide (pre = [])) true t.isEmpty = false → pre ≠ [] := fun q hp => by
    rw [decide_eq_true hp] at q;cases q
   rw [need_u (fun q _ _ => by
    have hp := hcase q;rw [(hprev hp).1];have := List.length_pos_iff.2 hp;exact ⟨by omega, by unfold lenL; omega⟩), need_u (fun q _ _ => by
    have hp := hcase q;rw [(hprev hp).1, class_d' (hprev hp).2.1];rfl)]
   have hcond : pickB (eqI c 0) true (pickB (eqI c 3) (pickB (pickB (decide (pre = [])) true t.isEmpty) true (eqI ((gW (nthI l (subI .i64 (pre.length : Int) 1))).getD dflt) 3)) false) =
     !(decide (c ≠ 0) && !(decide (c = 3) && (decide (prevOf pre = 3) || t.isEmpty))) := by
    rw [pickB_or, pickB_and, pickB_or, pickB_or, eqI_d, eqI_d];by_cases hp : pre = []
    ·subst hp;have : prevOf [] = 3 := rfl;rw [this];by_cases h0 : c = 0 <;> by_cases h3 : c = 3 <;> simp [h0, h3]
    ·obtain ⟨p1, p2, p3⟩ := hprev hp;rw [p1, class_d' p2, p3, decide_eq_false hp];simp only [getD_so, eqI_d];by_cases h0 : c = 0 <;> by_cases h3 : c = 3 <;> by_cases hq : prevOf pre = 3 <;> cases t.isEmpty <;> simp [h0, h3, hq]
   rw [hcond];cases hk : (decide (c ≠ 0) && !(decide (c = 3) && (decide (prevOf pre = 3) || t.isEmpty))) with
   | false => rfl
   | true =>
     simp only [Bool.not_true, cond_false, Bool.true_and];exact ih
theorem good_d {s : ByteArray} (hs : s.size ≤ 1000) : gE s = some (goodB (scan s 0)) := by
 obtain ⟨l, ok, h1, h2⟩ := runes_d (s := s) (by omega);have hsl := scan_len s 0;unfold gE;rw [h1];simp only [Lg];rcases h2 with ⟨rfl, rfl⟩ | ⟨rfl, rfl, h⟩
 ·have hl : ∀ r ∈ scan s 0, I32B r := fun r hr => by
   have := scan_rng s 0 r hr;exact ⟨by omega, by omega⟩
  unfold goodB;by_cases h1 : 1 ≤ (scan s 0).length
  ·have e1 : ltI (lenL (scan s 0)) 1 = false := ltI_f (by unfold lenL; omega);rw [e1, decide_eq_true h1];by_cases h2 : (scan s 0).length ≤ 16
   ·have e2 : ltI 16 (lenL (scan s 0)) = false := ltI_f (by unfold lenL; omega);rw [e2, decide_eq_true h2];have := good_loop (scan s 0) true hl (by omega) (scan s 0) [] rfl;simp only [List.length_nil] at this;simp only [notB_d, Bool.not_true, pickB, cond_false];rw [show (0 : Int) = ((0 : Nat) : Int) from rfl, this];show _ = some (okFrom (prevOf []) (scan s 0));cases okFrom (prevOf []) (scan s 0) <;> rfl
   ·have e2 : ltI 16 (lenL (scan s 0)) = true := ltI_t (by unfold lenL; omega);rw [e2, decide_eq_false h2];rfl
  ·have e1 : ltI (lenL (scan s 0)) 1 = true := ltI_t (by unfold lenL; omega);rw [e1, decide_eq_false h1];rfl
 ·have : goodB (scan s 0) = false := by
   unfold goodB;rw [okFrom_bad _ 3 h]; simp
  rw [this];rfl
end Go.Proofs
end
