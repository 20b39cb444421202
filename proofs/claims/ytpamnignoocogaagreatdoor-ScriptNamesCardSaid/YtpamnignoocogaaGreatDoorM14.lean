import Derived.Test.YtpamnignoocogaaGreatDoorM15
import Derived.Test.YtpamnignoocogaaGreatDoorM17
import Derived.Test.YtpamnignoocogaaGreatDoorM16
import Derived.Test.YtpamnignoocogaaGreatDoorM13
import Derived.Test.YtpamnignoocogaaGreatDoorTy
import Derived.Test.YtpamnignoocogaaGreatDoorM20
section
namespace Go.Proofs
open Go.Ab
noncomputable def gR (x0 : ByteArray) (x1 : Int) : Option (Int × Bool) :=
 bif (pickB (eqS x0 ⟨#[]⟩) true (ltI 10 (lenS x0))) then (
  some (0, false)
 ) else (
   need (x0.size ≤ 9223372036854775807) <|
   need (AsciiB ⟨#[48, 49, 50, 51, 52, 53, 54, 55, 56, 57]⟩) <|
   need (Under (ltI 1 (lenS x0)) true (Under (neS (trimB x0 ⟨#[48, 49, 50, 51, 52, 53, 54, 55, 56, 57]⟩) ⟨#[]⟩) false (InB 0 (lenS x0)))) <|
   bif (pickB (neS (trimB x0 ⟨#[48, 49, 50, 51, 52, 53, 54, 55, 56, 57]⟩) ⟨#[]⟩) true (pickB (ltI 1 (lenS x0)) (eqI (idxS x0 0) 48) false)) then (
    some (0, false)
   ) else (
     need (x0.size ≤ 18) <|
     need ((Lib.atoi x0.data.toList).isSome = true) <|
     some (((Lib.atoi x0.data.toList).getD 0), (leqI ((Lib.atoi x0.data.toList).getD 0) x1))
   )
 )
noncomputable def gad (x0 : ByteArray) : Option (Bool × Bool) :=
 some ((eqS x0 ⟨#[111, 110]⟩), (pickB (eqS x0 ⟨#[111, 110]⟩) true (eqS x0 ⟨#[111, 102, 102]⟩)))
noncomputable def gk.loop1 (x0 : List ByteArray) (s1 : Int × List Int) : Option (Fl (Int × List Int) (Fl (List Int) (List Int × Bool))) :=
 bif (ltI s1.1 (lenL x0)) then (
  need (InB s1.1 (lenL x0)) <|
  ((gR (nthI x0 s1.1) 4294967295)).bind fun r1 =>
  bif (notB r1.2) then (
   some (.out (.out ([], false)))
  ) else (
    need (AppB (lenL s1.2) 1 8) <|
    some (.go ((addI .i64 s1.1 1), (appL s1.2 [r1.1])))
  )
 ) else (
   some (.out (.go s1.2))
 )
noncomputable def gk (x0 : List ByteArray) : Option (List Int × Bool) :=
 ((loopF (gk.loop1 x0) (0, [])).bind fun f => flC f fun (v1 : List Int) =>
   some (v1, true)
 )
noncomputable def gJ.loop1 (r1 : List Int × Bool) (s1 : Int × List Int) : Option (Fl (Int × List Int) (Fl (List Int) (List Int × Bool))) :=
 bif (ltI s1.1 (lenL r1.1)) then (
  need (InB s1.1 (lenL r1.1)) <|
  need (AppB (lenL s1.2) 1 4) <|
  some (.go ((addI .i64 s1.1 1), (appL s1.2 [(cvtI .u32 (nthI r1.1 s1.1))])))
 ) else (
   some (.out (.go s1.2))
 )
noncomputable def gJ (x0 : List ByteArray) : Option (List Int × Bool) :=
 ((gk x0)).bind fun r1 =>
 ((loopF (gJ.loop1 r1) (0, [])).bind fun f => flC f fun (v1 : List Int) =>
   some (v1, (pickB r1.2 (ltI 0 (lenL v1)) false))
 )
noncomputable def gS (x0 : ByteArray) (x1 : List ByteArray) : Option (Ta × Bool) :=
 need (CutB 0 (subI .i64 (lenL x1) 1) (lenL x1)) <|
 ((gk (cutL x1 0 (subI .i64 (lenL x1) 1)))).bind fun r1 =>
 need (InB (subI .i64 (lenL x1) 1) (lenL x1)) <|
 ((gad (nthI x1 (subI .i64 (lenL x1) 1)))).bind fun r2 =>
 bif (pickB (notB r1.2) true (notB r2.2)) then (
  some ((Ta.mk 0 ⟨#[]⟩ ⟨#[]⟩ 0 0 0 0 false false []), false)
 ) else (
   bif (pickB (eqS x0 ⟨#[109, 117, 116, 101]⟩) (eqI (lenL r1.1) 2) false) then (
    need (InB 0 (lenL r1.1)) <|
    need (InB 1 (lenL r1.1)) <|
    some ((Ta.mk 7 ⟨#[]⟩ ⟨#[]⟩ (nthI r1.1 0) 0 (nthI r1.1 1) 0 r2.1 false []), true)
   ) else (
     bif (pickB (eqS x0 ⟨#[112, 97, 117, 115, 101]⟩) (eqI (lenL r1.1) 3) false) then (
      need (InB 0 (lenL r1.1)) <|
      need (InB 1 (lenL r1.1)) <|
      need (InB 2 (lenL r1.1)) <|
      some ((Ta.mk 8 ⟨#[]⟩ ⟨#[]⟩ (nthI r1.1 0) (nthI r1.1 1) (nthI r1.1 2) 0 r2.1 false []), true)
     ) else (
       some ((Ta.mk 0 ⟨#[]⟩ ⟨#[]⟩ 0 0 0 0 false false []), false)
     )
   )
 )
noncomputable def gN (x0 : ByteArray) (x1 : List ByteArray) : Option (Ta × Bool) :=
 bif (pickB (eqS x0 ⟨#[106, 111, 105, 110]⟩) (eqI (lenL x1) 2) false) then (
  need (InB 0 (lenL x1)) <|
  need (InB 1 (lenL x1)) <|
  some ((Ta.mk 1 (nthI x1 0) (nthI x1 1) 0 0 0 0 false false []), true)
 ) else (
   bif (pickB (pickB (eqS x0 ⟨#[118, 105, 100, 101, 111]⟩) true (eqS x0 ⟨#[97, 117, 100, 105, 111]⟩)) (ltI 2 (lenL x1)) false) then (
    need (CutB 0 2 (lenL x1)) <|
    ((gk (cutL x1 0 2))).bind fun r1 =>
    need (CutB 2 (lenL x1) (lenL x1)) <|
    ((gJ (cutL x1 2 (lenL x1)))).bind fun r2 =>
    bif (pickB (notB r1.2) true (notB r2.2)) then (
     some ((Ta.mk 0 ⟨#[]⟩ ⟨#[]⟩ 0 0 0 0 false false []), false)
    ) else (
      need (InB 0 (lenL r1.1)) <|
      need (InB 1 (lenL r1.1)) <|
      some ((Ta.mk 3 ⟨#[]⟩ ⟨#[]⟩ (nthI r1.1 0) 0 (nthI r1.1 1) 0 false (eqS x0 ⟨#[118, 105, 100, 101, 111]⟩) r2.1), true)
    )
   ) else (
     bif (pickB (pickB (eqS x0 ⟨#[109, 117, 116, 101]⟩) true (eqS x0 ⟨#[112, 97, 117, 115, 101]⟩)) (ltI 1 (lenL x1)) false) then (
      ((gS x0 x1)).bind fun r3 =>
      some (r3.1, r3.2)
     ) else (
       ((gk x1)).bind fun r4 =>
       bif (notB r4.2) then (
        some ((Ta.mk 0 ⟨#[]⟩ ⟨#[]⟩ 0 0 0 0 false false []), false)
       ) else (
         bif (pickB (eqS x0 ⟨#[108, 101, 97, 118, 101]⟩) (eqI (lenL r4.1) 1) false) then (
          need (InB 0 (lenL r4.1)) <|
          some ((Ta.mk 2 ⟨#[]⟩ ⟨#[]⟩ (nthI r4.1 0) 0 0 0 false false []), true)
         ) else (
           bif (pickB (eqS x0 ⟨#[117, 110, 112, 117, 98, 108, 105, 115, 104]⟩) (eqI (lenL r4.1) 2) false) then (
            need (InB 0 (lenL r4.1)) <|
            need (InB 1 (lenL r4.1)) <|
            some ((Ta.mk 4 ⟨#[]⟩ ⟨#[]⟩ (nthI r4.1 0) 0 (nthI r4.1 1) 0 false false []), true)
           ) else (
             bif (pickB (eqS x0 ⟨#[115, 117, 98, 115, 99, 114, 105, 98, 101]⟩) (eqI (lenL r4.1) 4) false) then (
              need (InB 0 (lenL r4.1)) <|
              need (InB 1 (lenL r4.1)) <|
              need (InB 2 (lenL r4.1)) <|
              need (InB 3 (lenL r4.1)) <|
              some ((Ta.mk 5 ⟨#[]⟩ ⟨#[]⟩ (nthI r4.1 0) (nthI r4.1 1) (nthI r4.1 2) (nthI r4.1 3) false false []), true)
             ) else (
               bif (pickB (eqS x0 ⟨#[117, 110, 115, 117, 98, 115, 99, 114, 105, 98, 101]⟩) (eqI (lenL r4.1) 3) false) then (
                need (InB 0 (lenL r4.1)) <|
                need (InB 1 (lenL r4.1)) <|
                need (InB 2 (lenL r4.1)) <|
                some ((Ta.mk 6 ⟨#[]⟩ ⟨#[]⟩ (nthI r4.1 0) (nthI r4.1 1) (nthI r4.1 2) 0 false false []), true)
               ) else (
                 some ((Ta.mk 0 ⟨#[]⟩ ⟨#[]⟩ 0 0 0 0 false false []), false)
               )
             )
           )
         )
       )
     )
   )
 )
noncomputable def gj (x0 : ByteArray) (x1 : List ByteArray) : Option (Tc × Bool) :=
 bif (pickB (eqS x0 ⟨#[116, 105, 99, 107]⟩) (eqI (lenL x1) 0) false) then (
  some ((Tc.mk 3 0 ⟨#[]⟩ 0), true)
 ) else (
   bif (pickB (eqS x0 ⟨#[99, 114, 101, 100, 105, 116]⟩) (eqI (lenL x1) 2) false) then (
    ((gk x1)).bind fun r1 =>
    bif (notB r1.2) then (
     some ((Tc.mk 0 0 ⟨#[]⟩ 0), false)
    ) else (
      need (InB 0 (lenL r1.1)) <|
      need (InB 1 (lenL r1.1)) <|
      some ((Tc.mk 4 (nthI r1.1 0) ⟨#[]⟩ (nthI r1.1 1)), true)
    )
   ) else (
     bif (pickB (eqS x0 ⟨#[100, 97, 116, 97]⟩) (eqI (lenL x1) 2) false) then (
      need (InB 0 (lenL x1)) <|
      ((gR (nthI x1 0) 4294967295)).bind fun r2 =>
      need (InB 1 (lenL x1)) <|
      ((gQ (nthI x1 1))).bind fun r3 =>
      some ((Tc.mk 1 r2.1 r3.1 0), (pickB r2.2 r3.2 false))
     ) else (
       some ((Tc.mk 0 0 ⟨#[]⟩ 0), false)
     )
   )
 )
noncomputable def gB : Option (List ByteArray) :=
 some [⟨#[97, 117, 100, 105, 111]⟩, ⟨#[99, 114, 101, 100, 105, 116]⟩, ⟨#[100, 97, 116, 97]⟩, ⟨#[106, 111, 105, 110]⟩, ⟨#[108, 101, 97, 118, 101]⟩, ⟨#[109, 117, 116, 101]⟩, ⟨#[112, 97, 117, 115, 101]⟩, ⟨#[115, 117, 98, 115, 99, 114, 105, 98, 101]⟩, ⟨#[116, 105, 99, 107]⟩, ⟨#[117, 110, 112, 117, 98, 108, 105, 115, 104]⟩, ⟨#[117, 110, 115, 117, 98, 115, 99, 114, 105, 98, 101]⟩, ⟨#[118, 105, 100, 101, 111]⟩]
end Go.Proofs
end
section
set_option maxRecDepth 100000
set_option maxHeartbeats 4000000
namespace Go.Proofs
open Go.Ab
@[simp] def gac.out (_x0 : ByteArray) (r : Tb) : Out := { av := .ptr 0 0, M := some [.blk [.lit (.string r.fS), .lit (.int .i64 r.fE)]] }
theorem gac.can (x0 : ByteArray) (r : Tb) (hr : gac x0 = some r) : CallOk Tryz.prog 78 [.lit (.string x0)] [] (gac.out x0 r) := by
 unfold gac at hr;have hΓ := gamL_nil (P := Tryz.prog);refine cw Tryz.func78 rfl (by kernel_rfl) rfl rfl (by simp) fun _ _ _ => ?_;refine tq hΓ [] [] ?_;refine tq hΓ [2] [0] ?_;obtain rfl := La hr;exact AWp.ret (Le (by simp))
@[simp] noncomputable def gac.S : Sp
  | [.lit (.string x0)], M => some { av := .ptr M.length 0, M := some (M ++ [.blk [.lit (.string (((gac x0).getD dflt).fS)), .lit (.int .i64 (((gac x0).getD dflt).fE))]]), obl := (gac x0).isSome = true }
  | _, _ => none
theorem gac.ok : SpecOk Tryz.prog 78 gac.S := by
 intro l M out h;unfold gac.S at h;split at h
 ·rename_i x0;cases h;refine callOk_of fun ho => ?_;have hs := ho;obtain ⟨r, hr⟩ := so1 hs;simp only [hr, gd1];have q := Lh (M := M) [] (gac.can x0 r hr) (by simp) rfl ixn;exact callOk_conv q trivial (by simp) (by simp [frameOut, into]) (by simp [frameOut, into])
 ·cases h
@[simp] def gK.m (x0 : Tb) : List AObj := [.blk x0.enc]
@[simp] def gK.out (_x0 : Tb) (r : Int) : Out := { av := .lit (.int .i64 r), M := none }
theorem gK.can (x0 : Tb) (r : Int) (hr : gK x0 = some r) : CallOk Tryz.prog 80 [.ptr 0 0] (gK.m x0) (gK.out x0 r) := by
 unfold gK at hr;have hΓ := gamL_nil (P := Tryz.prog);refine cw Tryz.func80 rfl (by kernel_rfl) rfl rfl (by simp) fun _ _ _ => ?_;refine tq hΓ [] [] ?_;refine tq hΓ [2] [0] ?_;obtain rfl := La hr;exact AWp.ret (Le (by simp))
@[simp] noncomputable def gK.S : Sp
  | [.ptr i0 0], M => (rdB M i0).bind fun c0 => some { av := .lit (.int .i64 ((gK (Tb.dec c0)).getD dflt)), M := none, obl := c0 = Tb.enc (Tb.dec c0) ∧ (gK (Tb.dec c0)).isSome = true }
  | _, _ => none
theorem gK.ok : SpecOk Tryz.prog 80 gK.S := by
 intro l M out h;unfold gK.S at h;split at h
 ·rename_i i0;obtain ⟨c0, hM0, h⟩ := bB h;cases h;refine callOk_of fun ho => ?_;obtain ⟨oc0, hs⟩ := ho;generalize (Tb.dec c0) = y0 at *
  subst oc0;obtain ⟨r, hr⟩ := so1 hs;simp only [hr, gd1];have q := Lh (M := M) [i0] (gK.can y0 r hr) (by simp) rfl (ix (by simp [hM0]) ixn);exact callOk_conv q trivial (by simp [into]) (by simp [frameOut]) (by simp only [frameOut, gK.out, Option.getD_some, Option.getD_none]; simp [hM0, set_same])
 ·cases h
@[simp] def gq.m (x0 : Tb) (_x1 : Int) : List AObj := [.blk x0.enc]
@[simp] def gq.out (_x0 : Tb) (_x1 : Int) (r : Tb) : Out := { av := .tup [], M := some [.blk [.lit (.string r.fS), .lit (.int .i64 r.fE)]] }
theorem gq.can (x0 : Tb) (x1 : Int) (r : Tb) (hr : gq x0 x1 = some r) : CallOk Tryz.prog 81 [.ptr 0 0, .lit (.int .i64 x1)] (gq.m x0 x1) (gq.out x0 x1 r) := by
 unfold gq at hr;have hΓ := gamL_nil (P := Tryz.prog);refine cw Tryz.func81 rfl (by kernel_rfl) rfl rfl (by simp) fun _ _ _ => ?_;refine tq hΓ [12] [] ?_;refine AWp.cnd hr (by simp) (fun h2 hr => ?_) (fun h2 hr => ?_)
 ·refine tl hΓ [] [12, 0, 1] ?_ (by simp [h2]; exact rr);obtain rfl := La hr;exact fin_norm (by simp)
 ·refine AWp.skip ?_;obtain rfl := La hr;exact fin_norm (by simp)
@[simp] noncomputable def gq.S : Sp
  | [.ptr i0 0, .lit (.int .i64 x1)], M => (rdB M i0).bind fun c0 => some { av := .tup [], M := some (M.set i0 (.blk [.lit (.string (((gq (Tb.dec c0) x1).getD dflt).fS)), .lit (.int .i64 (((gq (Tb.dec c0) x1).getD dflt).fE))])), obl := c0 = Tb.enc (Tb.dec c0) ∧ (gq (Tb.dec c0) x1).isSome = true }
  | _, _ => none
theorem gq.ok : SpecOk Tryz.prog 81 gq.S := by
 intro l M out h;unfold gq.S at h;split at h
 ·rename_i i0 x1;obtain ⟨c0, hM0, h⟩ := bB h;cases h;refine callOk_of fun ho => ?_;obtain ⟨oc0, hs⟩ := ho;generalize (Tb.dec c0) = y0 at *
  subst oc0;obtain ⟨r, hr⟩ := so1 hs;simp only [hr, gd1];have q := Lh (M := M) [i0] (gq.can y0 x1 r hr) (by simp) rfl (ix (by simp [hM0]) ixn);exact callOk_conv q trivial (by simp [into]) (by simp [frameOut]) (by simp [frameOut])
 ·cases h
@[simp] def gr.m (x0 : Tb) (_x1 : Int) : List AObj := [.blk x0.enc]
@[simp] def gr.out (_x0 : Tb) (_x1 : Int) (r : ByteArray × Tb) : Out := { av := .lit (.string r.1), M := some [.blk [.lit (.string r.2.fS), .lit (.int .i64 r.2.fE)]] }
theorem gr.can (x0 : Tb) (x1 : Int) (r : ByteArray × Tb) (hr : gr x0 x1 = some r) : CallOk Tryz.prog 106 [.ptr 0 0, .lit (.int .i64 x1)] (gr.m x0 x1) (gr.out x0 x1 r) := by
 unfold gr at hr;have hΓ := (gamL_cons gq.ok (gamL_nil) : GamOk Tryz.prog _);refine cw Tryz.func106 rfl (by kernel_rfl) rfl rfl (by simp) fun _ _ _ => ?_;refine tq hΓ [] [] ?_;refine AWp.seq ?_;refine AWp.block ?_;refine tq hΓ [6] [] ?_;refine AWp.cnd hr (by simp) (fun h8 hr => ?_) (fun h8 hr => ?_)
 ·refine tq hΓ [4] [6, 0, 1] ?_ (by simp [h8]; exact rr);obtain rfl := La hr;exact AWp.ret (Le (by simp))
 ·refine tq hΓ [12] [6] ?_ (by simp [h8]; exact rr);refine AWp.cnd hr (by simp) (fun h9 hr => ?_) (fun h9 hr => ?_)
  ·obtain ⟨r1, h10, hr⟩ := Ld hr;refine tq hΓ [] [12, 0, 1] ?_ (by simp [h9, h10]; exact rr);refine tq hΓ [4] [] ?_ (by simp; exact rr);obtain rfl := La hr;exact AWp.ret (Le (by simp))
  ·refine tq hΓ [17] [12] ?_ (by simp [h9]; exact rr);refine AWp.cnd hr (by simp) (fun h11 hr => ?_) (fun h11 hr => ?_)
   ·obtain ⟨r2, h12, hr⟩ := Ld hr;refine tq hΓ [] [17, 0, 1] ?_ (by simp [h11, h12]; exact rr);refine tq hΓ [4] [] ?_ (by simp; exact rr);obtain rfl := La hr;exact AWp.ret (Le (by simp))
   ·refine AWp.skip ?_;obtain ⟨h13, hr⟩ := Lb hr;refine tq hΓ [5] [17] ?_ (by simp [h11, h13]; exact rr);obtain ⟨h14, hr⟩ := Lb hr;refine tq hΓ [] [0, 1] ?_ (by simp [h14]; exact rr);refine tq hΓ [4] [5] ?_ (by simp; exact rr);obtain rfl := La hr;exact AWp.ret (Le (by simp))
@[simp] noncomputable def gr.S : Sp
  | [.ptr i0 0, .lit (.int .i64 x1)], M => (rdB M i0).bind fun c0 => some { av := .lit (.string (((gr (Tb.dec c0) x1).getD dflt).1)), M := some (M.set i0 (.blk [.lit (.string (((gr (Tb.dec c0) x1).getD dflt).2.fS)), .lit (.int .i64 (((gr (Tb.dec c0) x1).getD dflt).2.fE))])), obl := c0 = Tb.enc (Tb.dec c0) ∧ (gr (Tb.dec c0) x1).isSome = true }
  | _, _ => none
theorem gr.ok : SpecOk Tryz.prog 106 gr.S := by
 intro l M out h;unfold gr.S at h;split at h
 ·rename_i i0 x1;obtain ⟨c0, hM0, h⟩ := bB h;cases h;refine callOk_of fun ho => ?_;obtain ⟨oc0, hs⟩ := ho;generalize (Tb.dec c0) = y0 at *
  subst oc0;obtain ⟨r, hr⟩ := so1 hs;simp only [hr, gd1];have q := Lh (M := M) [i0] (gr.can y0 x1 r hr) (by simp) rfl (ix (by simp [hM0]) ixn);exact callOk_conv q trivial (by simp [into]) (by simp [frameOut]) (by simp [frameOut])
 ·cases h
@[simp] def gh.m (x0 : Tb) (_x1 : Int) : List AObj := [.blk x0.enc]
@[simp] def gh.out (_x0 : Tb) (_x1 : Int) (r : Int × Tb) : Out := { av := .lit (.int .u64 r.1), M := some [.blk [.lit (.string r.2.fS), .lit (.int .i64 r.2.fE)]] }
def gh.fin (x0 : Tb) (x1 : Int) (r : Int × Tb) (σ : St) : Prop := finK (gh.out x0 x1 r) (gh.m x0 x1) σ.M (resA Tryz.ty σ.A σ.M Tryz.f105.results.toList)
theorem gh.can (x0 : Tb) (x1 : Int) (r : Int × Tb) (hr : gh x0 x1 = some r) : CallOk Tryz.prog 105 [.ptr 0 0, .lit (.int .i64 x1)] (gh.m x0 x1) (gh.out x0 x1 r) := by
 unfold gh at hr;have hΓ := (gamL_cons gr.ok (gamL_nil) : GamOk Tryz.prog _);refine cw Tryz.func105 rfl (by kernel_rfl) rfl rfl (by simp) fun _ _ _ => ?_;refine tq hΓ [] [] ?_;refine tq hΓ [5] [] ?_;refine AWp.seq ?_;obtain ⟨r1, h5, hr⟩ := Ld hr;refine tq hΓ [13, 14, 15] [0, 1] ?_ (by simp [h5]; exact rr);refine AWp.loopE (fun (s1 : Int × Int) (γ1 : Unit) => ⟨[⟨13, none, .sl ((numsOf r1.1).map (eNum .u8)) .no⟩, ⟨14, none, .n (lenL (numsOf r1.1))⟩, ⟨15, none, .n s1.1⟩, ⟨5, none, .lit (.int .u64 s1.2)⟩], [.blk r1.2.enc]⟩) (fun (v1 : Int) (γ1a : Unit) => ⟨[⟨5, none, .lit (.int .u64 v1)⟩], [.blk r1.2.enc]⟩) (gh.fin x0 x1) hr () 1 (by simp) (fun s1 f γ1 hr => ?_) (fun v1 γ1a σ1 m1 hr hc => ?_) (fun _ h => h)
 ·unfold gh.loop1 at hr;refine tq hΓ [16] [] ?_ (by simp; exact rr);refine AWp.seq ?_;refine AWp.cnd hr (by simp) (fun h6 hr => ?_) (fun h6 hr => ?_)
  ·refine AWp.skip ?_;refine AWp.seq ?_;refine AWp.block ?_;obtain ⟨h7, hr⟩ := Lb hr;refine tq hΓ [7] [16] ?_ (by simp [h6, h7]; exact rr);obtain ⟨h8, hr⟩ := Lb hr;refine tl hΓ [5] [7] ?_ (by simp [h8]; exact rr);refine tl hΓ [15] [] ?_ (by simp; exact rr);obtain rfl := La hr;exact Lo () 1 (by first | (simp; done) | simp [h5, h6, h7, h8])
  ·refine AWp.exit ?_;obtain rfl := La hr;exact Lr () 1 (by first | (simp; done) | simp [h5, h6])
 ·refine AWp.conv hc ?_;refine tq hΓ [4] [5] ?_ (by simp; exact rr);obtain rfl := La hr;exact AWp.ret (Le (by simp))
@[simp] noncomputable def gh.S : Sp
  | [.ptr i0 0, .lit (.int .i64 x1)], M => (rdB M i0).bind fun c0 => some { av := .lit (.int .u64 (((gh (Tb.dec c0) x1).getD dflt).1)), M := some (M.set i0 (.blk [.lit (.string (((gh (Tb.dec c0) x1).getD dflt).2.fS)), .lit (.int .i64 (((gh (Tb.dec c0) x1).getD dflt).2.fE))])), obl := c0 = Tb.enc (Tb.dec c0) ∧ (gh (Tb.dec c0) x1).isSome = true }
  | _, _ => none
theorem gh.ok : SpecOk Tryz.prog 105 gh.S := by
 intro l M out h;unfold gh.S at h;split at h
 ·rename_i i0 x1;obtain ⟨c0, hM0, h⟩ := bB h;cases h;refine callOk_of fun ho => ?_;obtain ⟨oc0, hs⟩ := ho;generalize (Tb.dec c0) = y0 at *
  subst oc0;obtain ⟨r, hr⟩ := so1 hs;simp only [hr, gd1];have q := Lh (M := M) [i0] (gh.can y0 x1 r hr) (by simp) rfl (ix (by simp [hM0]) ixn);exact callOk_conv q trivial (by simp [into]) (by simp [frameOut]) (by simp [frameOut])
 ·cases h
@[simp] def gv.m (x0 : Tb) : List AObj := [.blk x0.enc]
@[simp] def gv.out (_x0 : Tb) (r : Int × Tb) : Out := { av := .lit (.int .u8 r.1), M := some [.blk [.lit (.string r.2.fS), .lit (.int .i64 r.2.fE)]] }
theorem gv.can (x0 : Tb) (r : Int × Tb) (hr : gv x0 = some r) : CallOk Tryz.prog 79 [.ptr 0 0] (gv.m x0) (gv.out x0 r) := by
 unfold gv at hr;have hΓ := (gamL_cons gh.ok (gamL_nil) : GamOk Tryz.prog _);refine cw Tryz.func79 rfl (by kernel_rfl) rfl rfl (by simp) fun _ _ _ => ?_;refine tq hΓ [] [] ?_;obtain ⟨r1, h2, hr⟩ := Ld hr;refine tq hΓ [2] [0] ?_ (by simp [h2]; exact rr);obtain rfl := La hr;exact AWp.ret (Le (by simp))
@[simp] noncomputable def gv.S : Sp
  | [.ptr i0 0], M => (rdB M i0).bind fun c0 => some { av := .lit (.int .u8 (((gv (Tb.dec c0)).getD dflt).1)), M := some (M.set i0 (.blk [.lit (.string (((gv (Tb.dec c0)).getD dflt).2.fS)), .lit (.int .i64 (((gv (Tb.dec c0)).getD dflt).2.fE))])), obl := c0 = Tb.enc (Tb.dec c0) ∧ (gv (Tb.dec c0)).isSome = true }
  | _, _ => none
theorem gv.ok : SpecOk Tryz.prog 79 gv.S := by
 intro l M out h;unfold gv.S at h;split at h
 ·rename_i i0;obtain ⟨c0, hM0, h⟩ := bB h;cases h;refine callOk_of fun ho => ?_;obtain ⟨oc0, hs⟩ := ho;generalize (Tb.dec c0) = y0 at *
  subst oc0;obtain ⟨r, hr⟩ := so1 hs;simp only [hr, gd1];have q := Lh (M := M) [i0] (gv.can y0 r hr) (by simp) rfl (ix (by simp [hM0]) ixn);exact callOk_conv q trivial (by simp [into]) (by simp [frameOut]) (by simp [frameOut])
 ·cases h
@[simp] def gG.m (x0 : Tb) : List AObj := [.blk x0.enc]
@[simp] def gG.out (_x0 : Tb) (r : Int × Tb) : Out := { av := .lit (.int .u16 r.1), M := some [.blk [.lit (.string r.2.fS), .lit (.int .i64 r.2.fE)]] }
theorem gG.can (x0 : Tb) (r : Int × Tb) (hr : gG x0 = some r) : CallOk Tryz.prog 107 [.ptr 0 0] (gG.m x0) (gG.out x0 r) := by
 unfold gG at hr;have hΓ := (gamL_cons gh.ok (gamL_nil) : GamOk Tryz.prog _);refine cw Tryz.func107 rfl (by kernel_rfl) rfl rfl (by simp) fun _ _ _ => ?_;refine tq hΓ [] [] ?_;obtain ⟨r1, h2, hr⟩ := Ld hr;refine tq hΓ [2] [0] ?_ (by simp [h2]; exact rr);obtain rfl := La hr;exact AWp.ret (Le (by simp))
@[simp] noncomputable def gG.S : Sp
  | [.ptr i0 0], M => (rdB M i0).bind fun c0 => some { av := .lit (.int .u16 (((gG (Tb.dec c0)).getD dflt).1)), M := some (M.set i0 (.blk [.lit (.string (((gG (Tb.dec c0)).getD dflt).2.fS)), .lit (.int .i64 (((gG (Tb.dec c0)).getD dflt).2.fE))])), obl := c0 = Tb.enc (Tb.dec c0) ∧ (gG (Tb.dec c0)).isSome = true }
  | _, _ => none
theorem gG.ok : SpecOk Tryz.prog 107 gG.S := by
 intro l M out h;unfold gG.S at h;split at h
 ·rename_i i0;obtain ⟨c0, hM0, h⟩ := bB h;cases h;refine callOk_of fun ho => ?_;obtain ⟨oc0, hs⟩ := ho;generalize (Tb.dec c0) = y0 at *
  subst oc0;obtain ⟨r, hr⟩ := so1 hs;simp only [hr, gd1];have q := Lh (M := M) [i0] (gG.can y0 r hr) (by simp) rfl (ix (by simp [hM0]) ixn);exact callOk_conv q trivial (by simp [into]) (by simp [frameOut]) (by simp [frameOut])
 ·cases h
@[simp] def gH.m (x0 : Tb) : List AObj := [.blk x0.enc]
@[simp] def gH.out (_x0 : Tb) (r : Int × Tb) : Out := { av := .lit (.int .u32 r.1), M := some [.blk [.lit (.string r.2.fS), .lit (.int .i64 r.2.fE)]] }
theorem gH.can (x0 : Tb) (r : Int × Tb) (hr : gH x0 = some r) : CallOk Tryz.prog 109 [.ptr 0 0] (gH.m x0) (gH.out x0 r) := by
 unfold gH at hr;have hΓ := (gamL_cons gh.ok (gamL_nil) : GamOk Tryz.prog _);refine cw Tryz.func109 rfl (by kernel_rfl) rfl rfl (by simp) fun _ _ _ => ?_;refine tq hΓ [] [] ?_;obtain ⟨r1, h2, hr⟩ := Ld hr;refine tq hΓ [2] [0] ?_ (by simp [h2]; exact rr);obtain rfl := La hr;exact AWp.ret (Le (by simp))
@[simp] noncomputable def gH.S : Sp
  | [.ptr i0 0], M => (rdB M i0).bind fun c0 => some { av := .lit (.int .u32 (((gH (Tb.dec c0)).getD dflt).1)), M := some (M.set i0 (.blk [.lit (.string (((gH (Tb.dec c0)).getD dflt).2.fS)), .lit (.int .i64 (((gH (Tb.dec c0)).getD dflt).2.fE))])), obl := c0 = Tb.enc (Tb.dec c0) ∧ (gH (Tb.dec c0)).isSome = true }
  | _, _ => none
theorem gH.ok : SpecOk Tryz.prog 109 gH.S := by
 intro l M out h;unfold gH.S at h;split at h
 ·rename_i i0;obtain ⟨c0, hM0, h⟩ := bB h;cases h;refine callOk_of fun ho => ?_;obtain ⟨oc0, hs⟩ := ho;generalize (Tb.dec c0) = y0 at *
  subst oc0;obtain ⟨r, hr⟩ := so1 hs;simp only [hr, gd1];have q := Lh (M := M) [i0] (gH.can y0 r hr) (by simp) rfl (ix (by simp [hM0]) ixn);exact callOk_conv q trivial (by simp [into]) (by simp [frameOut]) (by simp [frameOut])
 ·cases h
@[simp] def gA.m (x0 : Tb) : List AObj := [.blk x0.enc]
@[simp] def gA.out (_x0 : Tb) (r : Int × Tb) : Out := { av := .lit (.int .i64 r.1), M := some [.blk [.lit (.string r.2.fS), .lit (.int .i64 r.2.fE)]] }
def gA.fin (x0 : Tb) (r : Int × Tb) (σ : St) : Prop := finK (gA.out x0 r) (gA.m x0) σ.M (resA Tryz.ty σ.A σ.M Tryz.f83.results.toList)
theorem gA.can (x0 : Tb) (r : Int × Tb) (hr : gA x0 = some r) : CallOk Tryz.prog 83 [.ptr 0 0] (gA.m x0) (gA.out x0 r) := by
 unfold gA at hr;have hΓ := (gamL_cons gq.ok (gamL_nil) : GamOk Tryz.prog _);refine cw Tryz.func83 rfl (by kernel_rfl) rfl rfl (by simp) fun _ _ _ => ?_;refine tq hΓ [] [] ?_;refine AWp.meetF (fun (v1 : Tb) (γ1 : Unit) => ⟨[⟨0, none, .ptr 0 0⟩], [.blk v1.enc]⟩) (gA.fin x0) hr (fun f hr => ?_) (fun v1 γ1 hr => ?_) (fun _ h => h)
 ·refine tq hΓ [7] [] ?_;refine AWp.cnd hr (by simp) (fun h3 hr => ?_) (fun h3 hr => ?_)
  ·obtain ⟨r1, h4, hr⟩ := Ld hr;refine tl hΓ [] [7] ?_ (by simp [h3, h4]; exact rr);obtain rfl := La hr;exact meet_go () 1 (by first | (simp; done) | simp [h3, h4])
  ·refine AWp.skip ?_;obtain rfl := La hr;exact meet_go () 1 (by first | (simp; done) | simp [h3])
 ·refine tq hΓ [2] [0] ?_;obtain rfl := La hr;exact AWp.ret (Le (by simp))
@[simp] noncomputable def gA.S : Sp
  | [.ptr i0 0], M => (rdB M i0).bind fun c0 => some { av := .lit (.int .i64 (((gA (Tb.dec c0)).getD dflt).1)), M := some (M.set i0 (.blk [.lit (.string (((gA (Tb.dec c0)).getD dflt).2.fS)), .lit (.int .i64 (((gA (Tb.dec c0)).getD dflt).2.fE))])), obl := c0 = Tb.enc (Tb.dec c0) ∧ (gA (Tb.dec c0)).isSome = true }
  | _, _ => none
theorem gA.ok : SpecOk Tryz.prog 83 gA.S := by
 intro l M out h;unfold gA.S at h;split at h
 ·rename_i i0;obtain ⟨c0, hM0, h⟩ := bB h;cases h;refine callOk_of fun ho => ?_;obtain ⟨oc0, hs⟩ := ho;generalize (Tb.dec c0) = y0 at *
  subst oc0;obtain ⟨r, hr⟩ := so1 hs;simp only [hr, gd1];have q := Lh (M := M) [i0] (gA.can y0 r hr) (by simp) rfl (ix (by simp [hM0]) ixn);exact callOk_conv q trivial (by simp [into]) (by simp [frameOut]) (by simp [frameOut])
 ·cases h
end Go.Proofs
end
section
set_option maxRecDepth 100000
set_option maxHeartbeats 4000000
namespace Go.Proofs
open Go.Ab
@[simp] def gp.out (_x0 : ByteArray) (_x1 : ByteArray) (r : Bool) : Out := { av := .lit (.bool r), M := none }
theorem gp.can (x0 : ByteArray) (x1 : ByteArray) (r : Bool) (hr : gp x0 x1 = some r) : CallOk Tryz.prog 142 [.lit (.string x0), .lit (.string x1)] [] (gp.out x0 x1 r) := by
 unfold gp at hr;have hΓ := gamL_nil (P := Tryz.prog);refine cw Tryz.func142 rfl (by kernel_rfl) rfl rfl (by simp) fun _ _ _ => ?_;refine tq hΓ [] [] ?_;obtain ⟨h2, hr⟩ := Lb hr;refine tq hΓ [4] [0, 1] ?_ (by simp [h2]; exact rr);obtain rfl := La hr;exact AWp.ret (Le (by simp))
@[simp] noncomputable def gp.S : Sp
  | [.lit (.string x0), .lit (.string x1)], _ => some { av := .lit (.bool ((gp x0 x1).getD dflt)), M := none, obl := (gp x0 x1).isSome = true }
  | _, _ => none
theorem gp.ok : SpecOk Tryz.prog 142 gp.S := by
 intro l M out h;unfold gp.S at h;split at h
 ·rename_i x0 x1;cases h;refine callOk_of fun ho => ?_;have hs := ho;obtain ⟨r, hr⟩ := so1 hs;simp only [hr, gd1];have q := Lh (M := M) [] (gp.can x0 x1 r hr) (by simp) rfl ixn;exact callOk_conv q trivial (by simp) (by simp [frameOut]) (by simp [frameOut])
 ·cases h
@[simp] def gP.out (_x0 : ByteArray) (_x1 : ByteArray) (r : Bool) : Out := { av := .lit (.bool r), M := none }
theorem gP.can (x0 : ByteArray) (x1 : ByteArray) (r : Bool) (hr : gP x0 x1 = some r) : CallOk Tryz.prog 99 [.lit (.string x0), .lit (.string x1)] [] (gP.out x0 x1 r) := by
 unfold gP at hr;have hΓ := (gamL_cons gp.ok (gamL_nil) : GamOk Tryz.prog _);refine cw Tryz.func99 rfl (by kernel_rfl) rfl rfl (by simp) fun _ _ _ => ?_;refine tq hΓ [] [] ?_;obtain ⟨r1, h2, hr⟩ := Ld hr;refine tq hΓ [4] [0, 1] ?_ (by simp [h2]; exact rr);obtain rfl := La hr;exact AWp.ret (Le (by simp))
@[simp] noncomputable def gP.S : Sp
  | [.lit (.string x0), .lit (.string x1)], _ => some { av := .lit (.bool ((gP x0 x1).getD dflt)), M := none, obl := (gP x0 x1).isSome = true }
  | _, _ => none
theorem gP.ok : SpecOk Tryz.prog 99 gP.S := by
 intro l M out h;unfold gP.S at h;split at h
 ·rename_i x0 x1;cases h;refine callOk_of fun ho => ?_;have hs := ho;obtain ⟨r, hr⟩ := so1 hs;simp only [hr, gd1];have q := Lh (M := M) [] (gP.can x0 x1 r hr) (by simp) rfl ixn;exact callOk_conv q trivial (by simp) (by simp [frameOut]) (by simp [frameOut])
 ·cases h
@[simp] def gaa.out (_x0 : Int) (r : Int) : Out := { av := .lit (.int .i64 r), M := none }
theorem gaa.can (x0 : Int) (r : Int) (hr : gaa x0 = some r) : CallOk Tryz.prog 98 [.lit (.int .i32 x0)] [] (gaa.out x0 r) := by
 unfold gaa at hr;have hΓ := (gamL_cons gay.ok (gamL_cons gax.ok (gamL_nil)) : GamOk Tryz.prog _);refine cw Tryz.func98 rfl (by kernel_rfl) rfl rfl (by simp) fun _ _ _ => ?_;refine tq hΓ [] [] ?_;refine AWp.seq ?_;refine AWp.block ?_;refine tq hΓ [3] [] ?_;refine AWp.cnd hr (by simp) (fun h6 hr => ?_) (fun h6 hr => ?_)
 ·refine tq hΓ [2] [3, 0] ?_ (by simp [h6]; exact rr);obtain rfl := La hr;exact AWp.ret (Le (by simp))
 ·obtain ⟨h7, hr⟩ := Lb hr;refine tq hΓ [14] [3] ?_ (by simp [h6, h7]; exact rr);refine AWp.cnd hr (by simp) (fun h8 hr => ?_) (fun h8 hr => ?_)
  ·refine tq hΓ [2] [14, 0] ?_ (by simp [h8]; exact rr);obtain rfl := La hr;exact AWp.ret (Le (by simp))
  ·obtain ⟨h9, hr⟩ := Lb hr;refine tq hΓ [17] [14, 0] ?_ (by simp [h7, h8]; exact rr);refine AWp.cnd hr (by simp) (fun h10 hr => ?_) (fun h10 hr => ?_)
   ·refine tq hΓ [2] [17] ?_ (by simp [h10]; exact rr);obtain rfl := La hr;exact AWp.ret (Le (by simp))
   ·refine AWp.skip ?_;refine tq hΓ [2] [17] ?_ (by simp [h10]; exact rr);obtain rfl := La hr;exact AWp.ret (Le (by simp))
@[simp] noncomputable def gaa.S : Sp
  | [.lit (.int .i32 x0)], _ => some { av := .lit (.int .i64 ((gaa x0).getD dflt)), M := none, obl := (gaa x0).isSome = true }
  | _, _ => none
theorem gaa.ok : SpecOk Tryz.prog 98 gaa.S := by
 intro l M out h;unfold gaa.S at h;split at h
 ·rename_i x0;cases h;refine callOk_of fun ho => ?_;have hs := ho;obtain ⟨r, hr⟩ := so1 hs;simp only [hr, gd1];have q := Lh (M := M) [] (gaa.can x0 r hr) (by simp) rfl ixn;exact callOk_conv q trivial (by simp) (by simp [frameOut]) (by simp [frameOut])
 ·cases h
@[simp] def gC.out (_x0 : ByteArray) (r : Int) : Out := { av := .lit (.int .i64 r), M := none }
def gC.fin (x0 : ByteArray) (r : Int) (σ : St) : Prop := finK (gC.out x0 r) [] σ.M (resA Tryz.ty σ.A σ.M Tryz.f66.results.toList)
theorem gC.can (x0 : ByteArray) (r : Int) (hr : gC x0 = some r) : CallOk Tryz.prog 66 [.lit (.string x0)] [] (gC.out x0 r) := by
 unfold gC at hr;have hΓ := (gamL_cons gaa.ok (gamL_cons gP.ok (gamL_nil)) : GamOk Tryz.prog _);refine cw Tryz.func66 rfl (by kernel_rfl) rfl rfl (by simp) fun _ _ _ => ?_;refine tq hΓ [] [] ?_;refine AWp.seq ?_;refine tq hΓ [14] [] ?_;refine AWp.cnd hr (by simp) (fun h8 hr => ?_) (fun h8 hr => ?_)
 ·refine tq hΓ [2] [14, 0] ?_ (by simp [h8]; exact rr);obtain rfl := La hr;exact AWp.ret (Le (by simp))
 ·refine AWp.skip ?_;refine tq hΓ [3, 4] [14] ?_ (by simp [h8]; exact rr);refine AWp.seq ?_;refine tq hΓ [16] [] ?_ (by simp; exact rr);refine AWp.loopE (fun (s1 : Int × Int × Nat) (γ1 : Unit) => ⟨[⟨16, none, .it 0⟩, ⟨3, none, .n s1.1⟩, ⟨4, none, .n s1.2.1⟩, ⟨0, none, .s x0⟩], [.iter x0 s1.2.2]⟩) (fun (v1 : Int × Int) (γ1a : Unit) => ⟨[⟨3, none, .n v1.1⟩, ⟨4, none, .n v1.2⟩], [.dead]⟩) (gC.fin x0) hr () 1 (by simp) (fun s1 f γ1 hr => ?_) (fun v1 γ1a σ1 m1 hr hc => ?_) (fun _ h => h)
  ·unfold gC.loop1 at hr;cases h9 : (nextB x0 s1.2.2) with
   | true =>
     have hr := cond_t h9 hr;refine tq hΓ [17, 18] [] ?_ (by simp [h9]; exact rr);refine AWp.seq ?_;refine AWp.cond (b := true) (by simp) (fun hb => ?_) (fun hb => ?_)
     ·refine AWp.skip ?_;refine AWp.block ?_;refine tq hΓ [5, 6] [17, 18] ?_ (by simp; exact rr);obtain ⟨r1, h10, hr⟩ := Ld hr;refine tq hΓ [7] [] ?_ (by simp [h10]; exact rr);refine AWp.seq ?_;obtain ⟨h11, hr⟩ := Lb hr;obtain ⟨h12, hr⟩ := Lb hr;refine tq hΓ [43] [5, 6, 4] ?_ (by simp [h11, h12]; exact rr);refine AWp.cnd hr (by simp) (fun h13 hr => ?_) (fun h13 hr => ?_)
      ·refine tq hΓ [2] [43, 7, 16, 3, 0] ?_ (by simp [h13]; exact rr);refine AWp.ret ?_;obtain rfl := La hr;refine round_ret ?_;refine Le ?_;simp
      ·refine AWp.skip ?_;refine tl hΓ [3, 4] [43, 7] ?_ (by simp [h13]; exact rr);obtain rfl := La hr;exact Lo () 1 (by first | (simp; done) | simp [h8, h9, h10, h11, h12, h13])
     ·cases hb
   | false =>
     have hr := cond_f h9 hr;refine tq hΓ [17, 18] [] ?_ (by simp [h9]; exact rr);refine AWp.seq ?_;refine AWp.cond (b := false) (by simp) (fun hb => ?_) (fun hb => ?_)
     ·cases hb
     ·refine AWp.exit ?_;obtain rfl := La hr;exact Lr () 1 (by first | (simp; done) | simp [h8, h9])
  ·refine AWp.conv hc ?_;refine AWp.seq ?_;refine tq hΓ [52] [3, 4] ?_ (by simp; exact rr);refine AWp.cnd hr (by simp) (fun h14 hr => ?_) (fun h14 hr => ?_)
   ·refine tq hΓ [2] [52] ?_ (by simp [h14]; exact rr);obtain rfl := La hr;exact AWp.ret (Le (by simp))
   ·refine AWp.skip ?_;refine tq hΓ [2] [52] ?_ (by simp [h14]; exact rr);obtain rfl := La hr;exact AWp.ret (Le (by simp))
@[simp] noncomputable def gC.S : Sp
  | [.lit (.string x0)], _ => some { av := .lit (.int .i64 ((gC x0).getD dflt)), M := none, obl := (gC x0).isSome = true }
  | _, _ => none
theorem gC.ok : SpecOk Tryz.prog 66 gC.S := by
 intro l M out h;unfold gC.S at h;split at h
 ·rename_i x0;cases h;refine callOk_of fun ho => ?_;have hs := ho;obtain ⟨r, hr⟩ := so1 hs;simp only [hr, gd1];have q := Lh (M := M) [] (gC.can x0 r hr) (by simp) rfl ixn;exact callOk_conv q trivial (by simp) (by simp [frameOut]) (by simp [frameOut])
 ·cases h
end Go.Proofs
end
