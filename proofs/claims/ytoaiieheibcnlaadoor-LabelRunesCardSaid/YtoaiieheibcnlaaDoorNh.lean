/- That these functions compute what their plain functions do. No condition. -/
import Derived.Test.YtoaiieheibcnlaaDoorNhD
import Derived.Test.YtoaiieheibcnlaaDoorTy
import Derived.Test.YtoaiieheibcnlaaDoorNe
import Derived.Test.YtoaiieheibcnlaaDoorNb
import Derived.Test.YtoaiieheibcnlaaDoorNa
namespace Go.Proofs
open Go.Ab
@[simp] def gLaw06LabelRunes.out (_x0 : List Int) (_x1 : Int) (r : Bool) : Out := { av := .lit (.bool r), M := none }
def gLaw06LabelRunes.fin (x0 : List Int) (x1 : Int) (r : Bool) (σ : St) : Prop := finK (gLaw06LabelRunes.out x0 x1 r) [] σ.M (resA Tryd.ty σ.A σ.M Tryd.f5.results.toList)
set_option maxHeartbeats 4000000 in
set_option maxRecDepth 100000 in
theorem gLaw06LabelRunes.can (x0 : List Int) (x1 : Int) (r : Bool) (hr : gLaw06LabelRunes x0 x1 = some r) : CallOk Tryd.prog 5 [.sl (x0.map (eNum .i32)) .no, .lit (.int .i64 x1)] [] (gLaw06LabelRunes.out x0 x1 r) := by
  unfold gLaw06LabelRunes at hr
  have hΓ := (gamL_cons gLaw06Awake.ok (gamL_cons gRef06Class.ok (gamL_cons gRef06Fold.ok (gamL_cons gRef06Good.ok (gamL_cons gRef06Runes.ok (gamL_cons gRef06Short.ok (gamL_cons gLabelCheck.ok (gamL_cons gLabelClass.ok (gamL_cons gLabelFold.ok (gamL_cons gLabelLen.ok (gamL_cons gLabelShort.ok (gamL_nil))))))))))) : GamOk Tryd.prog _)
  refine call_of_awp Tryd.tyOk Tryd.func5 rfl (by kernel_rfl) rfl rfl (by simp) ?_
  intro _ _ _
  refine AWp.then ⟨[⟨0, none, .sl (x0.map (eNum .i32)) .no⟩, ⟨1, none, .lit (.int .i64 x1)⟩], []⟩ (AWp.reg Tryd.tyOk hΓ (keep := []) (dead := []) (by kernel_rfl) rfl (by simp)) ?_
  refine AWp.seq ?_
  obtain ⟨r1, h26, hr⟩ := bind_some' hr
  refine AWp.then ⟨[⟨11, none, .lit (.bool (notB r1))⟩, ⟨0, none, .sl (x0.map (eNum .i32)) .no⟩, ⟨1, none, .lit (.int .i64 x1)⟩], []⟩ (AWp.reg Tryd.tyOk hΓ (keep := [11]) (dead := []) (by kernel_rfl) rfl (by simp [h26])) ?_
  refine AWp.cond (b := (notB r1)) (by simp) (fun h27 => ?_) (fun h27 => ?_)
  · have hr := cond_t h27 hr
    refine AWp.then ⟨[⟨4, none, .lit (.bool false)⟩], []⟩ (AWp.reg Tryd.tyOk hΓ (keep := [4]) (dead := [11, 0, 1]) (by kernel_rfl) rfl (by simp [h27])) ?_
    refine AWp.ret ?_
    obtain rfl := some_inj hr
    refine fin_ret ?_
    simp
  · have hr := cond_f h27 hr
    refine AWp.skip ?_
    refine AWp.then ⟨[⟨5, none, .lit (.string ⟨#[]⟩)⟩, ⟨0, none, .sl (x0.map (eNum .i32)) .no⟩, ⟨1, none, .lit (.int .i64 x1)⟩], []⟩ (AWp.reg Tryd.tyOk hΓ (keep := [5]) (dead := [11]) (by kernel_rfl) rfl (by simp [h27])) ?_
    refine AWp.seq ?_
    refine AWp.then ⟨[⟨6, none, .lit (.int .i64 0)⟩, ⟨5, none, .lit (.string ⟨#[]⟩)⟩, ⟨0, none, .sl (x0.map (eNum .i32)) .no⟩, ⟨1, none, .lit (.int .i64 x1)⟩], []⟩ (AWp.reg Tryd.tyOk hΓ (keep := [6]) (dead := []) (by kernel_rfl) rfl (by simp)) ?_
    refine AWp.loopE (fun (s1 : Int × ByteArray) (γ1 : Unit) => ⟨[⟨6, none, .lit (.int .i64 s1.1)⟩, ⟨5, none, .lit (.string s1.2)⟩, ⟨0, none, .sl (x0.map (eNum .i32)) .no⟩, ⟨1, none, .lit (.int .i64 x1)⟩], []⟩) (fun (v1 : ByteArray) (γ1a : Unit) => ⟨[⟨5, none, .lit (.string v1)⟩, ⟨1, none, .lit (.int .i64 x1)⟩], []⟩) (gLaw06LabelRunes.fin x0 x1) hr () 0 (by simp) (fun s1 f γ1 hr => ?_) (fun v1 γ1a σ1 m1 hr hc => ?_) (fun _ h => h)
    · unfold gLaw06LabelRunes.loop1 at hr
      refine AWp.seq ?_
      refine AWp.then ⟨[⟨19, none, .lit (.bool (pickB (ltI s1.1 (lenL x0)) (ltI s1.1 18) false))⟩, ⟨6, none, .lit (.int .i64 s1.1)⟩, ⟨5, none, .lit (.string s1.2)⟩, ⟨0, none, .sl (x0.map (eNum .i32)) .no⟩, ⟨1, none, .lit (.int .i64 x1)⟩], []⟩ (AWp.reg Tryd.tyOk hΓ (keep := [19]) (dead := []) (by kernel_rfl) rfl (by simp)) ?_
      refine AWp.cond (b := (pickB (ltI s1.1 (lenL x0)) (ltI s1.1 18) false)) (by simp) (fun h28 => ?_) (fun h28 => ?_)
      · have hr := cond_t h28 hr
        refine AWp.skip ?_
        refine AWp.seq ?_
        refine AWp.block ?_
        obtain ⟨h29, hr⟩ := need_some hr
        obtain ⟨h30, hr⟩ := need_some hr
        refine AWp.then ⟨[⟨5, none, .lit (.string (catS s1.2 (Utf8.encode (nthI x0 s1.1))))⟩, ⟨6, none, .lit (.int .i64 s1.1)⟩, ⟨0, none, .sl (x0.map (eNum .i32)) .no⟩, ⟨1, none, .lit (.int .i64 x1)⟩], []⟩ (AWp.reg Tryd.tyOk hΓ (keep := [5]) (dead := [19]) (by kernel_rfl) rfl (by simp [h28, h29, h30])) ?_
        obtain ⟨h31, hr⟩ := need_some hr
        obtain ⟨r2, h32, hr⟩ := bind_some' hr
        obtain ⟨h33, hr⟩ := need_some hr
        obtain ⟨r3, h34, hr⟩ := bind_some' hr
        refine AWp.then ⟨[⟨39, none, .lit (.bool (neI r2 r3))⟩, ⟨5, none, .lit (.string (catS s1.2 (Utf8.encode (nthI x0 s1.1))))⟩, ⟨6, none, .lit (.int .i64 s1.1)⟩, ⟨0, none, .sl (x0.map (eNum .i32)) .no⟩, ⟨1, none, .lit (.int .i64 x1)⟩], []⟩ (AWp.regD Tryd.mixed Tryd.tyOk hΓ (keep := [39]) (dead := []) [] [(false, []), (false, []), (false, []), (false, []), (false, []), (false, []), (false, []), (false, []), (false, []), (false, []), (false, [])] (by kernel_rfl) rfl (by simp [h29, h32, h34])) ?_
        refine AWp.cond (b := (neI r2 r3)) (by simp) (fun h35 => ?_) (fun h35 => ?_)
        · have hr := cond_t h35 hr
          refine AWp.then ⟨[⟨4, none, .lit (.bool false)⟩], []⟩ (AWp.reg Tryd.tyOk hΓ (keep := [4]) (dead := [39, 5, 6, 0, 1]) (by kernel_rfl) rfl (by simp [h35])) ?_
          refine AWp.ret ?_
          obtain rfl := some_inj hr
          refine round_ret ?_
          refine fin_ret ?_
          simp
        · have hr := cond_f h35 hr
          refine AWp.skip ?_
          refine AWp.last ⟨[⟨6, none, .lit (.int .i64 (addI .i64 s1.1 1))⟩, ⟨5, none, .lit (.string (catS s1.2 (Utf8.encode (nthI x0 s1.1))))⟩, ⟨0, none, .sl (x0.map (eNum .i32)) .no⟩, ⟨1, none, .lit (.int .i64 x1)⟩], []⟩ (AWp.reg Tryd.tyOk hΓ (keep := [6]) (dead := [39]) (by kernel_rfl) rfl (by simp [h35])) ?_
          obtain rfl := some_inj hr
          exact round_go () 0 (by first | (simp; done) | simp [h26, h27, h28, h29, h30, h31, h32, h33, h34, h35])
      · have hr := cond_f h28 hr
        refine AWp.exit ?_
        obtain rfl := some_inj hr
        exact round_out () 0 (by first | (simp; done) | simp [h26, h27, h28])
    · refine AWp.conv hc ?_
      refine AWp.seq ?_
      obtain ⟨r4, h36, hr⟩ := bind_some' hr
      obtain ⟨r5, h37, hr⟩ := bind_some' hr
      refine AWp.then ⟨[⟨45, none, .lit (.bool (neB (eqI r4 0) r5))⟩, ⟨5, none, .lit (.string v1)⟩, ⟨1, none, .lit (.int .i64 x1)⟩], []⟩ (AWp.reg Tryd.tyOk hΓ (keep := [45]) (dead := []) (by kernel_rfl) rfl (by simp [h36, h37])) ?_
      refine AWp.cond (b := (neB (eqI r4 0) r5)) (by simp) (fun h38 => ?_) (fun h38 => ?_)
      · have hr := cond_t h38 hr
        refine AWp.then ⟨[⟨4, none, .lit (.bool false)⟩], []⟩ (AWp.reg Tryd.tyOk hΓ (keep := [4]) (dead := [45, 5, 1]) (by kernel_rfl) rfl (by simp [h38])) ?_
        refine AWp.ret ?_
        obtain rfl := some_inj hr
        refine fin_ret ?_
        simp
      · have hr := cond_f h38 hr
        refine AWp.skip ?_
        refine AWp.seq ?_
        refine AWp.then ⟨[⟨48, none, .lit (.bool (notB r5))⟩, ⟨5, none, .lit (.string v1)⟩, ⟨1, none, .lit (.int .i64 x1)⟩], []⟩ (AWp.reg Tryd.tyOk hΓ (keep := [48]) (dead := [45]) (by kernel_rfl) rfl (by simp [h37, h38])) ?_
        refine AWp.cond (b := (notB r5)) (by simp) (fun h39 => ?_) (fun h39 => ?_)
        · have hr := cond_t h39 hr
          refine AWp.then ⟨[⟨4, none, .lit (.bool true)⟩], []⟩ (AWp.reg Tryd.tyOk hΓ (keep := [4]) (dead := [48, 5, 1]) (by kernel_rfl) rfl (by simp [h39])) ?_
          refine AWp.ret ?_
          obtain rfl := some_inj hr
          refine fin_ret ?_
          simp
        · have hr := cond_f h39 hr
          refine AWp.skip ?_
          obtain ⟨r6, h40, hr⟩ := bind_some' hr
          refine AWp.then ⟨[⟨7, none, .sl (r6.1.map (eNum .i32)) .no⟩, ⟨5, none, .lit (.string v1)⟩, ⟨1, none, .lit (.int .i64 x1)⟩], []⟩ (AWp.reg Tryd.tyOk hΓ (keep := [7]) (dead := [48]) (by kernel_rfl) rfl (by simp [h39, h40])) ?_
          obtain ⟨r7, h41, hr⟩ := bind_some' hr
          refine AWp.then ⟨[⟨9, none, .lit (.string r7)⟩, ⟨7, none, .sl (r6.1.map (eNum .i32)) .no⟩, ⟨5, none, .lit (.string v1)⟩, ⟨1, none, .lit (.int .i64 x1)⟩], []⟩ (AWp.reg Tryd.tyOk hΓ (keep := [9]) (dead := []) (by kernel_rfl) rfl (by simp [h41])) ?_
          obtain ⟨r8, h42, hr⟩ := bind_some' hr
          obtain ⟨h43, hr⟩ := need_some hr
          obtain ⟨h44, hr⟩ := need_some hr
          obtain ⟨h45, hr⟩ := need_some hr
          obtain ⟨h46, hr⟩ := need_some hr
          obtain ⟨h47, hr⟩ := need_some hr
          obtain ⟨h48, hr⟩ := need_some hr
          obtain ⟨h49, hr⟩ := need_some hr
          obtain ⟨h50, hr⟩ := need_some hr
          refine AWp.then ⟨[⟨4, none, .lit (.bool (pickB (pickB (pickB (pickB (eqI r8 (lenL r6.1)) (eqS ((gLabelFold v1).getD dflt) ((gRef06Fold v1).getD dflt)) false) (eqS r7 ((gRef06Short v1 x1).getD dflt)) false) (pickB (eqS r7 ⟨#[]⟩) true (eqI ((gLabelCheck r7).getD dflt) 0)) false) (eqS ((gLabelFold ((gLabelFold v1).getD dflt)).getD dflt) ((gRef06Fold ((gRef06Fold v1).getD dflt)).getD dflt)) false))⟩], []⟩ (AWp.reg Tryd.tyOk hΓ (keep := [4]) (dead := [9, 7, 5, 1]) (by kernel_rfl) rfl (by simp [h42, h43, h44, h45, h46, h47, h48, h49, h50])) ?_
          refine AWp.ret ?_
          obtain rfl := some_inj hr
          refine fin_ret ?_
          simp

@[simp] noncomputable def gLaw06LabelRunes.S : Sp
  | [.sl e0 _, .lit (.int .i64 x1)], _ => some { av := .lit (.bool ((gLaw06LabelRunes (e0.map decI) x1).getD dflt)), M := none, obl := e0 = (e0.map decI).map (eNum .i32) ∧ (gLaw06LabelRunes (e0.map decI) x1).isSome = true }
  | _, _ => none

set_option maxHeartbeats 1000000 in
theorem gLaw06LabelRunes.ok : SpecOk Tryd.prog 5 gLaw06LabelRunes.S := by
  intro l M out h
  unfold gLaw06LabelRunes.S at h
  split at h
  · rename_i e0 k0 x1
    cases h
    refine callOk_of fun ho => ?_
    obtain ⟨ox0, hs⟩ := ho
    generalize (e0.map decI) = x0 at *
    subst ox0
    obtain ⟨r, hr⟩ := Option.isSome_iff_exists.1 hs
    simp only [hr, Option.getD_some]
    have q := call_frame (M := M) [] (gLaw06LabelRunes.can x0 x1 r hr) (by simp) rfl (by intro k i hk; simp at hk)
    exact callOk_conv q trivial (by simp) (by simp [frameOut, gLaw06LabelRunes.out]) (by simp [frameOut, gLaw06LabelRunes.out])
  · cases h
end Go.Proofs
