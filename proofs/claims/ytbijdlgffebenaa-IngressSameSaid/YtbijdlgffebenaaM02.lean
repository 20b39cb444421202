/- What these functions compute, as plain functions. No condition. -/
import Derived.Test.YtbijdlgffebenaaTs
import Derived.Test.YtbijdlgffebenaaM04
import Derived.Test.YtbijdlgffebenaaTy
section
namespace Go.Proofs
open Go.Ab
noncomputable def gOctetWriterNum.loop2 (x2 : List Int) (s1 : Int × List Int) (s2 : Int × List Int) : Option (Fl (Int × List Int) (Fl (List Int) (Fl (Int × List Int) (Fl (List Int) (List Int))))) :=
  bif (leqI 0 s2.1) then (
    need (NonN (mulI .i64 8 s2.1)) <|
    need (AppB (lenL s2.2) 1 1) <|
    some (.go ((subI .i64 s2.1 1), (appL s2.2 [(cvtI .u8 (shrI .u64 (nthI x2 s1.1) (mulI .i64 8 s2.1)))])))
  ) else (
    some (.out (.go s2.2))
  )

noncomputable def gOctetWriterNum.loop1 (x1 : Int) (x2 : List Int) (s1 : Int × List Int) : Option (Fl (Int × List Int) (Fl (List Int) (List Int))) :=
  bif (ltI s1.1 (lenL x2)) then (
    need (InB s1.1 (lenL x2)) <|
    ((loopF (gOctetWriterNum.loop2 x2 s1) ((subI .i64 (minI (maxI x1 1) 8) 1), s1.2)).bind fun f => flC f fun (v2 : List Int) =>
      some (.go ((addI .i64 s1.1 1), v2))
    )
  ) else (
    some (.out (.go s1.2))
  )

noncomputable def gOctetWriterNum (x0 : List Int) (x1 : Int) (x2 : List Int) : Option (List Int) :=
  ((loopF (gOctetWriterNum.loop1 x1 x2) (0, x0)).bind fun f => flC f fun (v1 : List Int) =>
    some v1
  )

noncomputable def gOctetWriterU16.loop1 (x1 : List Int) (s1 : Int × List Int) : Option (Fl (Int × List Int) (Fl (List Int) (List Int))) :=
  bif (ltI s1.1 (lenL x1)) then (
    need (InB s1.1 (lenL x1)) <|
    ((gOctetWriterNum s1.2 2 [(cvtI .u64 (nthI x1 s1.1))])).bind fun r1 =>
    some (.go ((addI .i64 s1.1 1), r1))
  ) else (
    some (.out (.go s1.2))
  )

noncomputable def gOctetWriterU16 (x0 : List Int) (x1 : List Int) : Option (List Int) :=
  ((loopF (gOctetWriterU16.loop1 x1) (0, x0)).bind fun f => flC f fun (v1 : List Int) =>
    some v1
  )
end Go.Proofs
end
section
namespace Go.Proofs
open Go.Ab
@[simp] def gSlicesMinInt64Int64.out (_x0 : List Int) (r : Int) : Out := { av := .lit (.int .i64 r), M := none }
def gSlicesMinInt64Int64.fin (x0 : List Int) (r : Int) (σ : St) : Prop := finK (gSlicesMinInt64Int64.out x0 r) [] σ.M (resA Try.ty σ.A σ.M Try.f58.results.toList)
set_option maxHeartbeats 4000000 in
set_option maxRecDepth 100000 in
theorem gSlicesMinInt64Int64.can (x0 : List Int) (r : Int) (hr : gSlicesMinInt64Int64 x0 = some r) : CallOk Try.prog 58 [.sl (x0.map (eNum .i64)) .no] [] (gSlicesMinInt64Int64.out x0 r) := by
  unfold gSlicesMinInt64Int64 at hr
  have hΓ := gamL_nil (P := Try.prog)
  refine call_of_awp Try.tyOk Try.func58 rfl (by kernel_rfl) rfl rfl (by simp) ?_
  intro _ _ _
  refine AWp.then ⟨[⟨0, none, .sl (x0.map (eNum .i64)) .no⟩], []⟩ (AWp.reg Try.tyOk hΓ (keep := []) (dead := []) (by kernel_rfl) rfl (by simp)) ?_
  refine AWp.meetF (fun (v1 : Unit) (γ1 : Unit) => ⟨[⟨0, none, .sl (x0.map (eNum .i64)) .no⟩], []⟩) (gSlicesMinInt64Int64.fin x0) hr (fun f hr => ?_) (fun v1 γ1 hr => ?_) (fun _ h => h)
  · refine AWp.then ⟨[⟨7, none, .lit (.bool (ltI (lenL x0) 1))⟩, ⟨0, none, .sl (x0.map (eNum .i64)) .no⟩], []⟩ (AWp.reg Try.tyOk hΓ (keep := [7]) (dead := []) (by kernel_rfl) rfl (by simp)) ?_
    refine AWp.cond (b := (ltI (lenL x0) 1)) (by simp) (fun h5 => ?_) (fun h5 => ?_)
    · have hr := cond_t h5 hr
      cases hr
    · have hr := cond_f h5 hr
      refine AWp.skip ?_
      obtain rfl := some_inj hr
      exact meet_go () 0 (by first | (simp; done) | simp [h5])
  · obtain ⟨h6, hr⟩ := need_some hr
    refine AWp.then ⟨[⟨3, none, .lit (.int .i64 (nthI x0 0))⟩, ⟨0, none, .sl (x0.map (eNum .i64)) .no⟩], []⟩ (AWp.reg Try.tyOk hΓ (keep := [3]) (dead := []) (by kernel_rfl) rfl (by simp [h6])) ?_
    refine AWp.seq ?_
    refine AWp.then ⟨[⟨4, none, .lit (.int .i64 1)⟩, ⟨3, none, .lit (.int .i64 (nthI x0 0))⟩, ⟨0, none, .sl (x0.map (eNum .i64)) .no⟩], []⟩ (AWp.reg Try.tyOk hΓ (keep := [4]) (dead := []) (by kernel_rfl) rfl (by simp)) ?_
    refine AWp.loopE (fun (s2 : Int × Int) (γ2 : Unit) => ⟨[⟨4, none, .lit (.int .i64 s2.1)⟩, ⟨3, none, .lit (.int .i64 s2.2)⟩, ⟨0, none, .sl (x0.map (eNum .i64)) .no⟩], []⟩) (fun (v2 : Int) (γ2a : Unit) => ⟨[⟨3, none, .lit (.int .i64 v2)⟩], []⟩) (gSlicesMinInt64Int64.fin x0) hr () 0 (by simp) (fun s2 f γ2 hr => ?_) (fun v2 γ2a σ1 m1 hr hc => ?_) (fun _ h => h)
    · unfold gSlicesMinInt64Int64.loop2 at hr
      refine AWp.seq ?_
      refine AWp.then ⟨[⟨15, none, .lit (.bool (ltI s2.1 (lenL x0)))⟩, ⟨4, none, .lit (.int .i64 s2.1)⟩, ⟨3, none, .lit (.int .i64 s2.2)⟩, ⟨0, none, .sl (x0.map (eNum .i64)) .no⟩], []⟩ (AWp.reg Try.tyOk hΓ (keep := [15]) (dead := []) (by kernel_rfl) rfl (by simp)) ?_
      refine AWp.cond (b := (ltI s2.1 (lenL x0))) (by simp) (fun h7 => ?_) (fun h7 => ?_)
      · have hr := cond_t h7 hr
        refine AWp.skip ?_
        refine AWp.seq ?_
        refine AWp.block ?_
        obtain ⟨h8, hr⟩ := need_some hr
        refine AWp.last ⟨[⟨3, none, .lit (.int .i64 (minI s2.2 (nthI x0 s2.1)))⟩, ⟨4, none, .lit (.int .i64 s2.1)⟩, ⟨0, none, .sl (x0.map (eNum .i64)) .no⟩], []⟩ (AWp.reg Try.tyOk hΓ (keep := [3]) (dead := [15]) (by kernel_rfl) rfl (by simp [h7, h8])) ?_
        refine AWp.last ⟨[⟨4, none, .lit (.int .i64 (addI .i64 s2.1 1))⟩, ⟨3, none, .lit (.int .i64 (minI s2.2 (nthI x0 s2.1)))⟩, ⟨0, none, .sl (x0.map (eNum .i64)) .no⟩], []⟩ (AWp.reg Try.tyOk hΓ (keep := [4]) (dead := []) (by kernel_rfl) rfl (by simp)) ?_
        obtain rfl := some_inj hr
        exact round_go () 0 (by first | (simp; done) | simp [h6, h7, h8])
      · have hr := cond_f h7 hr
        refine AWp.exit ?_
        obtain rfl := some_inj hr
        exact round_out () 0 (by first | (simp; done) | simp [h6, h7])
    · refine AWp.conv hc ?_
      refine AWp.then ⟨[⟨2, none, .lit (.int .i64 v2)⟩], []⟩ (AWp.reg Try.tyOk hΓ (keep := [2]) (dead := [3]) (by kernel_rfl) rfl (by simp)) ?_
      refine AWp.ret ?_
      obtain rfl := some_inj hr
      refine fin_ret ?_
      simp

@[simp] noncomputable def gSlicesMinInt64Int64.S : Sp
  | [.sl e0 _], _ => some { av := .lit (.int .i64 ((gSlicesMinInt64Int64 (e0.map decI)).getD dflt)), M := none, obl := e0 = (e0.map decI).map (eNum .i64) ∧ (gSlicesMinInt64Int64 (e0.map decI)).isSome = true }
  | _, _ => none

set_option maxHeartbeats 1000000 in
theorem gSlicesMinInt64Int64.ok : SpecOk Try.prog 58 gSlicesMinInt64Int64.S := by
  intro l M out h
  unfold gSlicesMinInt64Int64.S at h
  split at h
  · rename_i e0 k0
    cases h
    refine callOk_of fun ho => ?_
    obtain ⟨ox0, hs⟩ := ho
    generalize (e0.map decI) = x0 at *
    subst ox0
    obtain ⟨r, hr⟩ := Option.isSome_iff_exists.1 hs
    simp only [hr, Option.getD_some]
    have q := call_frame (M := M) [] (gSlicesMinInt64Int64.can x0 r hr) (by simp) rfl (by intro k i hk; simp at hk)
    exact callOk_conv q trivial (by simp) (by simp [frameOut, gSlicesMinInt64Int64.out]) (by simp [frameOut, gSlicesMinInt64Int64.out])
  · cases h
end Go.Proofs
end
section
namespace Go.Proofs
open Go.Ab
noncomputable def gRef10Drop (x0 : Antiphonref10Maker) : Option Antiphonref10Maker :=
  some (Antiphonref10Maker.mk x0.fVideo x0.fBytes x0.fUnits x0.fWait [] x0.fWhole (addI .i64 x0.fLost (lenL x0.fOpen)))

noncomputable def gRef10Size.loop1 (x0 : List Antiphonref10Unit) (s1 : Int × Int) : Option (Fl (Int × Int) (Fl Int Int)) :=
  bif (ltI s1.1 (lenL x0)) then (
    need (InB s1.1 (lenL x0)) <|
    some (.go ((addI .i64 s1.1 1), (addI .i64 s1.2 (lenS ((nthI x0 s1.1).fText)))))
  ) else (
    some (.out (.go s1.2))
  )

noncomputable def gRef10Size (x0 : List Antiphonref10Unit) : Option Int :=
  ((loopF (gRef10Size.loop1 x0) (0, 0)).bind fun f => flC f fun (v1 : Int) =>
    some v1
  )

noncomputable def gRef10Put (x0 : Antiphonref10Maker) (x1 : Antiphonref10Unit) : Option (Antiphonref10Maker × List Antiphonref10Unit) :=
  ((
    bif (ltI 0 (lenL x0.fOpen)) then (
      need (InB (subI .i64 (lenL x0.fOpen) 1) (lenL x0.fOpen)) <|
      some (.go (pickB (pickB (eqI x1.fAt (addI .i64 ((nthI x0.fOpen (subI .i64 (lenL x0.fOpen) 1)).fAt) 1)) (eqI x1.fTime ((nthI x0.fOpen (subI .i64 (lenL x0.fOpen) 1)).fTime)) false) (notB x1.fStart) false))
    ) else (
      some (.go false)
    )
    : Option (Fl Bool (Antiphonref10Maker × List Antiphonref10Unit))).bind fun f => flC f fun (v1 : Bool) =>
    ((
      bif (notB v1) then (
        ((gRef10Drop x0)).bind fun r1 =>
        some (.go r1)
      ) else (
        some (.go x0)
      )
      : Option (Fl Antiphonref10Maker (Antiphonref10Maker × List Antiphonref10Unit))).bind fun f => flC f fun (v2 : Antiphonref10Maker) =>
      bif (pickB (pickB (notB v1) v2.fVideo false) (notB x1.fStart) false) then (
        some ((Antiphonref10Maker.mk v2.fVideo v2.fBytes v2.fUnits v2.fWait v2.fOpen v2.fWhole (addI .i64 v2.fLost 1)), [])
      ) else (
        need (AppB 0 (lenL v2.fOpen) 48) <|
        need (AppB (lenL v2.fOpen) 1 48) <|
        need (Under (ltI v2.fUnits ((lenL v2.fOpen) + 1)) false ((gRef10Size (appL (appL [] v2.fOpen) [x1])).isSome = true)) <|
        bif (pickB (ltI v2.fUnits ((lenL v2.fOpen) + 1)) true (ltI v2.fBytes ((gRef10Size (appL (appL [] v2.fOpen) [x1])).getD dflt))) then (
          ((gRef10Drop (Antiphonref10Maker.mk v2.fVideo v2.fBytes v2.fUnits v2.fWait (appL (appL [] v2.fOpen) [x1]) v2.fWhole v2.fLost))).bind fun r2 =>
          some (r2, [])
        ) else (
          bif (pickB v2.fVideo (notB x1.fMarker) false) then (
            some ((Antiphonref10Maker.mk v2.fVideo v2.fBytes v2.fUnits v2.fWait (appL (appL [] v2.fOpen) [x1]) v2.fWhole v2.fLost), [])
          ) else (
            some ((Antiphonref10Maker.mk v2.fVideo v2.fBytes v2.fUnits v2.fWait [] (addI .i64 v2.fWhole 1) v2.fLost), (appL (appL [] v2.fOpen) [x1]))
          )
        )
      )
    )
  )

end Go.Proofs
end
