/- What these functions compute, as plain functions. No condition. -/
import Derived.Test.YtjjjeolcapebbaaGreatDoorM07
import Derived.Test.YtjjjeolcapebbaaGreatDoorM04
import Derived.Test.YtjjjeolcapebbaaGreatDoorM11
import Derived.Test.YtjjjeolcapebbaaGreatDoorTy
import Derived.Test.YtjjjeolcapebbaaGreatDoorSx
import Derived.Test.YtjjjeolcapebbaaGreatDoorPb
import Derived.Test.YtjjjeolcapebbaaGreatDoorSw
import Derived.Test.YtjjjeolcapebbaaGreatDoorAb5
import Derived.Test.YtjjjeolcapebbaaGreatDoorM10
import Derived.Stop.Joined
section
namespace Go.Proofs
open Go.Ab
noncomputable def gLaw26Awake : Option Bool :=
  (gAwakeP).bind fun r1 =>
  some r1
end Go.Proofs
end
section
namespace Go.Proofs
open Go.Ab
def gAccessNew : Option Unit := some ()
noncomputable def gSfuNew (x0 : SfuConfig) : Option (Option Unit × Int) :=
  ((gSfuConfigCheck (SfuConfig.mk (IngressConfig.mk (ReorderConfig.mk x0.fIngress.fOrder.fMost x0.fIngress.fOrder.fWait) x0.fIngress.fFrame) x0.fEgress x0.fPli x0.fStall x0.fLadder x0.fNeeds x0.fWindow x0.fRing x0.fAgain x0.fGap x0.fShare x0.fReports))).bind fun r1 =>
  bif (neI r1 0) then (
    some (none, r1)
  ) else (
    some (some (), 0)
  )
end Go.Proofs
end
section
namespace Go.Proofs
open Go.Ab
noncomputable def gLaw26Config : Option SfuConfig :=
  some (SfuConfig.mk (IngressConfig.mk (ReorderConfig.mk 8 5) (FrameConfig.mk true 200 6 10)) (EgressConfig.mk 6 400 20 100 3) (PliConfig.mk 3 12) (StallConfig.mk 15 10) (LadderConfig.mk 3 5 2) [50, 200, 500] 50 32 2 2 100 25)

noncomputable def gLaw26SfuMay.loop2 (v1 : List Int) (s2 : Int × Bool) : Option (Fl (Int × Bool) (Fl Bool Bool)) :=
  bif (ltI s2.1 (lenL v1)) then (
    need (InB s2.1 (lenL v1)) <|
    need (Under (ltI 0 s2.1) true (Under (pickB (ltI (nthI v1 s2.1) 0) true (ltI 1099511627776 (nthI v1 s2.1))) false (InB (subI .i64 s2.1 1) (lenL v1)))) <|
    bif (pickB (pickB (ltI (nthI v1 s2.1) 0) true (ltI 1099511627776 (nthI v1 s2.1))) true (pickB (ltI 0 s2.1) (ltI (nthI v1 s2.1) (nthI v1 (subI .i64 s2.1 1))) false)) then (
      some (.go ((addI .i64 s2.1 1), false))
    ) else (
      some (.go ((addI .i64 s2.1 1), s2.2))
    )
  ) else (
    some (.out (.go s2.2))
  )

noncomputable def gLaw26SfuMay (x0 : List Int) (x1 : Int) (x2 : Int) (x3 : Int) (x4 : Int) : Option Bool :=
  (gLaw26Config).bind fun r1 =>
  ((
    bif (ltI 5 (lenL x0)) then (
      need (CutB 0 5 (lenL x0)) <|
      some (.go (cutL x0 0 5))
    ) else (
      some (.go x0)
    )
    : Option (Fl (List Int) Bool)).bind fun f => flC f fun (v1 : List Int) =>
    ((loopF (gLaw26SfuMay.loop2 v1) (0, (pickB (pickB (pickB (pickB (pickB (pickB (pickB (pickB (eqI (lenL v1) 3) (leqI 1 x1) false) (leqI x1 1048576) false) (leqI 1 x2) false) (leqI x2 4096) false) (leqI r1.fEgress.fMost x3) false) (leqI x3 16777216) false) (leqI 1 x4) false) (leqI x4 1099511627776) false))).bind fun f => flC f fun (v2 : Bool) =>
      ((gSfuNew (SfuConfig.mk (IngressConfig.mk (ReorderConfig.mk r1.fIngress.fOrder.fMost r1.fIngress.fOrder.fWait) r1.fIngress.fFrame) r1.fEgress r1.fPli r1.fStall r1.fLadder v1 x1 x2 r1.fAgain r1.fGap x3 x4))).bind fun r2 =>
      optC r2.1 (
        (gLaw26Awake).bind fun r3 =>
        need (Under (pickB (pickB r3 (eqB (eqI r2.2 0) v2) false) (eqB false v2) false) true ((gSfuConfigCheck (SfuConfig.mk (IngressConfig.mk (ReorderConfig.mk r1.fIngress.fOrder.fMost r1.fIngress.fOrder.fWait) r1.fIngress.fFrame) r1.fEgress r1.fPli r1.fStall r1.fLadder v1 x1 x2 r1.fAgain r1.fGap x3 x4)).isSome = true)) <|
        some (pickB (pickB (pickB (pickB r3 (eqB (eqI r2.2 0) v2) false) (eqB false v2) false) (eqI ((gSfuConfigCheck (SfuConfig.mk (IngressConfig.mk (ReorderConfig.mk r1.fIngress.fOrder.fMost r1.fIngress.fOrder.fWait) r1.fIngress.fFrame) r1.fEgress r1.fPli r1.fStall r1.fLadder v1 x1 x2 r1.fAgain r1.fGap x3 x4)).getD dflt) r2.2) false) (pickB v2 true (eqI r2.2 5)) false)
      ) fun _o1 => (
        (gLaw26Awake).bind fun r3 =>
        need (Under (pickB (pickB r3 (eqB (eqI r2.2 0) v2) false) (eqB true v2) false) true ((gSfuConfigCheck (SfuConfig.mk (IngressConfig.mk (ReorderConfig.mk r1.fIngress.fOrder.fMost r1.fIngress.fOrder.fWait) r1.fIngress.fFrame) r1.fEgress r1.fPli r1.fStall r1.fLadder v1 x1 x2 r1.fAgain r1.fGap x3 x4)).isSome = true)) <|
        some (pickB (pickB (pickB (pickB r3 (eqB (eqI r2.2 0) v2) false) (eqB true v2) false) (eqI ((gSfuConfigCheck (SfuConfig.mk (IngressConfig.mk (ReorderConfig.mk r1.fIngress.fOrder.fMost r1.fIngress.fOrder.fWait) r1.fIngress.fFrame) r1.fEgress r1.fPli r1.fStall r1.fLadder v1 x1 x2 r1.fAgain r1.fGap x3 x4)).getD dflt) r2.2) false) (pickB v2 true (eqI r2.2 5)) false)
      )
    )
  )
end Go.Proofs
end
section
namespace Go.Proofs
open Go.Ab
@[simp] def gLaw26Awake.out  (r : Bool) : Out := { av := .lit (.bool r), M := none }
set_option maxHeartbeats 4000000 in
set_option maxRecDepth 100000 in
theorem gLaw26Awake.can  (r : Bool) (hr : gLaw26Awake = some r) : CallOk Tryz.prog 6 [] [] (gLaw26Awake.out  r) := by
  unfold gLaw26Awake at hr
  obtain ⟨r1, h1, hr⟩ := bind_some' (show (gAwakeP ).bind (fun r1 => some r1) = some r from hr)
  obtain rfl := some_inj hr
  exact gAwakeP.can  _ h1

@[simp] noncomputable def gLaw26Awake.S : Sp
  | [], _ => some { av := .lit (.bool (gLaw26Awake.getD dflt)), M := none, obl := gLaw26Awake.isSome = true }
  | _, _ => none

set_option maxHeartbeats 1000000 in
theorem gLaw26Awake.ok : SpecOk Tryz.prog 6 gLaw26Awake.S := by
  intro l M out h
  unfold gLaw26Awake.S at h
  split at h
  · cases h
    refine callOk_of fun ho => ?_
    have hs := ho
    obtain ⟨r, hr⟩ := so1 hs
    simp only [hr, gd1]
    have q := call_frame (M := M) [] (gLaw26Awake.can r hr) (by simp) rfl ixn
    exact callOk_conv q trivial (by simp) (by simp [frameOut]) (by simp [frameOut])
  · cases h
end Go.Proofs
end
section
namespace Go.Proofs
open Go.Ab
@[simp] noncomputable def gAccessNew.S : Sp
  | [], M => some { av := .ptr (M.length + 5) 0, M := some (M ++ [.mapo [], .blk [.mp M.length, .lit (.int .i64 0)], .mapo [], .mapo [], .mapo [], .blk [.ptr (M.length + 1) 0, .mp (M.length + 2), .mp (M.length + 3), .mp (M.length + 4)]]) }
  | _, _ => none
theorem accessNew_run : evF Tryz.ev 1000 8 [] [] = some { av := .ptr 5 0, M := some [.mapo [], .blk [.mp 0, .lit (.int .i64 0)], .mapo [], .mapo [], .mapo [], .blk [.ptr 1 0, .mp 2, .mp 3, .mp 4]] } := by kernel_rfl
theorem gAccessNew.ok : SpecOk Tryz.prog 8 gAccessNew.S := by
  intro l M out h
  unfold gAccessNew.S at h
  split at h
  · cases h
    have q := call_frame (M := M) [] (evF_ok Tryz.evOk 1000 accessNew_run) (by simp) rfl ixn
    exact callOk_conv q trivial (by simp) (by simp [frameOut, into]) (by simp [frameOut, into])
  · cases h
@[simp] def gSfuNew.out (r : Option Unit × Int) : Out := { av := .tup [(optC r.1 (.lit (.pointer none)) fun _ => .ptr 12 0), .lit (.int .i64 r.2)], M := some (optC r.1 [] fun _ => [.dead, .dead, .dead, .dead, .dead, .dead, .dead, .dead, .dead, .dead, .dead, .dead, .dead]) }
set_option maxHeartbeats 4000000 in
set_option maxRecDepth 100000 in
theorem gSfuNew.can (x0 : SfuConfig) (r : Option Unit × Int) (hr : gSfuNew x0 = some r) : CallOk Tryz.prog 5 [.agg [.lit (.int .i64 x0.fIngress.fOrder.fMost), .lit (.int .i64 x0.fIngress.fOrder.fWait), .lit (.bool x0.fIngress.fFrame.fVideo), .lit (.int .i64 x0.fIngress.fFrame.fBytes), .lit (.int .i64 x0.fIngress.fFrame.fUnits), .lit (.int .i64 x0.fIngress.fFrame.fWait), .lit (.int .i64 x0.fEgress.fFrames), .lit (.int .i64 x0.fEgress.fBytes), .lit (.int .i64 x0.fEgress.fAge), .lit (.int .i64 x0.fEgress.fMost), .lit (.int .i64 x0.fEgress.fGuard), .lit (.int .i64 x0.fPli.fFirst), .lit (.int .i64 x0.fPli.fMost), .lit (.int .i64 x0.fStall.fAfter), .lit (.int .i64 x0.fStall.fRest), .lit (.int .i64 x0.fLadder.fDown), .lit (.int .i64 x0.fLadder.fUp), .lit (.int .i64 x0.fLadder.fSpare), .sl (x0.fNeeds.map (eNum .i64)) .no, .lit (.int .i64 x0.fWindow), .lit (.int .i64 x0.fRing), .lit (.int .i64 x0.fAgain), .lit (.int .i64 x0.fGap), .lit (.int .i64 x0.fShare), .lit (.int .i64 x0.fReports)]] [] (gSfuNew.out r) := by
  unfold gSfuNew at hr
  have hΓ := (gamL_cons gSfuConfigCheck.ok (gamL_cons gAccessNew.ok (gamL_nil)) : GamOk Tryz.prog _)
  refine cw Tryz.func5 rfl (by kernel_rfl) rfl rfl (by simp) fun _ _ _ => ?_
  refine tq hΓ [1] [0] ?_
  refine AWp.seq ?_
  obtain ⟨r1, h1, hr⟩ := bind_some' hr
  refine tq hΓ [4] [] ?_ (by simp [h1]; exact rr)
  refine tq hΓ [8] [] ?_ (by simp; exact rr)
  refine AWp.cnd hr (by simp) (fun h2 hr => ?_) (fun h2 hr => ?_)
  · refine tq hΓ [2, 3] [8, 4, 1] ?_ (by simp [h2]; exact rr)
    obtain rfl := some_inj hr
    exact AWp.ret (fin_ret (by simp))
  · refine AWp.skip ?_
    refine td hΓ [2, 3] [8, 4, 1] [(0, 2), (0, 3), (0, 4), (0, 5), (0, 6), (0, 7)] [(false, []), (true, []), (true, []), (true, []), (true, []), (true, []), (true, []), (false, []), (true, []), (false, []), (false, [])] (by simp [h2]; exact rr) ?_
    obtain rfl := some_inj hr
    exact AWp.ret (fin_ret (by simp))
@[simp] noncomputable def gSfuNew.S : Sp
  | [.agg e0], M => some { av := .tup [(optC (((gSfuNew (SfuConfig.dec e0)).getD dflt).1) (.lit (.pointer none)) fun _ => .ptr (M.length + 12) 0), .lit (.int .i64 (((gSfuNew (SfuConfig.dec e0)).getD dflt).2))], M := some (optC (((gSfuNew (SfuConfig.dec e0)).getD dflt).1) M fun _ => M ++ [.dead, .dead, .dead, .dead, .dead, .dead, .dead, .dead, .dead, .dead, .dead, .dead, .dead]), obl := WeakL e0 (SfuConfig.enc (SfuConfig.dec e0)) ∧ (gSfuNew (SfuConfig.dec e0)).isSome = true }
  | _, _ => none
set_option maxHeartbeats 1000000 in
theorem gSfuNew.ok : SpecOk Tryz.prog 5 gSfuNew.S := by
  intro l M out h
  unfold gSfuNew.S at h
  split at h
  · rename_i e0
    cases h
    refine callOk_of fun ho => ?_
    obtain ⟨ox0, hs⟩ := ho
    generalize (SfuConfig.dec e0) = x0 at *
    obtain ⟨r, hr⟩ := so1 hs
    simp only [hr, gd1]
    have q := call_frame (M := M) [] (gSfuNew.can x0 r hr) (by simp) rfl ixn
    cases hc : r.1 with
    | none => exact callOk_conv q trivial (by simp; exact ox0) (by simp [hc, frameOut]) (by simp [hc, frameOut])
    | some m0 => exact callOk_conv q trivial (by simp; exact ox0) (by simp [hc, frameOut, into]) (by simp [hc, frameOut, into])
  · cases h
end Go.Proofs
end
section
namespace Go.Ab
/-! ### Numbers -/
theorem wrap64_of {n : Int} (h0 : -9223372036854775808 ≤ n) (h1 : n < 9223372036854775808) : IntKind.i64.wrap n = n := by
  rw [IntKind.wrap_i64]; omega

end Go.Ab
end
section
namespace Go.Ab
theorem eqI_d (a b : Int) : eqI a b = decide (a = b) := by
  unfold eqI; by_cases h : a = b <;> simp [h]
theorem neI_d (a b : Int) : neI a b = decide (a ≠ b) := by
  unfold neI; by_cases h : a = b <;> simp [h]
theorem ltI_d (a b : Int) : ltI a b = decide (a < b) := rfl
theorem leI_d (a b : Int) : leqI a b = decide (a ≤ b) := rfl
theorem ltI_t {a b : Int} (h : a < b) : ltI a b = true := decide_eq_true h
theorem ltI_f {a b : Int} (h : ¬ a < b) : ltI a b = false := decide_eq_false h
theorem notB_d (a : Bool) : notB a = !a := rfl
theorem addI_n {a b : Int} (h0 : -9223372036854775808 ≤ a + b) (h1 : a + b < 9223372036854775808) : addI .i64 a b = a + b := wrap64_of h0 h1
theorem subI_n {a b : Int} (h0 : -9223372036854775808 ≤ a - b) (h1 : a - b < 9223372036854775808) : subI .i64 a b = a - b := wrap64_of h0 h1
theorem need_t {α : Type} {p : Prop} {x : Option α} (h : p) : need p x = x := by unfold need; rw [if_pos h]
@[simp] theorem flC_go {V X : Type} (v : V) (k : V → Option X) : flC (.go v) k = k v := rfl
@[simp] theorem flC_out {V X : Type} (x : X) (k : V → Option X) : flC (.out x) k = some x := rfl
@[simp] theorem bind_so {α β : Type} (x : α) (k : α → Option β) : (some x).bind k = k x := rfl
@[simp] theorem getD_so {α : Type} (x y : α) : (some x).getD y = x := rfl
theorem optC_none {α β : Type} (x : α) (k : β → α) : optC (none : Option β) x k = x := rfl
theorem optC_some {α β : Type} (b : β) (x : α) (k : β → α) : optC (some b) x k = k b := rfl
end Go.Ab
end
section
namespace Go.Ab
open Go.ChangeShapes Go.WideShapes Go.ChangeAt Go.RowKit

variable {H : Type} {enc : TypeId × Value → H} {P : Program}

/-- The same of a row that lays variables. -/
theorem law_lifted_laid {C : Checked} {os : Os} {f : FuncId} {fn : Func} {s : ChangeSpec} {conds : List PathCond} {tb : TypeId} {l : List TypeId} {laid : List (String × DataW Unit)}
    (own : ownKnob C.prog.godebug = none) (started : os.Started) (noInit : C.prog.inits.idxOf? f = none) (hfn : C.prog.funcs[f]? = some fn)
    (witness : ∃ (w : World) (tape : Tape) (i : Input), w.os = os ∧ (w.forCall tape i).Shaped C.prog ∧ i.vars = [] ∧ Input.okWide C.prog (w.forCall tape i) .any w.heap.size f i ∧
      ((s.pre enc C.prog fn conds false (w.forCall tape i).memory i.args ∧ laidMetH C.prog laid (w.forCall tape i).memory) ∧ sizedMet enc C.prog fn (OpenSpec.ofChange s) false (w.forCall tape i).memory i.args) ∧ ({} : Assume).holds C.prog (lone (Frame.enter C.prog f i.args .normal) [] (w.forCall tape i)))
    (hvars : s.vars = []) (hres : fn.resultTypes = #[tb]) (htb : C.prog.underlying tb = some .bool)
    (hspec : ∀ ds : List (DataW H), ds.length = fn.params.toList.length → s.fn H ds = { results := [.lit (.bool true)], args := ds })
    (K : Kids C.prog (· < C.prog.types.size)) (hz : ((List.range C.prog.types.size).all fun t => match C.prog.underlying t with | some (.slice e) => decide (0 < C.prog.cellsOf e) | _ => true) = true)
    (hl : flatB C.prog l = true) (hT : topB C.prog l fn.params.toList = true)
    (call : ∀ avl, ShAll C.prog fn.params.toList avl → ∃ o : Prop, o ∧ CallOk C.prog f avl [] { av := .lit (.bool true), obl := o })
    (hF : ∀ w : World, laidMetH C.prog laid w → ∀ w' : World, (∀ b, b < w.heap.size → w'.heap[b]? = w.heap[b]?) → fctF w') :
    ReturnsInHanded {} C os f .any (fun w args => (s.pre enc C.prog fn conds false w args ∧ laidMetH C.prog laid w) ∧ sizedMet enc C.prog fn (OpenSpec.ofChange s) false w args) (s.post enc C.prog fn false true false false) := by
  refine returnsInHanded_of_change_and (X := fun w _ => laidMetH C.prog laid w) (fun _ _ _ hh h => h.of_heap hh) own started noInit hfn witness ?_
  intro W base args ds gs before hval hW _ _ hL _
  exact law_contract hvars hres htb hspec K hz hl hT call W (hF W hL) base args ds gs before hval hW

end Go.Ab
end
