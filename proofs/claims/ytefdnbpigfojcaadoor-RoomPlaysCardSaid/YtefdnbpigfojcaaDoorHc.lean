/- That these functions compute what their plain functions do. No condition. -/
import Derived.Test.YtefdnbpigfojcaaDoorM08
import Derived.Test.YtefdnbpigfojcaaDoorTy
import Derived.Test.YtefdnbpigfojcaaDoorNb
namespace Go.Proofs
open Go.Ab
@[simp] def gRef12Find.out (_x0 : Antiphonref12Table) (_x1 : Int) (r : Antiphonref12Peer × Bool) : Out := { av := .tup [.agg [.lit (.int .i64 r.1.fN), .lit (.string r.1.fName), .lit (.string r.1.fRoom)], .lit (.bool r.2)], M := none }
def gRef12Find.fin (x0 : Antiphonref12Table) (x1 : Int) (r : Antiphonref12Peer × Bool) (σ : St) : Prop := finK (gRef12Find.out x0 x1 r) [] σ.M (resA Tryd.ty σ.A σ.M Tryd.f35.results.toList)
set_option maxHeartbeats 4000000 in
set_option maxRecDepth 100000 in
theorem gRef12Find.can (x0 : Antiphonref12Table) (x1 : Int) (r : Antiphonref12Peer × Bool) (hr : gRef12Find x0 x1 = some r) : CallOk Tryd.prog 35 [.agg [.sl (x0.fL.map Antiphonref12Peer.enc) .no, .lit (.int .i64 x0.fNext)], .lit (.int .i64 x1)] [] (gRef12Find.out x0 x1 r) := by
  unfold gRef12Find at hr
  have hΓ := gamL_nil (P := Tryd.prog)
  refine call_of_awp Tryd.tyOk Tryd.func35 rfl (by kernel_rfl) rfl rfl (by simp) ?_
  intro _ _ _
  refine AWp.then ⟨[⟨2, none, .ptr 0 0⟩, ⟨4, none, .ptr 1 0⟩, ⟨1, none, .lit (.int .i64 x1)⟩], [.blk x0.enc, .blk [.lit (.int .i64 0), .lit (.string ⟨#[]⟩), .lit (.string ⟨#[]⟩)]]⟩ (AWp.reg Tryd.tyOk hΓ (keep := [2, 4]) (dead := [0]) (by kernel_rfl) rfl (by simp)) ?_
  refine AWp.seq ?_
  refine AWp.then ⟨[⟨9, none, .sl (x0.fL.map Antiphonref12Peer.enc) .no⟩, ⟨10, none, .lit (.int .i64 (lenL x0.fL))⟩, ⟨11, none, .lit (.int .i64 0)⟩, ⟨4, none, .ptr 1 0⟩, ⟨1, none, .lit (.int .i64 x1)⟩], [.blk x0.enc, .blk [.lit (.int .i64 0), .lit (.string ⟨#[]⟩), .lit (.string ⟨#[]⟩)]]⟩ (AWp.reg Tryd.tyOk hΓ (keep := [9, 10, 11]) (dead := [2]) (by kernel_rfl) rfl (by simp)) ?_
  refine AWp.loopE (fun (s1 : Int) (γ1 : Unit) => ⟨[⟨9, none, .sl (x0.fL.map Antiphonref12Peer.enc) .no⟩, ⟨10, none, .lit (.int .i64 (lenL x0.fL))⟩, ⟨11, none, .lit (.int .i64 s1)⟩, ⟨4, none, .ptr 1 0⟩, ⟨1, none, .lit (.int .i64 x1)⟩], [.blk x0.enc, .blk [.lit (.int .i64 0), .lit (.string ⟨#[]⟩), .lit (.string ⟨#[]⟩)]]⟩) (fun (v1 : Unit) (γ1a : Unit) => ⟨[⟨4, none, .ptr 1 0⟩], [.blk x0.enc, .blk [.lit (.int .i64 0), .lit (.string ⟨#[]⟩), .lit (.string ⟨#[]⟩)]]⟩) (gRef12Find.fin x0 x1) hr () 2 (by simp) (fun s1 f γ1 hr => ?_) (fun v1 γ1a σ1 m1 hr hc => ?_) (fun _ h => h)
  · unfold gRef12Find.loop1 at hr
    refine AWp.then ⟨[⟨12, none, .lit (.bool (ltI s1 (lenL x0.fL)))⟩, ⟨9, none, .sl (x0.fL.map Antiphonref12Peer.enc) .no⟩, ⟨10, none, .lit (.int .i64 (lenL x0.fL))⟩, ⟨11, none, .lit (.int .i64 s1)⟩, ⟨4, none, .ptr 1 0⟩, ⟨1, none, .lit (.int .i64 x1)⟩], [.blk x0.enc, .blk [.lit (.int .i64 0), .lit (.string ⟨#[]⟩), .lit (.string ⟨#[]⟩)]]⟩ (AWp.reg Tryd.tyOk hΓ (keep := [12]) (dead := []) (by kernel_rfl) rfl (by simp)) ?_
    refine AWp.seq ?_
    refine AWp.cond (b := (ltI s1 (lenL x0.fL))) (by simp) (fun h4 => ?_) (fun h4 => ?_)
    · have hr := cond_t h4 hr
      refine AWp.skip ?_
      refine AWp.seq ?_
      refine AWp.block ?_
      obtain ⟨h5, hr⟩ := need_some hr
      refine AWp.then ⟨[⟨7, none, .ptr 2 0⟩, ⟨9, none, .sl (x0.fL.map Antiphonref12Peer.enc) .no⟩, ⟨10, none, .lit (.int .i64 (lenL x0.fL))⟩, ⟨11, none, .lit (.int .i64 s1)⟩, ⟨4, none, .ptr 1 0⟩, ⟨1, none, .lit (.int .i64 x1)⟩], [.blk x0.enc, .blk [.lit (.int .i64 0), .lit (.string ⟨#[]⟩), .lit (.string ⟨#[]⟩)], .blk (nthI x0.fL s1).enc]⟩ (AWp.reg Tryd.tyOk hΓ (keep := [7]) (dead := [12]) (by kernel_rfl) rfl (by simp [h4, h5])) ?_
      refine AWp.then ⟨[⟨18, none, .lit (.bool (eqI ((nthI x0.fL s1).fN) x1))⟩, ⟨7, none, .ptr 2 0⟩, ⟨9, none, .sl (x0.fL.map Antiphonref12Peer.enc) .no⟩, ⟨10, none, .lit (.int .i64 (lenL x0.fL))⟩, ⟨11, none, .lit (.int .i64 s1)⟩, ⟨4, none, .ptr 1 0⟩, ⟨1, none, .lit (.int .i64 x1)⟩], [.blk x0.enc, .blk [.lit (.int .i64 0), .lit (.string ⟨#[]⟩), .lit (.string ⟨#[]⟩)], .blk (nthI x0.fL s1).enc]⟩ (AWp.reg Tryd.tyOk hΓ (keep := [18]) (dead := []) (by kernel_rfl) rfl (by simp)) ?_
      refine AWp.cond (b := (eqI ((nthI x0.fL s1).fN) x1)) (by simp) (fun h6 => ?_) (fun h6 => ?_)
      · have hr := cond_t h6 hr
        refine AWp.then ⟨[⟨5, none, .lit (.bool true)⟩, ⟨4, none, .ptr 1 0⟩], [.blk x0.enc, .blk (nthI x0.fL s1).enc, .blk (nthI x0.fL s1).enc]⟩ (AWp.reg Tryd.tyOk hΓ (keep := [5]) (dead := [18, 7, 9, 10, 11, 1]) (by kernel_rfl) rfl (by simp [h6])) ?_
        refine AWp.ret ?_
        obtain rfl := some_inj hr
        refine round_ret ?_
        refine fin_ret ?_
        simp
      · have hr := cond_f h6 hr
        refine AWp.skip ?_
        refine AWp.last ⟨[⟨11, none, .lit (.int .i64 (addI .i64 s1 1))⟩, ⟨9, none, .sl (x0.fL.map Antiphonref12Peer.enc) .no⟩, ⟨10, none, .lit (.int .i64 (lenL x0.fL))⟩, ⟨4, none, .ptr 1 0⟩, ⟨1, none, .lit (.int .i64 x1)⟩], [.blk x0.enc, .blk [.lit (.int .i64 0), .lit (.string ⟨#[]⟩), .lit (.string ⟨#[]⟩)], .blk (nthI x0.fL s1).enc]⟩ (AWp.reg Tryd.tyOk hΓ (keep := [11]) (dead := [18, 7]) (by kernel_rfl) rfl (by simp [h6])) ?_
        obtain rfl := some_inj hr
        exact round_go () 2 (by first | (simp; done) | simp [h4, h5, h6])
    · have hr := cond_f h4 hr
      refine AWp.exit ?_
      obtain rfl := some_inj hr
      exact round_out () 2 (by first | (simp; done) | simp [h4])
  · refine AWp.conv hc ?_
    refine AWp.then ⟨[⟨5, none, .lit (.bool false)⟩, ⟨4, none, .ptr 1 0⟩], [.blk x0.enc, .blk [.lit (.int .i64 0), .lit (.string ⟨#[]⟩), .lit (.string ⟨#[]⟩)]]⟩ (AWp.reg Tryd.tyOk hΓ (keep := [5]) (dead := []) (by kernel_rfl) rfl (by simp)) ?_
    refine AWp.ret ?_
    obtain rfl := some_inj hr
    refine fin_ret ?_
    simp

@[simp] noncomputable def gRef12Find.S : Sp
  | [.agg e0, .lit (.int .i64 x1)], _ => some { av := .tup [.agg [.lit (.int .i64 (((gRef12Find (Antiphonref12Table.dec e0) x1).getD dflt).1.fN)), .lit (.string (((gRef12Find (Antiphonref12Table.dec e0) x1).getD dflt).1.fName)), .lit (.string (((gRef12Find (Antiphonref12Table.dec e0) x1).getD dflt).1.fRoom))], .lit (.bool (((gRef12Find (Antiphonref12Table.dec e0) x1).getD dflt).2))], M := none, obl := WeakL e0 (Antiphonref12Table.enc (Antiphonref12Table.dec e0)) ∧ (gRef12Find (Antiphonref12Table.dec e0) x1).isSome = true }
  | _, _ => none

set_option maxHeartbeats 1000000 in
theorem gRef12Find.ok : SpecOk Tryd.prog 35 gRef12Find.S := by
  intro l M out h
  unfold gRef12Find.S at h
  split at h
  · rename_i e0 x1
    cases h
    refine callOk_of fun ho => ?_
    obtain ⟨ox0, hs⟩ := ho
    generalize (Antiphonref12Table.dec e0) = x0 at *
    obtain ⟨r, hr⟩ := Option.isSome_iff_exists.1 hs
    simp only [hr, Option.getD_some]
    have q := call_frame (M := M) [] (gRef12Find.can x0 x1 r hr) (by simp) rfl (by intro k i hk; simp at hk)
    exact callOk_conv q trivial (by simp; exact ox0) (by simp [frameOut, gRef12Find.out]) (by simp [frameOut, gRef12Find.out])
  · cases h

@[simp] def gRef12In.out (_x0 : Antiphonref12Table) (_x1 : ByteArray) (r : List Antiphonref12Peer) : Out := { av := .sl (r.map Antiphonref12Peer.enc) .no, M := none }
def gRef12In.fin (x0 : Antiphonref12Table) (x1 : ByteArray) (r : List Antiphonref12Peer) (σ : St) : Prop := finK (gRef12In.out x0 x1 r) [] σ.M (resA Tryd.ty σ.A σ.M Tryd.f33.results.toList)
set_option maxHeartbeats 4000000 in
set_option maxRecDepth 100000 in
theorem gRef12In.can (x0 : Antiphonref12Table) (x1 : ByteArray) (r : List Antiphonref12Peer) (hr : gRef12In x0 x1 = some r) : CallOk Tryd.prog 33 [.agg [.sl (x0.fL.map Antiphonref12Peer.enc) .no, .lit (.int .i64 x0.fNext)], .lit (.string x1)] [] (gRef12In.out x0 x1 r) := by
  unfold gRef12In at hr
  have hΓ := (gamL_cons gRef06Fold.ok (gamL_nil) : GamOk Tryd.prog _)
  refine call_of_awp Tryd.tyOk Tryd.func33 rfl (by kernel_rfl) rfl rfl (by simp) ?_
  intro _ _ _
  refine AWp.then ⟨[⟨2, none, .ptr 0 0⟩, ⟨1, none, .lit (.string x1)⟩], [.blk x0.enc]⟩ (AWp.reg Tryd.tyOk hΓ (keep := [2]) (dead := [0]) (by kernel_rfl) rfl (by simp)) ?_
  refine AWp.then ⟨[⟨5, none, .sl [] .full⟩, ⟨2, none, .ptr 0 0⟩, ⟨1, none, .lit (.string x1)⟩], [.blk x0.enc]⟩ (AWp.reg Tryd.tyOk hΓ (keep := [5]) (dead := []) (by kernel_rfl) rfl (by simp)) ?_
  refine AWp.seq ?_
  refine AWp.then ⟨[⟨10, none, .sl (x0.fL.map Antiphonref12Peer.enc) .no⟩, ⟨11, none, .lit (.int .i64 (lenL x0.fL))⟩, ⟨12, none, .lit (.int .i64 0)⟩, ⟨5, none, .sl [] .full⟩, ⟨1, none, .lit (.string x1)⟩], [.blk x0.enc]⟩ (AWp.reg Tryd.tyOk hΓ (keep := [10, 11, 12]) (dead := [2]) (by kernel_rfl) rfl (by simp)) ?_
  refine AWp.equip 5 3 (els := []) (by simp) (by simp) ?_
  refine AWp.loopE (fun (s1 : Int × List Antiphonref12Peer) (γ1 : Nat) => ⟨[⟨10, none, .sl (x0.fL.map Antiphonref12Peer.enc) .no⟩, ⟨11, none, .lit (.int .i64 (lenL x0.fL))⟩, ⟨12, none, .lit (.int .i64 s1.1)⟩, ⟨5, none, .sl (s1.2.map Antiphonref12Peer.enc) (.own 1 (γ1) 3)⟩, ⟨1, none, .lit (.string x1)⟩], [.blk x0.enc, .room (γ1)]⟩) (fun (v1 : List Antiphonref12Peer) (γ1a : Nat) => ⟨[⟨5, none, .sl (v1.map Antiphonref12Peer.enc) (.own 1 (γ1a) 3)⟩], [.blk x0.enc, .room (γ1a)]⟩) (gRef12In.fin x0 x1) hr 0 2 (by simp) (fun s1 f γ1 hr => ?_) (fun v1 γ1a σ1 m1 hr hc => ?_) (fun _ h => h)
  · unfold gRef12In.loop1 at hr
    refine AWp.then ⟨[⟨13, none, .lit (.bool (ltI s1.1 (lenL x0.fL)))⟩, ⟨10, none, .sl (x0.fL.map Antiphonref12Peer.enc) .no⟩, ⟨11, none, .lit (.int .i64 (lenL x0.fL))⟩, ⟨12, none, .lit (.int .i64 s1.1)⟩, ⟨5, none, .sl (s1.2.map Antiphonref12Peer.enc) (.own 1 (γ1) 3)⟩, ⟨1, none, .lit (.string x1)⟩], [.blk x0.enc, .room (γ1)]⟩ (AWp.reg Tryd.tyOk hΓ (keep := [13]) (dead := []) (by kernel_rfl) rfl (by simp)) ?_
    refine AWp.seq ?_
    refine AWp.cond (b := (ltI s1.1 (lenL x0.fL))) (by simp) (fun h7 => ?_) (fun h7 => ?_)
    · have hr := cond_t h7 hr
      refine AWp.skip ?_
      refine AWp.seq ?_
      refine AWp.block ?_
      obtain ⟨h8, hr⟩ := need_some hr
      refine AWp.then ⟨[⟨7, none, .ptr 2 0⟩, ⟨10, none, .sl (x0.fL.map Antiphonref12Peer.enc) .no⟩, ⟨11, none, .lit (.int .i64 (lenL x0.fL))⟩, ⟨12, none, .lit (.int .i64 s1.1)⟩, ⟨5, none, .sl (s1.2.map Antiphonref12Peer.enc) (.own 1 (γ1) 3)⟩, ⟨1, none, .lit (.string x1)⟩], [.blk x0.enc, .room (γ1), .blk (nthI x0.fL s1.1).enc]⟩ (AWp.reg Tryd.tyOk hΓ (keep := [7]) (dead := [13]) (by kernel_rfl) rfl (by simp [h7, h8])) ?_
      obtain ⟨r1, h9, hr⟩ := bind_some' hr
      obtain ⟨r2, h10, hr⟩ := bind_some' hr
      refine AWp.then ⟨[⟨21, none, .lit (.bool (eqS r1 r2))⟩, ⟨7, none, .ptr 2 0⟩, ⟨10, none, .sl (x0.fL.map Antiphonref12Peer.enc) .no⟩, ⟨11, none, .lit (.int .i64 (lenL x0.fL))⟩, ⟨12, none, .lit (.int .i64 s1.1)⟩, ⟨5, none, .sl (s1.2.map Antiphonref12Peer.enc) (.own 1 (γ1) 3)⟩, ⟨1, none, .lit (.string x1)⟩], [.blk x0.enc, .room (γ1), .blk (nthI x0.fL s1.1).enc]⟩ (AWp.reg Tryd.tyOk hΓ (keep := [21]) (dead := []) (by kernel_rfl) rfl (by simp [h9, h10])) ?_
      refine AWp.cond (b := (eqS r1 r2)) (by simp) (fun h11 => ?_) (fun h11 => ?_)
      · have hr := cond_t h11 hr
        obtain ⟨h12, hr⟩ := need_some hr
        refine AWp.last ⟨[⟨5, none, .sl ((appL s1.2 [(nthI x0.fL s1.1)]).map Antiphonref12Peer.enc) (.own 1 (γ1 + 1) 3)⟩, ⟨10, none, .sl (x0.fL.map Antiphonref12Peer.enc) .no⟩, ⟨11, none, .lit (.int .i64 (lenL x0.fL))⟩, ⟨12, none, .lit (.int .i64 s1.1)⟩, ⟨1, none, .lit (.string x1)⟩], [.blk x0.enc, .room (γ1 + 1), .blk (nthI x0.fL s1.1).enc]⟩ (AWp.reg Tryd.tyOk hΓ (keep := [5]) (dead := [21, 7]) (by kernel_rfl) rfl (by simp [h11, h12])) ?_
        refine AWp.last ⟨[⟨12, none, .lit (.int .i64 (addI .i64 s1.1 1))⟩, ⟨5, none, .sl ((appL s1.2 [(nthI x0.fL s1.1)]).map Antiphonref12Peer.enc) (.own 1 (γ1 + 1) 3)⟩, ⟨10, none, .sl (x0.fL.map Antiphonref12Peer.enc) .no⟩, ⟨11, none, .lit (.int .i64 (lenL x0.fL))⟩, ⟨1, none, .lit (.string x1)⟩], [.blk x0.enc, .room (γ1 + 1), .blk (nthI x0.fL s1.1).enc]⟩ (AWp.reg Tryd.tyOk hΓ (keep := [12]) (dead := []) (by kernel_rfl) rfl (by simp)) ?_
        obtain rfl := some_inj hr
        exact round_go (γ1 + 1) 2 (by first | (simp; done) | simp [h7, h8, h9, h10, h11, h12])
      · have hr := cond_f h11 hr
        refine AWp.skip ?_
        refine AWp.last ⟨[⟨12, none, .lit (.int .i64 (addI .i64 s1.1 1))⟩, ⟨10, none, .sl (x0.fL.map Antiphonref12Peer.enc) .no⟩, ⟨11, none, .lit (.int .i64 (lenL x0.fL))⟩, ⟨5, none, .sl (s1.2.map Antiphonref12Peer.enc) (.own 1 (γ1) 3)⟩, ⟨1, none, .lit (.string x1)⟩], [.blk x0.enc, .room (γ1), .blk (nthI x0.fL s1.1).enc]⟩ (AWp.reg Tryd.tyOk hΓ (keep := [12]) (dead := [21, 7]) (by kernel_rfl) rfl (by simp [h11])) ?_
        obtain rfl := some_inj hr
        exact round_go (γ1) 2 (by first | (simp; done) | simp [h7, h8, h9, h10, h11])
    · have hr := cond_f h7 hr
      refine AWp.exit ?_
      obtain rfl := some_inj hr
      exact round_out (γ1) 2 (by first | (simp; done) | simp [h7])
  · refine AWp.conv hc ?_
    refine AWp.then ⟨[⟨4, none, .sl (v1.map Antiphonref12Peer.enc) (.own 1 (γ1a) 3)⟩], [.blk x0.enc, .room (γ1a)]⟩ (AWp.reg Tryd.tyOk hΓ (keep := [4]) (dead := [5]) (by kernel_rfl) rfl (by simp)) ?_
    refine AWp.ret ?_
    obtain rfl := some_inj hr
    refine fin_ret ?_
    simp

@[simp] noncomputable def gRef12In.S : Sp
  | [.agg e0, .lit (.string x1)], _ => some { av := .sl (((gRef12In (Antiphonref12Table.dec e0) x1).getD dflt).map Antiphonref12Peer.enc) .no, M := none, obl := WeakL e0 (Antiphonref12Table.enc (Antiphonref12Table.dec e0)) ∧ (gRef12In (Antiphonref12Table.dec e0) x1).isSome = true }
  | _, _ => none

set_option maxHeartbeats 1000000 in
theorem gRef12In.ok : SpecOk Tryd.prog 33 gRef12In.S := by
  intro l M out h
  unfold gRef12In.S at h
  split at h
  · rename_i e0 x1
    cases h
    refine callOk_of fun ho => ?_
    obtain ⟨ox0, hs⟩ := ho
    generalize (Antiphonref12Table.dec e0) = x0 at *
    obtain ⟨r, hr⟩ := Option.isSome_iff_exists.1 hs
    simp only [hr, Option.getD_some]
    have q := call_frame (M := M) [] (gRef12In.can x0 x1 r hr) (by simp) rfl (by intro k i hk; simp at hk)
    exact callOk_conv q trivial (by simp; exact ox0) (by simp [frameOut, gRef12In.out]) (by simp [frameOut, gRef12In.out])
  · cases h

@[simp] def gRef12Rooms.out (_x0 : Antiphonref12Table) (r : List ByteArray) : Out := { av := .sl (r.map eTxt) .no, M := none }
def gRef12Rooms.fin (x0 : Antiphonref12Table) (r : List ByteArray) (σ : St) : Prop := finK (gRef12Rooms.out x0 r) [] σ.M (resA Tryd.ty σ.A σ.M Tryd.f34.results.toList)
set_option maxHeartbeats 4000000 in
set_option maxRecDepth 100000 in
theorem gRef12Rooms.can (x0 : Antiphonref12Table) (r : List ByteArray) (hr : gRef12Rooms x0 = some r) : CallOk Tryd.prog 34 [.agg [.sl (x0.fL.map Antiphonref12Peer.enc) .no, .lit (.int .i64 x0.fNext)]] [] (gRef12Rooms.out x0 r) := by
  unfold gRef12Rooms at hr
  have hΓ := (gamL_cons gRef06Fold.ok (gamL_cons gRef12In.ok (gamL_nil)) : GamOk Tryd.prog _)
  refine call_of_awp Tryd.tyOk Tryd.func34 rfl (by kernel_rfl) rfl rfl (by simp) ?_
  intro _ _ _
  refine AWp.then ⟨[⟨1, none, .ptr 0 0⟩], [.blk x0.enc]⟩ (AWp.reg Tryd.tyOk hΓ (keep := [1]) (dead := [0]) (by kernel_rfl) rfl (by simp)) ?_
  refine AWp.then ⟨[⟨3, none, .sl [] .full⟩, ⟨1, none, .ptr 0 0⟩], [.blk x0.enc]⟩ (AWp.reg Tryd.tyOk hΓ (keep := [3]) (dead := []) (by kernel_rfl) rfl (by simp)) ?_
  refine AWp.seq ?_
  refine AWp.then ⟨[⟨8, none, .sl (x0.fL.map Antiphonref12Peer.enc) .no⟩, ⟨9, none, .lit (.int .i64 (lenL x0.fL))⟩, ⟨10, none, .lit (.int .i64 0)⟩, ⟨3, none, .sl [] .full⟩, ⟨1, none, .ptr 0 0⟩], [.blk x0.enc]⟩ (AWp.reg Tryd.tyOk hΓ (keep := [8, 9, 10]) (dead := []) (by kernel_rfl) rfl (by simp)) ?_
  refine AWp.equip 3 1 (els := []) (by simp) (by simp) ?_
  refine AWp.loopE (fun (s1 : Int × List ByteArray) (γ1 : Nat) => ⟨[⟨8, none, .sl (x0.fL.map Antiphonref12Peer.enc) .no⟩, ⟨9, none, .lit (.int .i64 (lenL x0.fL))⟩, ⟨10, none, .lit (.int .i64 s1.1)⟩, ⟨3, none, .sl (s1.2.map eTxt) (.own 1 (γ1) 1)⟩, ⟨1, none, .ptr 0 0⟩], [.blk x0.enc, .room (γ1)]⟩) (fun (v1 : List ByteArray) (γ1a : Nat) => ⟨[⟨3, none, .sl (v1.map eTxt) (.own 1 (γ1a) 1)⟩], [.blk x0.enc, .room (γ1a)]⟩) (gRef12Rooms.fin x0) hr 0 2 (by simp) (fun s1 f γ1 hr => ?_) (fun v1 γ1a σ1 m1 hr hc => ?_) (fun _ h => h)
  · unfold gRef12Rooms.loop1 at hr
    refine AWp.then ⟨[⟨11, none, .lit (.bool (ltI s1.1 (lenL x0.fL)))⟩, ⟨8, none, .sl (x0.fL.map Antiphonref12Peer.enc) .no⟩, ⟨9, none, .lit (.int .i64 (lenL x0.fL))⟩, ⟨10, none, .lit (.int .i64 s1.1)⟩, ⟨3, none, .sl (s1.2.map eTxt) (.own 1 (γ1) 1)⟩, ⟨1, none, .ptr 0 0⟩], [.blk x0.enc, .room (γ1)]⟩ (AWp.reg Tryd.tyOk hΓ (keep := [11]) (dead := []) (by kernel_rfl) rfl (by simp)) ?_
    refine AWp.seq ?_
    refine AWp.cond (b := (ltI s1.1 (lenL x0.fL))) (by simp) (fun h8 => ?_) (fun h8 => ?_)
    · have hr := cond_t h8 hr
      refine AWp.skip ?_
      refine AWp.seq ?_
      refine AWp.block ?_
      obtain ⟨h9, hr⟩ := need_some hr
      refine AWp.then ⟨[⟨5, none, .ptr 2 0⟩, ⟨4, none, .lit (.int .i64 s1.1)⟩, ⟨8, none, .sl (x0.fL.map Antiphonref12Peer.enc) .no⟩, ⟨9, none, .lit (.int .i64 (lenL x0.fL))⟩, ⟨10, none, .lit (.int .i64 s1.1)⟩, ⟨3, none, .sl (s1.2.map eTxt) (.own 1 (γ1) 1)⟩, ⟨1, none, .ptr 0 0⟩], [.blk x0.enc, .room (γ1), .blk (nthI x0.fL s1.1).enc]⟩ (AWp.reg Tryd.tyOk hΓ (keep := [5, 4]) (dead := [11]) (by kernel_rfl) rfl (by simp [h8, h9])) ?_
      obtain ⟨h10, hr⟩ := need_some hr
      obtain ⟨r1, h11, hr⟩ := bind_some' hr
      refine AWp.then ⟨[⟨24, none, .lit (.bool (eqI (lenL r1) 0))⟩, ⟨5, none, .ptr 2 0⟩, ⟨8, none, .sl (x0.fL.map Antiphonref12Peer.enc) .no⟩, ⟨9, none, .lit (.int .i64 (lenL x0.fL))⟩, ⟨10, none, .lit (.int .i64 s1.1)⟩, ⟨3, none, .sl (s1.2.map eTxt) (.own 1 (γ1) 1)⟩, ⟨1, none, .ptr 0 0⟩], [.blk x0.enc, .room (γ1), .blk (nthI x0.fL s1.1).enc]⟩ (AWp.regD Tryd.mixed Tryd.tyOk hΓ (keep := [24]) (dead := [4]) [] [(false, []), (false, []), (false, []), (false, []), (false, []), (false, []), (false, []), (false, []), (false, []), (false, [])] (by kernel_rfl) rfl (by simp [h10, h11])) ?_
      refine AWp.cond (b := (eqI (lenL r1) 0)) (by simp) (fun h12 => ?_) (fun h12 => ?_)
      · have hr := cond_t h12 hr
        obtain ⟨r2, h13, hr⟩ := bind_some' hr
        obtain ⟨h14, hr⟩ := need_some hr
        refine AWp.last ⟨[⟨3, none, .sl ((appL s1.2 [r2]).map eTxt) (.own 1 (γ1 + 1) 1)⟩, ⟨8, none, .sl (x0.fL.map Antiphonref12Peer.enc) .no⟩, ⟨9, none, .lit (.int .i64 (lenL x0.fL))⟩, ⟨10, none, .lit (.int .i64 s1.1)⟩, ⟨1, none, .ptr 0 0⟩], [.blk x0.enc, .room (γ1 + 1), .blk (nthI x0.fL s1.1).enc]⟩ (AWp.reg Tryd.tyOk hΓ (keep := [3]) (dead := [24, 5]) (by kernel_rfl) rfl (by simp [h12, h13, h14])) ?_
        refine AWp.last ⟨[⟨10, none, .lit (.int .i64 (addI .i64 s1.1 1))⟩, ⟨3, none, .sl ((appL s1.2 [r2]).map eTxt) (.own 1 (γ1 + 1) 1)⟩, ⟨8, none, .sl (x0.fL.map Antiphonref12Peer.enc) .no⟩, ⟨9, none, .lit (.int .i64 (lenL x0.fL))⟩, ⟨1, none, .ptr 0 0⟩], [.blk x0.enc, .room (γ1 + 1), .blk (nthI x0.fL s1.1).enc]⟩ (AWp.reg Tryd.tyOk hΓ (keep := [10]) (dead := []) (by kernel_rfl) rfl (by simp)) ?_
        obtain rfl := some_inj hr
        exact round_go (γ1 + 1) 2 (by first | (simp; done) | simp [h8, h9, h10, h11, h12, h13, h14])
      · have hr := cond_f h12 hr
        refine AWp.skip ?_
        refine AWp.last ⟨[⟨10, none, .lit (.int .i64 (addI .i64 s1.1 1))⟩, ⟨8, none, .sl (x0.fL.map Antiphonref12Peer.enc) .no⟩, ⟨9, none, .lit (.int .i64 (lenL x0.fL))⟩, ⟨3, none, .sl (s1.2.map eTxt) (.own 1 (γ1) 1)⟩, ⟨1, none, .ptr 0 0⟩], [.blk x0.enc, .room (γ1), .blk (nthI x0.fL s1.1).enc]⟩ (AWp.reg Tryd.tyOk hΓ (keep := [10]) (dead := [24, 5]) (by kernel_rfl) rfl (by simp [h12])) ?_
        obtain rfl := some_inj hr
        exact round_go (γ1) 2 (by first | (simp; done) | simp [h8, h9, h10, h11, h12])
    · have hr := cond_f h8 hr
      refine AWp.exit ?_
      obtain rfl := some_inj hr
      exact round_out (γ1) 2 (by first | (simp; done) | simp [h8])
  · refine AWp.conv hc ?_
    refine AWp.then ⟨[⟨2, none, .sl (v1.map eTxt) (.own 1 (γ1a) 1)⟩], [.blk x0.enc, .room (γ1a)]⟩ (AWp.reg Tryd.tyOk hΓ (keep := [2]) (dead := [3]) (by kernel_rfl) rfl (by simp)) ?_
    refine AWp.ret ?_
    obtain rfl := some_inj hr
    refine fin_ret ?_
    simp

@[simp] noncomputable def gRef12Rooms.S : Sp
  | [.agg e0], _ => some { av := .sl (((gRef12Rooms (Antiphonref12Table.dec e0)).getD dflt).map eTxt) .no, M := none, obl := WeakL e0 (Antiphonref12Table.enc (Antiphonref12Table.dec e0)) ∧ (gRef12Rooms (Antiphonref12Table.dec e0)).isSome = true }
  | _, _ => none

set_option maxHeartbeats 1000000 in
theorem gRef12Rooms.ok : SpecOk Tryd.prog 34 gRef12Rooms.S := by
  intro l M out h
  unfold gRef12Rooms.S at h
  split at h
  · rename_i e0
    cases h
    refine callOk_of fun ho => ?_
    obtain ⟨ox0, hs⟩ := ho
    generalize (Antiphonref12Table.dec e0) = x0 at *
    obtain ⟨r, hr⟩ := Option.isSome_iff_exists.1 hs
    simp only [hr, Option.getD_some]
    have q := call_frame (M := M) [] (gRef12Rooms.can x0 r hr) (by simp) rfl (by intro k i hk; simp at hk)
    exact callOk_conv q trivial (by simp; exact ox0) (by simp [frameOut, gRef12Rooms.out]) (by simp [frameOut, gRef12Rooms.out])
  · cases h

@[simp] def gRef12Join.out (_x0 : Antiphonref12Table) (_x1 : ByteArray) (_x2 : ByteArray) (r : Antiphonref12Table × Int × Int) : Out := { av := .tup [.agg [.sl (r.1.fL.map Antiphonref12Peer.enc) .no, .lit (.int .i64 r.1.fNext)], .lit (.int .i64 r.2.1), .lit (.int .i64 r.2.2)], M := none }
def gRef12Join.fin (x0 : Antiphonref12Table) (x1 : ByteArray) (x2 : ByteArray) (r : Antiphonref12Table × Int × Int) (σ : St) : Prop := finK (gRef12Join.out x0 x1 x2 r) [] σ.M (resA Tryd.ty σ.A σ.M Tryd.f15.results.toList)
set_option maxHeartbeats 4000000 in
set_option maxRecDepth 100000 in
theorem gRef12Join.can (x0 : Antiphonref12Table) (x1 : ByteArray) (x2 : ByteArray) (r : Antiphonref12Table × Int × Int) (hr : gRef12Join x0 x1 x2 = some r) : CallOk Tryd.prog 15 [.agg [.sl (x0.fL.map Antiphonref12Peer.enc) .no, .lit (.int .i64 x0.fNext)], .lit (.string x1), .lit (.string x2)] [] (gRef12Join.out x0 x1 x2 r) := by
  unfold gRef12Join at hr
  have hΓ := (gamL_cons gRef06Fold.ok (gamL_cons gRef06Good.ok (gamL_cons gRef12In.ok (gamL_cons gRef12Rooms.ok (gamL_nil)))) : GamOk Tryd.prog _)
  refine call_of_awp Tryd.tyOk Tryd.func15 rfl (by kernel_rfl) rfl rfl (by simp) ?_
  intro _ _ _
  refine AWp.then ⟨[⟨3, none, .ptr 0 0⟩, ⟨6, none, .ptr 1 0⟩, ⟨1, none, .lit (.string x1)⟩, ⟨2, none, .lit (.string x2)⟩], [.blk x0.enc, .blk [.sl [] .full, .lit (.int .i64 0)]]⟩ (AWp.reg Tryd.tyOk hΓ (keep := [3, 6]) (dead := [0]) (by kernel_rfl) rfl (by simp)) ?_
  refine AWp.seq ?_
  obtain ⟨r1, h14, hr⟩ := bind_some' hr
  obtain ⟨h15, hr⟩ := need_some hr
  refine AWp.then ⟨[⟨19, none, .lit (.bool (pickB (notB r1) true (notB ((gRef06Good x2).getD dflt))))⟩, ⟨3, none, .ptr 0 0⟩, ⟨6, none, .ptr 1 0⟩, ⟨1, none, .lit (.string x1)⟩, ⟨2, none, .lit (.string x2)⟩], [.blk x0.enc, .blk [.sl [] .full, .lit (.int .i64 0)]]⟩ (AWp.reg Tryd.tyOk hΓ (keep := [19]) (dead := []) (by kernel_rfl) rfl (by simp [h14, h15])) ?_
  refine AWp.cond (b := (pickB (notB r1) true (notB ((gRef06Good x2).getD dflt)))) (by simp) (fun h16 => ?_) (fun h16 => ?_)
  · have hr := cond_t h16 hr
    refine AWp.then ⟨[⟨7, none, .lit (.int .i64 0)⟩, ⟨8, none, .lit (.int .i64 6)⟩, ⟨6, none, .ptr 1 0⟩], [.blk x0.enc, .blk x0.enc]⟩ (AWp.reg Tryd.tyOk hΓ (keep := [7, 8]) (dead := [19, 3, 1, 2]) (by kernel_rfl) rfl (by simp [h16])) ?_
    refine AWp.ret ?_
    obtain rfl := some_inj hr
    refine fin_ret ?_
    simp
  · have hr := cond_f h16 hr
    refine AWp.skip ?_
    obtain ⟨r2, h17, hr⟩ := bind_some' hr
    refine AWp.then ⟨[⟨9, none, .sl (r2.map Antiphonref12Peer.enc) .no⟩, ⟨3, none, .ptr 0 0⟩, ⟨6, none, .ptr 1 0⟩, ⟨1, none, .lit (.string x1)⟩, ⟨2, none, .lit (.string x2)⟩], [.blk x0.enc, .blk [.sl [] .full, .lit (.int .i64 0)]]⟩ (AWp.reg Tryd.tyOk hΓ (keep := [9]) (dead := [19]) (by kernel_rfl) rfl (by simp [h16, h17])) ?_
    refine AWp.seq ?_
    refine AWp.then ⟨[⟨24, none, .sl (r2.map Antiphonref12Peer.enc) .no⟩, ⟨25, none, .lit (.int .i64 (lenL r2))⟩, ⟨26, none, .lit (.int .i64 0)⟩, ⟨9, none, .sl (r2.map Antiphonref12Peer.enc) .no⟩, ⟨3, none, .ptr 0 0⟩, ⟨6, none, .ptr 1 0⟩, ⟨1, none, .lit (.string x1)⟩, ⟨2, none, .lit (.string x2)⟩], [.blk x0.enc, .blk [.sl [] .full, .lit (.int .i64 0)]]⟩ (AWp.reg Tryd.tyOk hΓ (keep := [24, 25, 26]) (dead := []) (by kernel_rfl) rfl (by simp)) ?_
    refine AWp.loopE (fun (s1 : Int) (γ1 : Unit) => ⟨[⟨24, none, .sl (r2.map Antiphonref12Peer.enc) .no⟩, ⟨25, none, .lit (.int .i64 (lenL r2))⟩, ⟨26, none, .lit (.int .i64 s1)⟩, ⟨9, none, .sl (r2.map Antiphonref12Peer.enc) .no⟩, ⟨3, none, .ptr 0 0⟩, ⟨6, none, .ptr 1 0⟩, ⟨1, none, .lit (.string x1)⟩, ⟨2, none, .lit (.string x2)⟩], [.blk x0.enc, .blk [.sl [] .full, .lit (.int .i64 0)]]⟩) (fun (v1 : Unit) (γ1a : Unit) => ⟨[⟨9, none, .sl (r2.map Antiphonref12Peer.enc) .no⟩, ⟨3, none, .ptr 0 0⟩, ⟨6, none, .ptr 1 0⟩, ⟨1, none, .lit (.string x1)⟩, ⟨2, none, .lit (.string x2)⟩], [.blk x0.enc, .blk [.sl [] .full, .lit (.int .i64 0)]]⟩) (gRef12Join.fin x0 x1 x2) hr () 2 (by simp) (fun s1 f γ1 hr => ?_) (fun v1 γ1a σ1 m1 hr hc => ?_) (fun _ h => h)
    · unfold gRef12Join.loop1 at hr
      refine AWp.then ⟨[⟨27, none, .lit (.bool (ltI s1 (lenL r2)))⟩, ⟨24, none, .sl (r2.map Antiphonref12Peer.enc) .no⟩, ⟨25, none, .lit (.int .i64 (lenL r2))⟩, ⟨26, none, .lit (.int .i64 s1)⟩, ⟨9, none, .sl (r2.map Antiphonref12Peer.enc) .no⟩, ⟨3, none, .ptr 0 0⟩, ⟨6, none, .ptr 1 0⟩, ⟨1, none, .lit (.string x1)⟩, ⟨2, none, .lit (.string x2)⟩], [.blk x0.enc, .blk [.sl [] .full, .lit (.int .i64 0)]]⟩ (AWp.reg Tryd.tyOk hΓ (keep := [27]) (dead := []) (by kernel_rfl) rfl (by simp)) ?_
      refine AWp.seq ?_
      refine AWp.cond (b := (ltI s1 (lenL r2))) (by simp) (fun h18 => ?_) (fun h18 => ?_)
      · have hr := cond_t h18 hr
        refine AWp.skip ?_
        refine AWp.seq ?_
        refine AWp.block ?_
        obtain ⟨h19, hr⟩ := need_some hr
        refine AWp.then ⟨[⟨11, none, .ptr 2 0⟩, ⟨24, none, .sl (r2.map Antiphonref12Peer.enc) .no⟩, ⟨25, none, .lit (.int .i64 (lenL r2))⟩, ⟨26, none, .lit (.int .i64 s1)⟩, ⟨9, none, .sl (r2.map Antiphonref12Peer.enc) .no⟩, ⟨3, none, .ptr 0 0⟩, ⟨6, none, .ptr 1 0⟩, ⟨1, none, .lit (.string x1)⟩, ⟨2, none, .lit (.string x2)⟩], [.blk x0.enc, .blk [.sl [] .full, .lit (.int .i64 0)], .blk (nthI r2 s1).enc]⟩ (AWp.reg Tryd.tyOk hΓ (keep := [11]) (dead := [27]) (by kernel_rfl) rfl (by simp [h18, h19])) ?_
        obtain ⟨r3, h20, hr⟩ := bind_some' hr
        obtain ⟨r4, h21, hr⟩ := bind_some' hr
        refine AWp.then ⟨[⟨35, none, .lit (.bool (eqS r3 r4))⟩, ⟨24, none, .sl (r2.map Antiphonref12Peer.enc) .no⟩, ⟨25, none, .lit (.int .i64 (lenL r2))⟩, ⟨26, none, .lit (.int .i64 s1)⟩, ⟨9, none, .sl (r2.map Antiphonref12Peer.enc) .no⟩, ⟨3, none, .ptr 0 0⟩, ⟨6, none, .ptr 1 0⟩, ⟨1, none, .lit (.string x1)⟩, ⟨2, none, .lit (.string x2)⟩], [.blk x0.enc, .blk [.sl [] .full, .lit (.int .i64 0)], .blk (nthI r2 s1).enc]⟩ (AWp.reg Tryd.tyOk hΓ (keep := [35]) (dead := [11]) (by kernel_rfl) rfl (by simp [h20, h21])) ?_
        refine AWp.cond (b := (eqS r3 r4)) (by simp) (fun h22 => ?_) (fun h22 => ?_)
        · have hr := cond_t h22 hr
          refine AWp.then ⟨[⟨7, none, .lit (.int .i64 0)⟩, ⟨8, none, .lit (.int .i64 10)⟩, ⟨6, none, .ptr 1 0⟩], [.blk x0.enc, .blk x0.enc, .blk (nthI r2 s1).enc]⟩ (AWp.reg Tryd.tyOk hΓ (keep := [7, 8]) (dead := [35, 24, 25, 26, 9, 3, 1, 2]) (by kernel_rfl) rfl (by simp [h22])) ?_
          refine AWp.ret ?_
          obtain rfl := some_inj hr
          refine round_ret ?_
          refine fin_ret ?_
          simp
        · have hr := cond_f h22 hr
          refine AWp.skip ?_
          refine AWp.last ⟨[⟨26, none, .lit (.int .i64 (addI .i64 s1 1))⟩, ⟨24, none, .sl (r2.map Antiphonref12Peer.enc) .no⟩, ⟨25, none, .lit (.int .i64 (lenL r2))⟩, ⟨9, none, .sl (r2.map Antiphonref12Peer.enc) .no⟩, ⟨3, none, .ptr 0 0⟩, ⟨6, none, .ptr 1 0⟩, ⟨1, none, .lit (.string x1)⟩, ⟨2, none, .lit (.string x2)⟩], [.blk x0.enc, .blk [.sl [] .full, .lit (.int .i64 0)], .blk (nthI r2 s1).enc]⟩ (AWp.reg Tryd.tyOk hΓ (keep := [26]) (dead := [35]) (by kernel_rfl) rfl (by simp [h22])) ?_
          obtain rfl := some_inj hr
          exact round_go () 2 (by first | (simp; done) | simp [h14, h15, h16, h17, h18, h19, h20, h21, h22])
      · have hr := cond_f h18 hr
        refine AWp.exit ?_
        obtain rfl := some_inj hr
        exact round_out () 2 (by first | (simp; done) | simp [h14, h15, h16, h17, h18])
    · refine AWp.conv hc ?_
      refine AWp.seq ?_
      obtain ⟨h23, hr⟩ := need_some hr
      refine AWp.then ⟨[⟨56, none, .lit (.bool (pickB (pickB (leqI 16 (lenL r2)) true (pickB (eqI (lenL r2) 0) (leqI 8 (lenL ((gRef12Rooms x0).getD dflt))) false)) true (ltI 65535 x0.fNext)))⟩, ⟨3, none, .ptr 0 0⟩, ⟨6, none, .ptr 1 0⟩, ⟨1, none, .lit (.string x1)⟩, ⟨2, none, .lit (.string x2)⟩], [.blk x0.enc, .blk [.sl [] .full, .lit (.int .i64 0)]]⟩ (AWp.reg Tryd.tyOk hΓ (keep := [56]) (dead := [9]) (by kernel_rfl) rfl (by simp [h23])) ?_
      refine AWp.cond (b := (pickB (pickB (leqI 16 (lenL r2)) true (pickB (eqI (lenL r2) 0) (leqI 8 (lenL ((gRef12Rooms x0).getD dflt))) false)) true (ltI 65535 x0.fNext))) (by simp) (fun h24 => ?_) (fun h24 => ?_)
      · have hr := cond_t h24 hr
        refine AWp.then ⟨[⟨7, none, .lit (.int .i64 0)⟩, ⟨8, none, .lit (.int .i64 11)⟩, ⟨6, none, .ptr 1 0⟩], [.blk x0.enc, .blk x0.enc]⟩ (AWp.reg Tryd.tyOk hΓ (keep := [7, 8]) (dead := [56, 3, 1, 2]) (by kernel_rfl) rfl (by simp [h24])) ?_
        refine AWp.ret ?_
        obtain rfl := some_inj hr
        refine fin_ret ?_
        simp
      · have hr := cond_f h24 hr
        refine AWp.skip ?_
        obtain ⟨h25, hr⟩ := need_some hr
        obtain ⟨h26, hr⟩ := need_some hr
        refine AWp.then ⟨[⟨7, none, .lit (.int .i64 x0.fNext)⟩, ⟨8, none, .lit (.int .i64 0)⟩, ⟨6, none, .ptr 1 0⟩], [.blk x0.enc, .blk [.sl ((appL (appL [] x0.fL) [(Antiphonref12Peer.mk x0.fNext x2 x1)]).map Antiphonref12Peer.enc) (.own 2 2 3), .lit (.int .i64 (addI .i64 x0.fNext 1))], .room 2]⟩ (AWp.regD Tryd.mixed Tryd.tyOk hΓ (keep := [7, 8]) (dead := [56, 3, 1, 2]) [(4, 0), (5, 0), (6, 0), (7, 0), (8, 0), (9, 0), (11, 0), (11, 4), (12, 0), (12, 4), (13, 0), (13, 4), (15, 0), (15, 4), (15, 18), (16, 0), (16, 4), (16, 18)] [(false, []), (false, []), (false, []), (true, []), (false, []), (false, []), (false, []), (false, []), (false, []), (false, []), (true, []), (false, []), (false, []), (false, []), (false, []), (false, []), (false, []), (true, []), (false, []), (false, [])] (by kernel_rfl) rfl (by simp [h24, h25, h26])) ?_
        refine AWp.ret ?_
        obtain rfl := some_inj hr
        refine fin_ret ?_
        simp

@[simp] noncomputable def gRef12Join.S : Sp
  | [.agg e0, .lit (.string x1), .lit (.string x2)], _ => some { av := .tup [.agg [.sl ((((gRef12Join (Antiphonref12Table.dec e0) x1 x2).getD dflt).1.fL).map Antiphonref12Peer.enc) .no, .lit (.int .i64 (((gRef12Join (Antiphonref12Table.dec e0) x1 x2).getD dflt).1.fNext))], .lit (.int .i64 (((gRef12Join (Antiphonref12Table.dec e0) x1 x2).getD dflt).2.1)), .lit (.int .i64 (((gRef12Join (Antiphonref12Table.dec e0) x1 x2).getD dflt).2.2))], M := none, obl := WeakL e0 (Antiphonref12Table.enc (Antiphonref12Table.dec e0)) ∧ (gRef12Join (Antiphonref12Table.dec e0) x1 x2).isSome = true }
  | _, _ => none

set_option maxHeartbeats 1000000 in
theorem gRef12Join.ok : SpecOk Tryd.prog 15 gRef12Join.S := by
  intro l M out h
  unfold gRef12Join.S at h
  split at h
  · rename_i e0 x1 x2
    cases h
    refine callOk_of fun ho => ?_
    obtain ⟨ox0, hs⟩ := ho
    generalize (Antiphonref12Table.dec e0) = x0 at *
    obtain ⟨r, hr⟩ := Option.isSome_iff_exists.1 hs
    simp only [hr, Option.getD_some]
    have q := call_frame (M := M) [] (gRef12Join.can x0 x1 x2 r hr) (by simp) rfl (by intro k i hk; simp at hk)
    exact callOk_conv q trivial (by simp; exact ox0) (by simp [frameOut, gRef12Join.out]) (by simp [frameOut, gRef12Join.out])
  · cases h

@[simp] def gRef12Leave.out (_x0 : Antiphonref12Table) (_x1 : Int) (r : Antiphonref12Table × Int) : Out := { av := .tup [.agg [.sl (r.1.fL.map Antiphonref12Peer.enc) .no, .lit (.int .i64 r.1.fNext)], .lit (.int .i64 r.2)], M := none }
def gRef12Leave.fin (x0 : Antiphonref12Table) (x1 : Int) (r : Antiphonref12Table × Int) (σ : St) : Prop := finK (gRef12Leave.out x0 x1 r) [] σ.M (resA Tryd.ty σ.A σ.M Tryd.f17.results.toList)
set_option maxHeartbeats 4000000 in
set_option maxRecDepth 100000 in
theorem gRef12Leave.can (x0 : Antiphonref12Table) (x1 : Int) (r : Antiphonref12Table × Int) (hr : gRef12Leave x0 x1 = some r) : CallOk Tryd.prog 17 [.agg [.sl (x0.fL.map Antiphonref12Peer.enc) .no, .lit (.int .i64 x0.fNext)], .lit (.int .i64 x1)] [] (gRef12Leave.out x0 x1 r) := by
  unfold gRef12Leave at hr
  have hΓ := gamL_nil (P := Tryd.prog)
  refine call_of_awp Tryd.tyOk Tryd.func17 rfl (by kernel_rfl) rfl rfl (by simp) ?_
  intro _ _ _
  refine AWp.then ⟨[⟨2, none, .ptr 0 0⟩, ⟨4, none, .ptr 1 0⟩, ⟨1, none, .lit (.int .i64 x1)⟩], [.blk x0.enc, .blk [.sl [] .full, .lit (.int .i64 0)]]⟩ (AWp.reg Tryd.tyOk hΓ (keep := [2, 4]) (dead := [0]) (by kernel_rfl) rfl (by simp)) ?_
  refine AWp.then ⟨[⟨6, none, .sl [] .full⟩, ⟨2, none, .ptr 0 0⟩, ⟨4, none, .ptr 1 0⟩, ⟨1, none, .lit (.int .i64 x1)⟩], [.blk x0.enc, .blk [.sl [] .full, .lit (.int .i64 0)]]⟩ (AWp.reg Tryd.tyOk hΓ (keep := [6]) (dead := []) (by kernel_rfl) rfl (by simp)) ?_
  refine AWp.seq ?_
  refine AWp.then ⟨[⟨11, none, .sl (x0.fL.map Antiphonref12Peer.enc) .no⟩, ⟨12, none, .lit (.int .i64 (lenL x0.fL))⟩, ⟨13, none, .lit (.int .i64 0)⟩, ⟨6, none, .sl [] .full⟩, ⟨2, none, .ptr 0 0⟩, ⟨4, none, .ptr 1 0⟩, ⟨1, none, .lit (.int .i64 x1)⟩], [.blk x0.enc, .blk [.sl [] .full, .lit (.int .i64 0)]]⟩ (AWp.reg Tryd.tyOk hΓ (keep := [11, 12, 13]) (dead := []) (by kernel_rfl) rfl (by simp)) ?_
  refine AWp.equip 6 3 (els := []) (by simp) (by simp) ?_
  refine AWp.loopE (fun (s1 : Int × List Antiphonref12Peer) (γ1 : Nat) => ⟨[⟨11, none, .sl (x0.fL.map Antiphonref12Peer.enc) .no⟩, ⟨12, none, .lit (.int .i64 (lenL x0.fL))⟩, ⟨13, none, .lit (.int .i64 s1.1)⟩, ⟨6, none, .sl (s1.2.map Antiphonref12Peer.enc) (.own 2 (γ1) 3)⟩, ⟨2, none, .ptr 0 0⟩, ⟨4, none, .ptr 1 0⟩, ⟨1, none, .lit (.int .i64 x1)⟩], [.blk x0.enc, .blk [.sl [] .full, .lit (.int .i64 0)], .room (γ1)]⟩) (fun (v1 : List Antiphonref12Peer) (γ1a : Nat) => ⟨[⟨6, none, .sl (v1.map Antiphonref12Peer.enc) (.own 2 (γ1a) 3)⟩, ⟨2, none, .ptr 0 0⟩, ⟨4, none, .ptr 1 0⟩], [.blk x0.enc, .blk [.sl [] .full, .lit (.int .i64 0)], .room (γ1a)]⟩) (gRef12Leave.fin x0 x1) hr 0 3 (by simp) (fun s1 f γ1 hr => ?_) (fun v1 γ1a σ1 m1 hr hc => ?_) (fun _ h => h)
  · unfold gRef12Leave.loop1 at hr
    refine AWp.then ⟨[⟨14, none, .lit (.bool (ltI s1.1 (lenL x0.fL)))⟩, ⟨11, none, .sl (x0.fL.map Antiphonref12Peer.enc) .no⟩, ⟨12, none, .lit (.int .i64 (lenL x0.fL))⟩, ⟨13, none, .lit (.int .i64 s1.1)⟩, ⟨6, none, .sl (s1.2.map Antiphonref12Peer.enc) (.own 2 (γ1) 3)⟩, ⟨2, none, .ptr 0 0⟩, ⟨4, none, .ptr 1 0⟩, ⟨1, none, .lit (.int .i64 x1)⟩], [.blk x0.enc, .blk [.sl [] .full, .lit (.int .i64 0)], .room (γ1)]⟩ (AWp.reg Tryd.tyOk hΓ (keep := [14]) (dead := []) (by kernel_rfl) rfl (by simp)) ?_
    refine AWp.seq ?_
    refine AWp.cond (b := (ltI s1.1 (lenL x0.fL))) (by simp) (fun h6 => ?_) (fun h6 => ?_)
    · have hr := cond_t h6 hr
      refine AWp.skip ?_
      refine AWp.seq ?_
      refine AWp.block ?_
      obtain ⟨h7, hr⟩ := need_some hr
      refine AWp.then ⟨[⟨8, none, .ptr 3 0⟩, ⟨11, none, .sl (x0.fL.map Antiphonref12Peer.enc) .no⟩, ⟨12, none, .lit (.int .i64 (lenL x0.fL))⟩, ⟨13, none, .lit (.int .i64 s1.1)⟩, ⟨6, none, .sl (s1.2.map Antiphonref12Peer.enc) (.own 2 (γ1) 3)⟩, ⟨2, none, .ptr 0 0⟩, ⟨4, none, .ptr 1 0⟩, ⟨1, none, .lit (.int .i64 x1)⟩], [.blk x0.enc, .blk [.sl [] .full, .lit (.int .i64 0)], .room (γ1), .blk (nthI x0.fL s1.1).enc]⟩ (AWp.reg Tryd.tyOk hΓ (keep := [8]) (dead := [14]) (by kernel_rfl) rfl (by simp [h6, h7])) ?_
      refine AWp.then ⟨[⟨20, none, .lit (.bool (neI ((nthI x0.fL s1.1).fN) x1))⟩, ⟨8, none, .ptr 3 0⟩, ⟨11, none, .sl (x0.fL.map Antiphonref12Peer.enc) .no⟩, ⟨12, none, .lit (.int .i64 (lenL x0.fL))⟩, ⟨13, none, .lit (.int .i64 s1.1)⟩, ⟨6, none, .sl (s1.2.map Antiphonref12Peer.enc) (.own 2 (γ1) 3)⟩, ⟨2, none, .ptr 0 0⟩, ⟨4, none, .ptr 1 0⟩, ⟨1, none, .lit (.int .i64 x1)⟩], [.blk x0.enc, .blk [.sl [] .full, .lit (.int .i64 0)], .room (γ1), .blk (nthI x0.fL s1.1).enc]⟩ (AWp.reg Tryd.tyOk hΓ (keep := [20]) (dead := []) (by kernel_rfl) rfl (by simp)) ?_
      refine AWp.cond (b := (neI ((nthI x0.fL s1.1).fN) x1)) (by simp) (fun h8 => ?_) (fun h8 => ?_)
      · have hr := cond_t h8 hr
        obtain ⟨h9, hr⟩ := need_some hr
        refine AWp.last ⟨[⟨6, none, .sl ((appL s1.2 [(nthI x0.fL s1.1)]).map Antiphonref12Peer.enc) (.own 2 (γ1 + 1) 3)⟩, ⟨11, none, .sl (x0.fL.map Antiphonref12Peer.enc) .no⟩, ⟨12, none, .lit (.int .i64 (lenL x0.fL))⟩, ⟨13, none, .lit (.int .i64 s1.1)⟩, ⟨2, none, .ptr 0 0⟩, ⟨4, none, .ptr 1 0⟩, ⟨1, none, .lit (.int .i64 x1)⟩], [.blk x0.enc, .blk [.sl [] .full, .lit (.int .i64 0)], .room (γ1 + 1), .blk (nthI x0.fL s1.1).enc]⟩ (AWp.reg Tryd.tyOk hΓ (keep := [6]) (dead := [20, 8]) (by kernel_rfl) rfl (by simp [h8, h9])) ?_
        refine AWp.last ⟨[⟨13, none, .lit (.int .i64 (addI .i64 s1.1 1))⟩, ⟨6, none, .sl ((appL s1.2 [(nthI x0.fL s1.1)]).map Antiphonref12Peer.enc) (.own 2 (γ1 + 1) 3)⟩, ⟨11, none, .sl (x0.fL.map Antiphonref12Peer.enc) .no⟩, ⟨12, none, .lit (.int .i64 (lenL x0.fL))⟩, ⟨2, none, .ptr 0 0⟩, ⟨4, none, .ptr 1 0⟩, ⟨1, none, .lit (.int .i64 x1)⟩], [.blk x0.enc, .blk [.sl [] .full, .lit (.int .i64 0)], .room (γ1 + 1), .blk (nthI x0.fL s1.1).enc]⟩ (AWp.reg Tryd.tyOk hΓ (keep := [13]) (dead := []) (by kernel_rfl) rfl (by simp)) ?_
        obtain rfl := some_inj hr
        exact round_go (γ1 + 1) 3 (by first | (simp; done) | simp [h6, h7, h8, h9])
      · have hr := cond_f h8 hr
        refine AWp.skip ?_
        refine AWp.last ⟨[⟨13, none, .lit (.int .i64 (addI .i64 s1.1 1))⟩, ⟨11, none, .sl (x0.fL.map Antiphonref12Peer.enc) .no⟩, ⟨12, none, .lit (.int .i64 (lenL x0.fL))⟩, ⟨6, none, .sl (s1.2.map Antiphonref12Peer.enc) (.own 2 (γ1) 3)⟩, ⟨2, none, .ptr 0 0⟩, ⟨4, none, .ptr 1 0⟩, ⟨1, none, .lit (.int .i64 x1)⟩], [.blk x0.enc, .blk [.sl [] .full, .lit (.int .i64 0)], .room (γ1), .blk (nthI x0.fL s1.1).enc]⟩ (AWp.reg Tryd.tyOk hΓ (keep := [13]) (dead := [20, 8]) (by kernel_rfl) rfl (by simp [h8])) ?_
        obtain rfl := some_inj hr
        exact round_go (γ1) 3 (by first | (simp; done) | simp [h6, h7, h8])
    · have hr := cond_f h6 hr
      refine AWp.exit ?_
      obtain rfl := some_inj hr
      exact round_out (γ1) 3 (by first | (simp; done) | simp [h6])
  · refine AWp.conv hc ?_
    refine AWp.seq ?_
    refine AWp.then ⟨[⟨31, none, .lit (.bool (eqI (lenL v1) (lenL x0.fL)))⟩, ⟨6, none, .sl (v1.map Antiphonref12Peer.enc) (.own 2 (γ1a) 3)⟩, ⟨2, none, .ptr 0 0⟩, ⟨4, none, .ptr 1 0⟩], [.blk x0.enc, .blk [.sl [] .full, .lit (.int .i64 0)], .room (γ1a)]⟩ (AWp.reg Tryd.tyOk hΓ (keep := [31]) (dead := []) (by kernel_rfl) rfl (by simp)) ?_
    refine AWp.cond (b := (eqI (lenL v1) (lenL x0.fL))) (by simp) (fun h10 => ?_) (fun h10 => ?_)
    · have hr := cond_t h10 hr
      refine AWp.then ⟨[⟨5, none, .lit (.int .i64 8)⟩, ⟨4, none, .ptr 1 0⟩], [.blk x0.enc, .blk x0.enc, .room (γ1a)]⟩ (AWp.reg Tryd.tyOk hΓ (keep := [5]) (dead := [31, 6, 2]) (by kernel_rfl) rfl (by simp [h10])) ?_
      refine AWp.ret ?_
      obtain rfl := some_inj hr
      refine fin_ret ?_
      simp
    · have hr := cond_f h10 hr
      refine AWp.skip ?_
      refine AWp.then ⟨[⟨5, none, .lit (.int .i64 0)⟩, ⟨4, none, .ptr 1 0⟩], [.blk x0.enc, .blk [.sl (v1.map Antiphonref12Peer.enc) (.own 2 (γ1a) 3), .lit (.int .i64 x0.fNext)], .room (γ1a)]⟩ (AWp.reg Tryd.tyOk hΓ (keep := [5]) (dead := [31, 6, 2]) (by kernel_rfl) rfl (by simp [h10])) ?_
      refine AWp.ret ?_
      obtain rfl := some_inj hr
      refine fin_ret ?_
      simp

@[simp] noncomputable def gRef12Leave.S : Sp
  | [.agg e0, .lit (.int .i64 x1)], _ => some { av := .tup [.agg [.sl ((((gRef12Leave (Antiphonref12Table.dec e0) x1).getD dflt).1.fL).map Antiphonref12Peer.enc) .no, .lit (.int .i64 (((gRef12Leave (Antiphonref12Table.dec e0) x1).getD dflt).1.fNext))], .lit (.int .i64 (((gRef12Leave (Antiphonref12Table.dec e0) x1).getD dflt).2))], M := none, obl := WeakL e0 (Antiphonref12Table.enc (Antiphonref12Table.dec e0)) ∧ (gRef12Leave (Antiphonref12Table.dec e0) x1).isSome = true }
  | _, _ => none

set_option maxHeartbeats 1000000 in
theorem gRef12Leave.ok : SpecOk Tryd.prog 17 gRef12Leave.S := by
  intro l M out h
  unfold gRef12Leave.S at h
  split at h
  · rename_i e0 x1
    cases h
    refine callOk_of fun ho => ?_
    obtain ⟨ox0, hs⟩ := ho
    generalize (Antiphonref12Table.dec e0) = x0 at *
    obtain ⟨r, hr⟩ := Option.isSome_iff_exists.1 hs
    simp only [hr, Option.getD_some]
    have q := call_frame (M := M) [] (gRef12Leave.can x0 x1 r hr) (by simp) rfl (by intro k i hk; simp at hk)
    exact callOk_conv q trivial (by simp; exact ox0) (by simp [frameOut, gRef12Leave.out]) (by simp [frameOut, gRef12Leave.out])
  · cases h

@[simp] def gRef12Together.out (_x0 : Antiphonref12Table) (_x1 : Int) (_x2 : Int) (r : Bool) : Out := { av := .lit (.bool r), M := none }
def gRef12Together.fin (x0 : Antiphonref12Table) (x1 : Int) (x2 : Int) (r : Bool) (σ : St) : Prop := finK (gRef12Together.out x0 x1 x2 r) [] σ.M (resA Tryd.ty σ.A σ.M Tryd.f19.results.toList)
set_option maxHeartbeats 4000000 in
set_option maxRecDepth 100000 in
theorem gRef12Together.can (x0 : Antiphonref12Table) (x1 : Int) (x2 : Int) (r : Bool) (hr : gRef12Together x0 x1 x2 = some r) : CallOk Tryd.prog 19 [.agg [.sl (x0.fL.map Antiphonref12Peer.enc) .no, .lit (.int .i64 x0.fNext)], .lit (.int .i64 x1), .lit (.int .i64 x2)] [] (gRef12Together.out x0 x1 x2 r) := by
  unfold gRef12Together at hr
  have hΓ := (gamL_cons gRef06Fold.ok (gamL_cons gRef12Find.ok (gamL_nil)) : GamOk Tryd.prog _)
  refine call_of_awp Tryd.tyOk Tryd.func19 rfl (by kernel_rfl) rfl rfl (by simp) ?_
  intro _ _ _
  refine AWp.then ⟨[⟨3, none, .ptr 0 0⟩, ⟨1, none, .lit (.int .i64 x1)⟩, ⟨2, none, .lit (.int .i64 x2)⟩], [.blk x0.enc]⟩ (AWp.reg Tryd.tyOk hΓ (keep := [3]) (dead := [0]) (by kernel_rfl) rfl (by simp)) ?_
  obtain ⟨r1, h5, hr⟩ := bind_some' hr
  refine AWp.then ⟨[⟨7, none, .ptr 1 0⟩, ⟨8, none, .lit (.bool r1.2)⟩, ⟨3, none, .ptr 0 0⟩, ⟨1, none, .lit (.int .i64 x1)⟩, ⟨2, none, .lit (.int .i64 x2)⟩], [.blk x0.enc, .blk r1.1.enc]⟩ (AWp.reg Tryd.tyOk hΓ (keep := [7, 8]) (dead := []) (by kernel_rfl) rfl (by simp [h5])) ?_
  obtain ⟨r2, h6, hr⟩ := bind_some' hr
  refine AWp.then ⟨[⟨9, none, .ptr 2 0⟩, ⟨10, none, .lit (.bool r2.2)⟩, ⟨7, none, .ptr 1 0⟩, ⟨8, none, .lit (.bool r1.2)⟩, ⟨1, none, .lit (.int .i64 x1)⟩, ⟨2, none, .lit (.int .i64 x2)⟩], [.blk x0.enc, .blk r1.1.enc, .blk r2.1.enc]⟩ (AWp.reg Tryd.tyOk hΓ (keep := [9, 10]) (dead := [3]) (by kernel_rfl) rfl (by simp [h6])) ?_
  obtain ⟨h7, hr⟩ := need_some hr
  obtain ⟨h8, hr⟩ := need_some hr
  refine AWp.then ⟨[⟨6, none, .lit (.bool (pickB (pickB (pickB r1.2 r2.2 false) (neI x1 x2) false) (eqS ((gRef06Fold r1.1.fRoom).getD dflt) ((gRef06Fold r2.1.fRoom).getD dflt)) false))⟩], [.blk x0.enc, .blk r1.1.enc, .blk r2.1.enc]⟩ (AWp.regD Tryd.mixed Tryd.tyOk hΓ (keep := [6]) (dead := [9, 10, 7, 8, 1, 2]) [] [(false, []), (false, []), (false, [24]), (false, []), (false, []), (false, [27]), (false, [27]), (false, [27]), (false, []), (false, []), (false, [32]), (false, [32]), (false, [32]), (false, [32]), (false, [32]), (false, [32]), (false, [32]), (false, []), (false, [])] (by kernel_rfl) rfl (by simp [h7, h8])) ?_
  refine AWp.ret ?_
  obtain rfl := some_inj hr
  refine fin_ret ?_
  simp

@[simp] noncomputable def gRef12Together.S : Sp
  | [.agg e0, .lit (.int .i64 x1), .lit (.int .i64 x2)], _ => some { av := .lit (.bool ((gRef12Together (Antiphonref12Table.dec e0) x1 x2).getD dflt)), M := none, obl := WeakL e0 (Antiphonref12Table.enc (Antiphonref12Table.dec e0)) ∧ (gRef12Together (Antiphonref12Table.dec e0) x1 x2).isSome = true }
  | _, _ => none

set_option maxHeartbeats 1000000 in
theorem gRef12Together.ok : SpecOk Tryd.prog 19 gRef12Together.S := by
  intro l M out h
  unfold gRef12Together.S at h
  split at h
  · rename_i e0 x1 x2
    cases h
    refine callOk_of fun ho => ?_
    obtain ⟨ox0, hs⟩ := ho
    generalize (Antiphonref12Table.dec e0) = x0 at *
    obtain ⟨r, hr⟩ := Option.isSome_iff_exists.1 hs
    simp only [hr, Option.getD_some]
    have q := call_frame (M := M) [] (gRef12Together.can x0 x1 x2 r hr) (by simp) rfl (by intro k i hk; simp at hk)
    exact callOk_conv q trivial (by simp; exact ox0) (by simp [frameOut, gRef12Together.out]) (by simp [frameOut, gRef12Together.out])
  · cases h
end Go.Proofs
