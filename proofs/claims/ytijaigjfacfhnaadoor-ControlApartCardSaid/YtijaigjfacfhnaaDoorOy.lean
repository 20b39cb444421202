/- That these functions compute what their plain functions do. No condition. -/
import Derived.Test.YtijaigjfacfhnaaDoorM02
import Derived.Test.YtijaigjfacfhnaaDoorTy
namespace Go.Proofs
open Go.Ab
@[simp] def gRef02Num.out (_x0 : Int) (_x1 : Int) (r : ByteArray) : Out := { av := .lit (.string r), M := none }
def gRef02Num.fin (x0 : Int) (x1 : Int) (r : ByteArray) (σ : St) : Prop := finK (gRef02Num.out x0 x1 r) [] σ.M (resA Tryd.ty σ.A σ.M Tryd.f45.results.toList)
set_option maxHeartbeats 4000000 in
set_option maxRecDepth 100000 in
theorem gRef02Num.can (x0 : Int) (x1 : Int) (r : ByteArray) (hr : gRef02Num x0 x1 = some r) : CallOk Tryd.prog 45 [.lit (.int .i64 x0), .lit (.int .u64 x1)] [] (gRef02Num.out x0 x1 r) := by
  unfold gRef02Num at hr
  have hΓ := gamL_nil (P := Tryd.prog)
  refine call_of_awp Tryd.tyOk Tryd.func45 rfl (by kernel_rfl) rfl rfl (by simp) ?_
  intro _ _ _
  refine AWp.then ⟨[⟨0, none, .lit (.int .i64 x0)⟩, ⟨1, none, .lit (.int .u64 x1)⟩], []⟩ (AWp.reg Tryd.tyOk hΓ (keep := []) (dead := []) (by kernel_rfl) rfl (by simp)) ?_
  refine AWp.then ⟨[⟨5, none, .lit (.string ⟨#[]⟩)⟩, ⟨0, none, .lit (.int .i64 x0)⟩, ⟨1, none, .lit (.int .u64 x1)⟩], []⟩ (AWp.reg Tryd.tyOk hΓ (keep := [5]) (dead := []) (by kernel_rfl) rfl (by simp)) ?_
  refine AWp.seq ?_
  refine AWp.then ⟨[⟨6, none, .lit (.int .i64 0)⟩, ⟨5, none, .lit (.string ⟨#[]⟩)⟩, ⟨0, none, .lit (.int .i64 x0)⟩, ⟨1, none, .lit (.int .u64 x1)⟩], []⟩ (AWp.reg Tryd.tyOk hΓ (keep := [6]) (dead := []) (by kernel_rfl) rfl (by simp)) ?_
  refine AWp.loopE (fun (s1 : Int × ByteArray × Int) (γ1 : Unit) => ⟨[⟨6, none, .lit (.int .i64 s1.1)⟩, ⟨5, none, .lit (.string s1.2.1)⟩, ⟨0, none, .lit (.int .i64 x0)⟩, ⟨1, none, .lit (.int .u64 s1.2.2)⟩], []⟩) (fun (v1 : ByteArray) (γ1a : Unit) => ⟨[⟨5, none, .lit (.string v1)⟩], []⟩) (gRef02Num.fin x0 x1) hr () 0 (by simp) (fun s1 f γ1 hr => ?_) (fun v1 γ1a σ1 m1 hr hc => ?_) (fun _ h => h)
  · unfold gRef02Num.loop1 at hr
    refine AWp.seq ?_
    refine AWp.then ⟨[⟨11, none, .lit (.bool (ltI s1.1 (minI (maxI x0 1) 8)))⟩, ⟨6, none, .lit (.int .i64 s1.1)⟩, ⟨5, none, .lit (.string s1.2.1)⟩, ⟨0, none, .lit (.int .i64 x0)⟩, ⟨1, none, .lit (.int .u64 s1.2.2)⟩], []⟩ (AWp.reg Tryd.tyOk hΓ (keep := [11]) (dead := []) (by kernel_rfl) rfl (by simp)) ?_
    refine AWp.cond (b := (ltI s1.1 (minI (maxI x0 1) 8))) (by simp) (fun h5 => ?_) (fun h5 => ?_)
    · have hr := cond_t h5 hr
      refine AWp.skip ?_
      refine AWp.seq ?_
      refine AWp.block ?_
      obtain ⟨h6, hr⟩ := need_some hr
      obtain ⟨h7, hr⟩ := need_some hr
      refine AWp.then ⟨[⟨5, none, .lit (.string (catS (strOfNums [(cvtI .u8 (remI s1.2.2 256))]) s1.2.1))⟩, ⟨6, none, .lit (.int .i64 s1.1)⟩, ⟨0, none, .lit (.int .i64 x0)⟩, ⟨1, none, .lit (.int .u64 s1.2.2)⟩], []⟩ (AWp.reg Tryd.tyOk hΓ (keep := [5]) (dead := [11]) (by kernel_rfl) rfl (by simp [h5, h6, h7])) ?_
      obtain ⟨h8, hr⟩ := need_some hr
      refine AWp.last ⟨[⟨1, none, .lit (.int .u64 (quoI .u64 s1.2.2 256))⟩, ⟨5, none, .lit (.string (catS (strOfNums [(cvtI .u8 (remI s1.2.2 256))]) s1.2.1))⟩, ⟨6, none, .lit (.int .i64 s1.1)⟩, ⟨0, none, .lit (.int .i64 x0)⟩], []⟩ (AWp.reg Tryd.tyOk hΓ (keep := [1]) (dead := []) (by kernel_rfl) rfl (by simp [h6])) ?_
      refine AWp.last ⟨[⟨6, none, .lit (.int .i64 (addI .i64 s1.1 1))⟩, ⟨1, none, .lit (.int .u64 (quoI .u64 s1.2.2 256))⟩, ⟨5, none, .lit (.string (catS (strOfNums [(cvtI .u8 (remI s1.2.2 256))]) s1.2.1))⟩, ⟨0, none, .lit (.int .i64 x0)⟩], []⟩ (AWp.reg Tryd.tyOk hΓ (keep := [6]) (dead := []) (by kernel_rfl) rfl (by simp)) ?_
      obtain rfl := some_inj hr
      exact round_go () 0 (by first | (simp; done) | simp [h5, h6, h7, h8])
    · have hr := cond_f h5 hr
      refine AWp.exit ?_
      obtain rfl := some_inj hr
      exact round_out () 0 (by first | (simp; done) | simp [h5])
  · refine AWp.conv hc ?_
    refine AWp.then ⟨[⟨4, none, .lit (.string v1)⟩], []⟩ (AWp.reg Tryd.tyOk hΓ (keep := [4]) (dead := [5]) (by kernel_rfl) rfl (by simp)) ?_
    refine AWp.ret ?_
    obtain rfl := some_inj hr
    refine fin_ret ?_
    simp

@[simp] noncomputable def gRef02Num.S : Sp
  | [.lit (.int .i64 x0), .lit (.int .u64 x1)], _ => some { av := .lit (.string ((gRef02Num x0 x1).getD dflt)), M := none, obl := (gRef02Num x0 x1).isSome = true }
  | _, _ => none

set_option maxHeartbeats 1000000 in
theorem gRef02Num.ok : SpecOk Tryd.prog 45 gRef02Num.S := by
  intro l M out h
  unfold gRef02Num.S at h
  split at h
  · rename_i x0 x1
    cases h
    refine callOk_of fun ho => ?_
    have hs := ho
    obtain ⟨r, hr⟩ := Option.isSome_iff_exists.1 hs
    simp only [hr, Option.getD_some]
    have q := call_frame (M := M) [] (gRef02Num.can x0 x1 r hr) (by simp) rfl (by intro k i hk; simp at hk)
    exact callOk_conv q trivial (by simp) (by simp [frameOut, gRef02Num.out]) (by simp [frameOut, gRef02Num.out])
  · cases h

@[simp] def gRef02Value.out (_x0 : ByteArray) (r : Int) : Out := { av := .lit (.int .u64 r), M := none }
def gRef02Value.fin (x0 : ByteArray) (r : Int) (σ : St) : Prop := finK (gRef02Value.out x0 r) [] σ.M (resA Tryd.ty σ.A σ.M Tryd.f53.results.toList)
set_option maxHeartbeats 4000000 in
set_option maxRecDepth 100000 in
theorem gRef02Value.can (x0 : ByteArray) (r : Int) (hr : gRef02Value x0 = some r) : CallOk Tryd.prog 53 [.lit (.string x0)] [] (gRef02Value.out x0 r) := by
  unfold gRef02Value at hr
  have hΓ := gamL_nil (P := Tryd.prog)
  refine call_of_awp Tryd.tyOk Tryd.func53 rfl (by kernel_rfl) rfl rfl (by simp) ?_
  intro _ _ _
  refine AWp.then ⟨[⟨0, none, .lit (.string x0)⟩], []⟩ (AWp.reg Tryd.tyOk hΓ (keep := []) (dead := []) (by kernel_rfl) rfl (by simp)) ?_
  refine AWp.then ⟨[⟨3, none, .lit (.int .u64 0)⟩, ⟨0, none, .lit (.string x0)⟩], []⟩ (AWp.reg Tryd.tyOk hΓ (keep := [3]) (dead := []) (by kernel_rfl) rfl (by simp)) ?_
  refine AWp.seq ?_
  refine AWp.then ⟨[⟨4, none, .lit (.int .i64 0)⟩, ⟨3, none, .lit (.int .u64 0)⟩, ⟨0, none, .lit (.string x0)⟩], []⟩ (AWp.reg Tryd.tyOk hΓ (keep := [4]) (dead := []) (by kernel_rfl) rfl (by simp)) ?_
  refine AWp.loopE (fun (s1 : Int × Int) (γ1 : Unit) => ⟨[⟨4, none, .lit (.int .i64 s1.1)⟩, ⟨3, none, .lit (.int .u64 s1.2)⟩, ⟨0, none, .lit (.string x0)⟩], []⟩) (fun (v1 : Int) (γ1a : Unit) => ⟨[⟨3, none, .lit (.int .u64 v1)⟩], []⟩) (gRef02Value.fin x0) hr () 0 (by simp) (fun s1 f γ1 hr => ?_) (fun v1 γ1a σ1 m1 hr hc => ?_) (fun _ h => h)
  · unfold gRef02Value.loop1 at hr
    refine AWp.seq ?_
    refine AWp.then ⟨[⟨8, none, .lit (.bool (ltI s1.1 (lenS x0)))⟩, ⟨4, none, .lit (.int .i64 s1.1)⟩, ⟨3, none, .lit (.int .u64 s1.2)⟩, ⟨0, none, .lit (.string x0)⟩], []⟩ (AWp.reg Tryd.tyOk hΓ (keep := [8]) (dead := []) (by kernel_rfl) rfl (by simp)) ?_
    refine AWp.cond (b := (ltI s1.1 (lenS x0))) (by simp) (fun h3 => ?_) (fun h3 => ?_)
    · have hr := cond_t h3 hr
      refine AWp.skip ?_
      refine AWp.seq ?_
      refine AWp.block ?_
      obtain ⟨h4, hr⟩ := need_some hr
      refine AWp.last ⟨[⟨3, none, .lit (.int .u64 (addI .u64 (mulI .u64 s1.2 256) (cvtI .u64 (idxS x0 s1.1))))⟩, ⟨4, none, .lit (.int .i64 s1.1)⟩, ⟨0, none, .lit (.string x0)⟩], []⟩ (AWp.reg Tryd.tyOk hΓ (keep := [3]) (dead := [8]) (by kernel_rfl) rfl (by simp [h3, h4])) ?_
      refine AWp.last ⟨[⟨4, none, .lit (.int .i64 (addI .i64 s1.1 1))⟩, ⟨3, none, .lit (.int .u64 (addI .u64 (mulI .u64 s1.2 256) (cvtI .u64 (idxS x0 s1.1))))⟩, ⟨0, none, .lit (.string x0)⟩], []⟩ (AWp.reg Tryd.tyOk hΓ (keep := [4]) (dead := []) (by kernel_rfl) rfl (by simp)) ?_
      obtain rfl := some_inj hr
      exact round_go () 0 (by first | (simp; done) | simp [h3, h4])
    · have hr := cond_f h3 hr
      refine AWp.exit ?_
      obtain rfl := some_inj hr
      exact round_out () 0 (by first | (simp; done) | simp [h3])
  · refine AWp.conv hc ?_
    refine AWp.then ⟨[⟨2, none, .lit (.int .u64 v1)⟩], []⟩ (AWp.reg Tryd.tyOk hΓ (keep := [2]) (dead := [3]) (by kernel_rfl) rfl (by simp)) ?_
    refine AWp.ret ?_
    obtain rfl := some_inj hr
    refine fin_ret ?_
    simp

@[simp] noncomputable def gRef02Value.S : Sp
  | [.lit (.string x0)], _ => some { av := .lit (.int .u64 ((gRef02Value x0).getD dflt)), M := none, obl := (gRef02Value x0).isSome = true }
  | _, _ => none

set_option maxHeartbeats 1000000 in
theorem gRef02Value.ok : SpecOk Tryd.prog 53 gRef02Value.S := by
  intro l M out h
  unfold gRef02Value.S at h
  split at h
  · rename_i x0
    cases h
    refine callOk_of fun ho => ?_
    have hs := ho
    obtain ⟨r, hr⟩ := Option.isSome_iff_exists.1 hs
    simp only [hr, Option.getD_some]
    have q := call_frame (M := M) [] (gRef02Value.can x0 r hr) (by simp) rfl (by intro k i hk; simp at hk)
    exact callOk_conv q trivial (by simp) (by simp [frameOut, gRef02Value.out]) (by simp [frameOut, gRef02Value.out])
  · cases h

@[simp] def gRef02Bytes.out (_x0 : Antiphonref02Reader) (_x1 : Int) (r : Antiphonref02Reader × ByteArray) : Out := { av := .tup [.agg [.lit (.string r.1.fS), .lit (.int .i64 r.1.fE)], .lit (.string r.2)], M := none }
def gRef02Bytes.fin (x0 : Antiphonref02Reader) (x1 : Int) (r : Antiphonref02Reader × ByteArray) (σ : St) : Prop := finK (gRef02Bytes.out x0 x1 r) [] σ.M (resA Tryd.ty σ.A σ.M Tryd.f52.results.toList)
set_option maxHeartbeats 4000000 in
set_option maxRecDepth 100000 in
theorem gRef02Bytes.can (x0 : Antiphonref02Reader) (x1 : Int) (r : Antiphonref02Reader × ByteArray) (hr : gRef02Bytes x0 x1 = some r) : CallOk Tryd.prog 52 [.agg [.lit (.string x0.fS), .lit (.int .i64 x0.fE)], .lit (.int .i64 x1)] [] (gRef02Bytes.out x0 x1 r) := by
  unfold gRef02Bytes at hr
  have hΓ := gamL_nil (P := Tryd.prog)
  refine call_of_awp Tryd.tyOk Tryd.func52 rfl (by kernel_rfl) rfl rfl (by simp) ?_
  intro _ _ _
  refine AWp.then ⟨[⟨2, none, .ptr 0 0⟩, ⟨4, none, .ptr 1 0⟩, ⟨1, none, .lit (.int .i64 x1)⟩], [.blk x0.enc, .blk [.lit (.string ⟨#[]⟩), .lit (.int .i64 0)]]⟩ (AWp.reg Tryd.tyOk hΓ (keep := [2, 4]) (dead := [0]) (by kernel_rfl) rfl (by simp)) ?_
  refine AWp.seq ?_
  refine AWp.then ⟨[⟨8, none, .lit (.bool (neI x0.fE 0))⟩, ⟨2, none, .ptr 0 0⟩, ⟨4, none, .ptr 1 0⟩, ⟨1, none, .lit (.int .i64 x1)⟩], [.blk x0.enc, .blk [.lit (.string ⟨#[]⟩), .lit (.int .i64 0)]]⟩ (AWp.reg Tryd.tyOk hΓ (keep := [8]) (dead := []) (by kernel_rfl) rfl (by simp)) ?_
  refine AWp.cond (b := (neI x0.fE 0)) (by simp) (fun h6 => ?_) (fun h6 => ?_)
  · have hr := cond_t h6 hr
    refine AWp.then ⟨[⟨5, none, .lit (.string ⟨#[]⟩)⟩, ⟨4, none, .ptr 1 0⟩], [.blk x0.enc, .blk x0.enc]⟩ (AWp.reg Tryd.tyOk hΓ (keep := [5]) (dead := [8, 2, 1]) (by kernel_rfl) rfl (by simp [h6])) ?_
    refine AWp.ret ?_
    obtain rfl := some_inj hr
    refine fin_ret ?_
    simp
  · have hr := cond_f h6 hr
    refine AWp.skip ?_
    refine AWp.seq ?_
    refine AWp.then ⟨[⟨11, none, .lit (.bool (ltI x1 0))⟩, ⟨2, none, .ptr 0 0⟩, ⟨4, none, .ptr 1 0⟩, ⟨1, none, .lit (.int .i64 x1)⟩], [.blk x0.enc, .blk [.lit (.string ⟨#[]⟩), .lit (.int .i64 0)]]⟩ (AWp.reg Tryd.tyOk hΓ (keep := [11]) (dead := [8]) (by kernel_rfl) rfl (by simp [h6])) ?_
    refine AWp.cond (b := (ltI x1 0)) (by simp) (fun h7 => ?_) (fun h7 => ?_)
    · have hr := cond_t h7 hr
      refine AWp.then ⟨[⟨5, none, .lit (.string ⟨#[]⟩)⟩, ⟨4, none, .ptr 1 0⟩], [.blk x0.enc, .blk [.lit (.string ⟨#[]⟩), .lit (.int .i64 5)]]⟩ (AWp.reg Tryd.tyOk hΓ (keep := [5]) (dead := [11, 2, 1]) (by kernel_rfl) rfl (by simp [h7])) ?_
      refine AWp.ret ?_
      obtain rfl := some_inj hr
      refine fin_ret ?_
      simp
    · have hr := cond_f h7 hr
      refine AWp.skip ?_
      refine AWp.seq ?_
      refine AWp.then ⟨[⟨17, none, .lit (.bool (ltI (lenS x0.fS) x1))⟩, ⟨2, none, .ptr 0 0⟩, ⟨4, none, .ptr 1 0⟩, ⟨1, none, .lit (.int .i64 x1)⟩], [.blk x0.enc, .blk [.lit (.string ⟨#[]⟩), .lit (.int .i64 0)]]⟩ (AWp.reg Tryd.tyOk hΓ (keep := [17]) (dead := [11]) (by kernel_rfl) rfl (by simp [h7])) ?_
      refine AWp.cond (b := (ltI (lenS x0.fS) x1)) (by simp) (fun h8 => ?_) (fun h8 => ?_)
      · have hr := cond_t h8 hr
        refine AWp.then ⟨[⟨5, none, .lit (.string ⟨#[]⟩)⟩, ⟨4, none, .ptr 1 0⟩], [.blk x0.enc, .blk [.lit (.string ⟨#[]⟩), .lit (.int .i64 1)]]⟩ (AWp.reg Tryd.tyOk hΓ (keep := [5]) (dead := [17, 2, 1]) (by kernel_rfl) rfl (by simp [h8])) ?_
        refine AWp.ret ?_
        obtain rfl := some_inj hr
        refine fin_ret ?_
        simp
      · have hr := cond_f h8 hr
        refine AWp.skip ?_
        obtain ⟨h9, hr⟩ := need_some hr
        obtain ⟨h10, hr⟩ := need_some hr
        refine AWp.then ⟨[⟨5, none, .lit (.string (cutS x0.fS 0 x1))⟩, ⟨4, none, .ptr 1 0⟩], [.blk x0.enc, .blk [.lit (.string (cutS x0.fS x1 (lenS x0.fS))), .lit (.int .i64 0)]]⟩ (AWp.regD Tryd.mixed Tryd.tyOk hΓ (keep := [5]) (dead := [17, 2, 1]) [(5, 10), (6, 10), (7, 10), (8, 10)] [(false, []), (false, []), (false, []), (false, []), (false, []), (false, []), (false, []), (false, []), (false, []), (true, []), (false, [])] (by kernel_rfl) rfl (by simp [h8, h9, h10])) ?_
        refine AWp.ret ?_
        obtain rfl := some_inj hr
        refine fin_ret ?_
        simp

@[simp] noncomputable def gRef02Bytes.S : Sp
  | [.agg e0, .lit (.int .i64 x1)], _ => some { av := .tup [.agg [.lit (.string (((gRef02Bytes (Antiphonref02Reader.dec e0) x1).getD dflt).1.fS)), .lit (.int .i64 (((gRef02Bytes (Antiphonref02Reader.dec e0) x1).getD dflt).1.fE))], .lit (.string (((gRef02Bytes (Antiphonref02Reader.dec e0) x1).getD dflt).2))], M := none, obl := WeakL e0 (Antiphonref02Reader.enc (Antiphonref02Reader.dec e0)) ∧ (gRef02Bytes (Antiphonref02Reader.dec e0) x1).isSome = true }
  | _, _ => none

set_option maxHeartbeats 1000000 in
theorem gRef02Bytes.ok : SpecOk Tryd.prog 52 gRef02Bytes.S := by
  intro l M out h
  unfold gRef02Bytes.S at h
  split at h
  · rename_i e0 x1
    cases h
    refine callOk_of fun ho => ?_
    obtain ⟨ox0, hs⟩ := ho
    generalize (Antiphonref02Reader.dec e0) = x0 at *
    obtain ⟨r, hr⟩ := Option.isSome_iff_exists.1 hs
    simp only [hr, Option.getD_some]
    have q := call_frame (M := M) [] (gRef02Bytes.can x0 x1 r hr) (by simp) rfl (by intro k i hk; simp at hk)
    exact callOk_conv q trivial (by simp; exact ox0) (by simp [frameOut, gRef02Bytes.out]) (by simp [frameOut, gRef02Bytes.out])
  · cases h

@[simp] def gRef02Take.out (_x0 : Antiphonref02Reader) (_x1 : Int) (r : Antiphonref02Reader × Int) : Out := { av := .tup [.agg [.lit (.string r.1.fS), .lit (.int .i64 r.1.fE)], .lit (.int .u64 r.2)], M := none }
def gRef02Take.fin (x0 : Antiphonref02Reader) (x1 : Int) (r : Antiphonref02Reader × Int) (σ : St) : Prop := finK (gRef02Take.out x0 x1 r) [] σ.M (resA Tryd.ty σ.A σ.M Tryd.f26.results.toList)
set_option maxHeartbeats 4000000 in
set_option maxRecDepth 100000 in
theorem gRef02Take.can (x0 : Antiphonref02Reader) (x1 : Int) (r : Antiphonref02Reader × Int) (hr : gRef02Take x0 x1 = some r) : CallOk Tryd.prog 26 [.agg [.lit (.string x0.fS), .lit (.int .i64 x0.fE)], .lit (.int .i64 x1)] [] (gRef02Take.out x0 x1 r) := by
  unfold gRef02Take at hr
  have hΓ := (gamL_cons gRef02Bytes.ok (gamL_cons gRef02Value.ok (gamL_nil)) : GamOk Tryd.prog _)
  refine call_of_awp Tryd.tyOk Tryd.func26 rfl (by kernel_rfl) rfl rfl (by simp) ?_
  intro _ _ _
  refine AWp.then ⟨[⟨2, none, .ptr 0 0⟩, ⟨4, none, .ptr 1 0⟩, ⟨1, none, .lit (.int .i64 x1)⟩], [.blk x0.enc, .blk [.lit (.string ⟨#[]⟩), .lit (.int .i64 0)]]⟩ (AWp.reg Tryd.tyOk hΓ (keep := [2, 4]) (dead := [0]) (by kernel_rfl) rfl (by simp)) ?_
  obtain ⟨r1, h3, hr⟩ := bind_some' hr
  refine AWp.then ⟨[⟨6, none, .lit (.string r1.2)⟩, ⟨2, none, .ptr 0 0⟩, ⟨4, none, .ptr 1 0⟩], [.blk r1.1.enc, .blk [.lit (.string ⟨#[]⟩), .lit (.int .i64 0)]]⟩ (AWp.reg Tryd.tyOk hΓ (keep := [6]) (dead := [1]) (by kernel_rfl) rfl (by simp [h3])) ?_
  obtain ⟨r2, h4, hr⟩ := bind_some' hr
  refine AWp.then ⟨[⟨5, none, .lit (.int .u64 r2)⟩, ⟨4, none, .ptr 1 0⟩], [.blk r1.1.enc, .blk r1.1.enc]⟩ (AWp.regD Tryd.mixed Tryd.tyOk hΓ (keep := [5]) (dead := [6, 2]) [] [(false, []), (false, []), (false, []), (true, []), (false, [])] (by kernel_rfl) rfl (by simp [h4])) ?_
  refine AWp.ret ?_
  obtain rfl := some_inj hr
  refine fin_ret ?_
  simp

@[simp] noncomputable def gRef02Take.S : Sp
  | [.agg e0, .lit (.int .i64 x1)], _ => some { av := .tup [.agg [.lit (.string (((gRef02Take (Antiphonref02Reader.dec e0) x1).getD dflt).1.fS)), .lit (.int .i64 (((gRef02Take (Antiphonref02Reader.dec e0) x1).getD dflt).1.fE))], .lit (.int .u64 (((gRef02Take (Antiphonref02Reader.dec e0) x1).getD dflt).2))], M := none, obl := WeakL e0 (Antiphonref02Reader.enc (Antiphonref02Reader.dec e0)) ∧ (gRef02Take (Antiphonref02Reader.dec e0) x1).isSome = true }
  | _, _ => none

set_option maxHeartbeats 1000000 in
theorem gRef02Take.ok : SpecOk Tryd.prog 26 gRef02Take.S := by
  intro l M out h
  unfold gRef02Take.S at h
  split at h
  · rename_i e0 x1
    cases h
    refine callOk_of fun ho => ?_
    obtain ⟨ox0, hs⟩ := ho
    generalize (Antiphonref02Reader.dec e0) = x0 at *
    obtain ⟨r, hr⟩ := Option.isSome_iff_exists.1 hs
    simp only [hr, Option.getD_some]
    have q := call_frame (M := M) [] (gRef02Take.can x0 x1 r hr) (by simp) rfl (by intro k i hk; simp at hk)
    exact callOk_conv q trivial (by simp; exact ox0) (by simp [frameOut, gRef02Take.out]) (by simp [frameOut, gRef02Take.out])
  · cases h

@[simp] def gRef02Fail.out (_x0 : Antiphonref02Reader) (_x1 : Int) (r : Antiphonref02Reader) : Out := { av := .agg [.lit (.string r.fS), .lit (.int .i64 r.fE)], M := none }
def gRef02Fail.fin (x0 : Antiphonref02Reader) (x1 : Int) (r : Antiphonref02Reader) (σ : St) : Prop := finK (gRef02Fail.out x0 x1 r) [] σ.M (resA Tryd.ty σ.A σ.M Tryd.f72.results.toList)
set_option maxHeartbeats 4000000 in
set_option maxRecDepth 100000 in
theorem gRef02Fail.can (x0 : Antiphonref02Reader) (x1 : Int) (r : Antiphonref02Reader) (hr : gRef02Fail x0 x1 = some r) : CallOk Tryd.prog 72 [.agg [.lit (.string x0.fS), .lit (.int .i64 x0.fE)], .lit (.int .i64 x1)] [] (gRef02Fail.out x0 x1 r) := by
  unfold gRef02Fail at hr
  have hΓ := gamL_nil (P := Tryd.prog)
  refine call_of_awp Tryd.tyOk Tryd.func72 rfl (by kernel_rfl) rfl rfl (by simp) ?_
  intro _ _ _
  refine AWp.then ⟨[⟨2, none, .ptr 0 0⟩, ⟨4, none, .ptr 1 0⟩, ⟨1, none, .lit (.int .i64 x1)⟩], [.blk x0.enc, .blk [.lit (.string ⟨#[]⟩), .lit (.int .i64 0)]]⟩ (AWp.reg Tryd.tyOk hΓ (keep := [2, 4]) (dead := [0]) (by kernel_rfl) rfl (by simp)) ?_
  refine AWp.seq ?_
  refine AWp.then ⟨[⟨11, none, .lit (.bool (pickB (eqI x0.fE 0) (neI x1 0) false))⟩, ⟨2, none, .ptr 0 0⟩, ⟨4, none, .ptr 1 0⟩, ⟨1, none, .lit (.int .i64 x1)⟩], [.blk x0.enc, .blk [.lit (.string ⟨#[]⟩), .lit (.int .i64 0)]]⟩ (AWp.reg Tryd.tyOk hΓ (keep := [11]) (dead := []) (by kernel_rfl) rfl (by simp)) ?_
  refine AWp.cond (b := (pickB (eqI x0.fE 0) (neI x1 0) false)) (by simp) (fun h2 => ?_) (fun h2 => ?_)
  · have hr := cond_t h2 hr
    refine AWp.then ⟨[⟨4, none, .ptr 1 0⟩], [.blk x0.enc, .blk [.lit (.string ⟨#[]⟩), .lit (.int .i64 x1)]]⟩ (AWp.reg Tryd.tyOk hΓ (keep := []) (dead := [11, 2, 1]) (by kernel_rfl) rfl (by simp [h2])) ?_
    refine AWp.ret ?_
    obtain rfl := some_inj hr
    refine fin_ret ?_
    simp
  · have hr := cond_f h2 hr
    refine AWp.skip ?_
    refine AWp.then ⟨[⟨4, none, .ptr 1 0⟩], [.blk x0.enc, .blk x0.enc]⟩ (AWp.reg Tryd.tyOk hΓ (keep := []) (dead := [11, 2, 1]) (by kernel_rfl) rfl (by simp [h2])) ?_
    refine AWp.ret ?_
    obtain rfl := some_inj hr
    refine fin_ret ?_
    simp

@[simp] noncomputable def gRef02Fail.S : Sp
  | [.agg e0, .lit (.int .i64 x1)], _ => some { av := .agg [.lit (.string (((gRef02Fail (Antiphonref02Reader.dec e0) x1).getD dflt).fS)), .lit (.int .i64 (((gRef02Fail (Antiphonref02Reader.dec e0) x1).getD dflt).fE))], M := none, obl := WeakL e0 (Antiphonref02Reader.enc (Antiphonref02Reader.dec e0)) ∧ (gRef02Fail (Antiphonref02Reader.dec e0) x1).isSome = true }
  | _, _ => none

set_option maxHeartbeats 1000000 in
theorem gRef02Fail.ok : SpecOk Tryd.prog 72 gRef02Fail.S := by
  intro l M out h
  unfold gRef02Fail.S at h
  split at h
  · rename_i e0 x1
    cases h
    refine callOk_of fun ho => ?_
    obtain ⟨ox0, hs⟩ := ho
    generalize (Antiphonref02Reader.dec e0) = x0 at *
    obtain ⟨r, hr⟩ := Option.isSome_iff_exists.1 hs
    simp only [hr, Option.getD_some]
    have q := call_frame (M := M) [] (gRef02Fail.can x0 x1 r hr) (by simp) rfl (by intro k i hk; simp at hk)
    exact callOk_conv q trivial (by simp; exact ox0) (by simp [frameOut, gRef02Fail.out]) (by simp [frameOut, gRef02Fail.out])
  · cases h

@[simp] def gRef02End.out (_x0 : Antiphonref02Reader) (r : Int) : Out := { av := .lit (.int .i64 r), M := none }
def gRef02End.fin (x0 : Antiphonref02Reader) (r : Int) (σ : St) : Prop := finK (gRef02End.out x0 r) [] σ.M (resA Tryd.ty σ.A σ.M Tryd.f28.results.toList)
set_option maxHeartbeats 4000000 in
set_option maxRecDepth 100000 in
theorem gRef02End.can (x0 : Antiphonref02Reader) (r : Int) (hr : gRef02End x0 = some r) : CallOk Tryd.prog 28 [.agg [.lit (.string x0.fS), .lit (.int .i64 x0.fE)]] [] (gRef02End.out x0 r) := by
  unfold gRef02End at hr
  have hΓ := gamL_nil (P := Tryd.prog)
  refine call_of_awp Tryd.tyOk Tryd.func28 rfl (by kernel_rfl) rfl rfl (by simp) ?_
  intro _ _ _
  refine AWp.then ⟨[⟨1, none, .ptr 0 0⟩], [.blk x0.enc]⟩ (AWp.reg Tryd.tyOk hΓ (keep := [1]) (dead := [0]) (by kernel_rfl) rfl (by simp)) ?_
  refine AWp.seq ?_
  refine AWp.then ⟨[⟨10, none, .lit (.bool (pickB (eqI x0.fE 0) (neS x0.fS ⟨#[]⟩) false))⟩, ⟨1, none, .ptr 0 0⟩], [.blk x0.enc]⟩ (AWp.reg Tryd.tyOk hΓ (keep := [10]) (dead := []) (by kernel_rfl) rfl (by simp)) ?_
  refine AWp.cond (b := (pickB (eqI x0.fE 0) (neS x0.fS ⟨#[]⟩) false)) (by simp) (fun h2 => ?_) (fun h2 => ?_)
  · have hr := cond_t h2 hr
    refine AWp.then ⟨[⟨2, none, .lit (.int .i64 2)⟩], [.blk x0.enc]⟩ (AWp.reg Tryd.tyOk hΓ (keep := [2]) (dead := [10, 1]) (by kernel_rfl) rfl (by simp [h2])) ?_
    refine AWp.ret ?_
    obtain rfl := some_inj hr
    refine fin_ret ?_
    simp
  · have hr := cond_f h2 hr
    refine AWp.skip ?_
    refine AWp.then ⟨[⟨2, none, .lit (.int .i64 x0.fE)⟩], [.blk x0.enc]⟩ (AWp.reg Tryd.tyOk hΓ (keep := [2]) (dead := [10, 1]) (by kernel_rfl) rfl (by simp [h2])) ?_
    refine AWp.ret ?_
    obtain rfl := some_inj hr
    refine fin_ret ?_
    simp

@[simp] noncomputable def gRef02End.S : Sp
  | [.agg e0], _ => some { av := .lit (.int .i64 ((gRef02End (Antiphonref02Reader.dec e0)).getD dflt)), M := none, obl := WeakL e0 (Antiphonref02Reader.enc (Antiphonref02Reader.dec e0)) ∧ (gRef02End (Antiphonref02Reader.dec e0)).isSome = true }
  | _, _ => none

set_option maxHeartbeats 1000000 in
theorem gRef02End.ok : SpecOk Tryd.prog 28 gRef02End.S := by
  intro l M out h
  unfold gRef02End.S at h
  split at h
  · rename_i e0
    cases h
    refine callOk_of fun ho => ?_
    obtain ⟨ox0, hs⟩ := ho
    generalize (Antiphonref02Reader.dec e0) = x0 at *
    obtain ⟨r, hr⟩ := Option.isSome_iff_exists.1 hs
    simp only [hr, Option.getD_some]
    have q := call_frame (M := M) [] (gRef02End.can x0 r hr) (by simp) rfl (by intro k i hk; simp at hk)
    exact callOk_conv q trivial (by simp; exact ox0) (by simp [frameOut, gRef02End.out]) (by simp [frameOut, gRef02End.out])
  · cases h
end Go.Proofs
