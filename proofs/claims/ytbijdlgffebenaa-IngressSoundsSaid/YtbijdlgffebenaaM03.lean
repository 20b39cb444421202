/- That these functions compute what their plain functions do. No condition. -/
import Derived.Test.YtbijdlgffebenaaM04
import Derived.Test.YtbijdlgffebenaaTy
import Derived.Test.YtbijdlgffebenaaFr
import Derived.Test.YtbijdlgffebenaaIg
import Derived.Test.YtbijdlgffebenaaRo
import Derived.Test.YtbijdlgffebenaaIa
import Derived.Test.YtbijdlgffebenaaGl
import Derived.Test.YtbijdlgffebenaaM09
import Derived.Test.YtbijdlgffebenaaIn
import Derived.Test.YtbijdlgffebenaaJk
section
namespace Go.Proofs
open Go.Ab
@[simp] def gLaw11IngressMay.out (x0 : Int) (x1 : Int) (x2 : Int) (x3 : Int) (r : Bool) : Out := { av := .lit (.bool r), M := none }
def gLaw11IngressMay.fin (x0 : Int) (x1 : Int) (x2 : Int) (x3 : Int) (r : Bool) (σ : St) : Prop := finK (gLaw11IngressMay.out x0 x1 x2 x3 r) [] σ.M (resA Try.ty σ.A σ.M Try.f5.results.toList)
set_option maxHeartbeats 4000000 in
set_option maxRecDepth 100000 in
theorem gLaw11IngressMay.can (x0 : Int) (x1 : Int) (x2 : Int) (x3 : Int) (r : Bool) (hr : gLaw11IngressMay x0 x1 x2 x3 = some r) : CallOk Try.prog 5 [.lit (.int .i64 x0), .lit (.int .i64 x1), .lit (.int .i64 x2), .lit (.int .i64 x3)] [] (gLaw11IngressMay.out x0 x1 x2 x3 r) := by
  unfold gLaw11IngressMay at hr
  have hΓ := (gamL_cons gFrameConfigCheck.ok (gamL_cons gIngressConfigCheck.ok (gamL_cons gReorderConfigCheck.ok (gamL_cons gLaw11Awake.ok (gamL_cons gIngressNew.ok (gamL_nil))))) : GamOk Try.prog _)
  refine call_of_awp Try.tyOk Try.func5 rfl (by kernel_rfl) rfl rfl (by simp) ?_
  intro _ _ _
  refine AWp.then ⟨[⟨0, none, .lit (.int .i64 x0)⟩, ⟨1, none, .lit (.int .i64 x1)⟩, ⟨2, none, .lit (.int .i64 x2)⟩, ⟨3, none, .lit (.int .i64 x3)⟩], []⟩ (AWp.reg Try.tyOk hΓ (keep := []) (dead := []) (by kernel_rfl) rfl (by simp)) ?_
  refine AWp.then ⟨[⟨9, none, .ptr 0 0⟩], [.blk [.lit (.int .i64 x0), .lit (.int .i64 x1), .lit (.bool false), .lit (.int .i64 x2), .lit (.int .i64 x3), .lit (.int .i64 0)]]⟩ (AWp.reg Try.tyOk hΓ (keep := [9]) (dead := [0, 1, 2, 3]) (by kernel_rfl) rfl (by simp)) ?_
  obtain ⟨r1, h11, hr⟩ := bind_some' hr
  cases h12 : r1.1 with
  | none =>
    have hr := optC_n h12 hr
    refine AWp.then ⟨[⟨10, none, .lit (.pointer none)⟩, ⟨11, none, .lit (.int .i64 r1.2)⟩, ⟨9, none, .ptr 0 0⟩], [.blk [.lit (.int .i64 x0), .lit (.int .i64 x1), .lit (.bool false), .lit (.int .i64 x2), .lit (.int .i64 x3), .lit (.int .i64 0)]]⟩ (AWp.reg Try.tyOk hΓ (keep := [10, 11]) (dead := []) (by kernel_rfl) rfl (by simp [h11, h12])) ?_
    obtain ⟨r2, h13, hr⟩ := bind_some' hr
    obtain ⟨h14, hr⟩ := need_some hr
    obtain ⟨h15, hr⟩ := need_some hr
    obtain ⟨h16, hr⟩ := need_some hr
    refine AWp.then ⟨[⟨8, none, .lit (.bool (pickB (pickB (pickB r2 (eqI r1.2 ((gIngressConfigCheck (IngressConfig.mk (ReorderConfig.mk x0 x1) (FrameConfig.mk false x2 x3 0))).getD dflt)) false) (eqB false (eqI r1.2 0)) false) (eqB (eqI r1.2 0) (pickB (eqI ((gReorderConfigCheck (ReorderConfig.mk x0 x1)).getD dflt) 0) (eqI ((gFrameConfigCheck (FrameConfig.mk false x2 x3 0)).getD dflt) 0) false)) false))⟩], [.blk [.lit (.int .i64 x0), .lit (.int .i64 x1), .lit (.bool false), .lit (.int .i64 x2), .lit (.int .i64 x3), .lit (.int .i64 0)]]⟩ (AWp.reg Try.tyOk hΓ (keep := [8]) (dead := [10, 11, 9]) (by kernel_rfl) rfl (by simp [h11, h12, h13, h14, h15, h16])) ?_
    refine AWp.ret ?_
    obtain rfl := some_inj hr
    refine fin_ret ?_
    simp
  | some o1 =>
    have hr := optC_s h12 hr
    refine AWp.then ⟨[⟨10, none, .ptr 8 0⟩, ⟨11, none, .lit (.int .i64 r1.2)⟩, ⟨9, none, .ptr 0 0⟩], [.blk [.lit (.int .i64 x0), .lit (.int .i64 x1), .lit (.bool false), .lit (.int .i64 x2), .lit (.int .i64 x3), .lit (.int .i64 0)], .dead, .dead, .mapo (encM (kI .i64) (vA Antiphonref09Thing.enc) o1.fBuffer.fOf), .blk (o1.fBuffer.fConfig.enc ++ [.lit (.bool o1.fBuffer.fBegun), .lit (.int .i64 o1.fBuffer.fNext), .mp 3, .lit (.int .i64 o1.fBuffer.fLost)]), .dead, .blk o1.fMaker.enc, .mapo (encM (kI .i64) (vA Antiphonref03Packet.enc) o1.fOf), .blk ([.ptr 4 0, .ptr 6 0] ++ o1.fSeq.enc ++ o1.fClock.enc ++ [.mp 7, .lit (.int .i64 o1.fBad), .lit (.int .i64 o1.fKeys)])]⟩ (AWp.reg Try.tyOk hΓ (keep := [10, 11]) (dead := []) (by kernel_rfl) rfl (by simp [h11, h12])) ?_
    obtain ⟨r2, h17, hr⟩ := bind_some' hr
    obtain ⟨h18, hr⟩ := need_some hr
    obtain ⟨h19, hr⟩ := need_some hr
    obtain ⟨h20, hr⟩ := need_some hr
    refine AWp.then ⟨[⟨8, none, .lit (.bool (pickB (pickB (pickB r2 (eqI r1.2 ((gIngressConfigCheck (IngressConfig.mk (ReorderConfig.mk x0 x1) (FrameConfig.mk false x2 x3 0))).getD dflt)) false) (eqB true (eqI r1.2 0)) false) (eqB (eqI r1.2 0) (pickB (eqI ((gReorderConfigCheck (ReorderConfig.mk x0 x1)).getD dflt) 0) (eqI ((gFrameConfigCheck (FrameConfig.mk false x2 x3 0)).getD dflt) 0) false)) false))⟩], [.blk [.lit (.int .i64 x0), .lit (.int .i64 x1), .lit (.bool false), .lit (.int .i64 x2), .lit (.int .i64 x3), .lit (.int .i64 0)], .dead, .dead, .mapo (encM (kI .i64) (vA Antiphonref09Thing.enc) o1.fBuffer.fOf), .blk (o1.fBuffer.fConfig.enc ++ [.lit (.bool o1.fBuffer.fBegun), .lit (.int .i64 o1.fBuffer.fNext), .mp 3, .lit (.int .i64 o1.fBuffer.fLost)]), .dead, .blk o1.fMaker.enc, .mapo (encM (kI .i64) (vA Antiphonref03Packet.enc) o1.fOf), .blk ([.ptr 4 0, .ptr 6 0] ++ o1.fSeq.enc ++ o1.fClock.enc ++ [.mp 7, .lit (.int .i64 o1.fBad), .lit (.int .i64 o1.fKeys)])]⟩ (AWp.reg Try.tyOk hΓ (keep := [8]) (dead := [10, 11, 9]) (by kernel_rfl) rfl (by simp [h11, h12, h17, h18, h19, h20])) ?_
    refine AWp.ret ?_
    obtain rfl := some_inj hr
    refine fin_ret ?_
    simp

@[simp] noncomputable def gLaw11IngressMay.S : Sp
  | [.lit (.int .i64 x0), .lit (.int .i64 x1), .lit (.int .i64 x2), .lit (.int .i64 x3)], _ => some { av := .lit (.bool ((gLaw11IngressMay x0 x1 x2 x3).getD dflt)), M := none, obl := (gLaw11IngressMay x0 x1 x2 x3).isSome = true }
  | _, _ => none

set_option maxHeartbeats 1000000 in
theorem gLaw11IngressMay.ok : SpecOk Try.prog 5 gLaw11IngressMay.S := by
  intro l M out h
  unfold gLaw11IngressMay.S at h
  split at h
  · rename_i x0 x1 x2 x3
    cases h
    refine callOk_of fun ho => ?_
    have hs := ho
    obtain ⟨r, hr⟩ := Option.isSome_iff_exists.1 hs
    simp only [hr, Option.getD_some]
    have q := call_frame (M := M) [] (gLaw11IngressMay.can x0 x1 x2 x3 r hr) (by simp) rfl (by intro k i hk; simp at hk)
    exact callOk_conv q trivial (by simp [into]) (by simp [frameOut, gLaw11IngressMay.out, into]) (by simp [frameOut, gLaw11IngressMay.out, into])
  · cases h
end Go.Proofs
end
section
namespace Go.Ab
def ShFs (P : Program) : List TypeId → List AV → Prop
  | [], q => q = []
  | t :: ts, q => ∃ r q', q = r ++ q' ∧ ShE P t r ∧ ShFs P ts q'
theorem shFs_of {P : Program} : ∀ {ts : List TypeId} {parts : List (List AV)}, parts.length = ts.length → (∀ (j : Nat) (t : TypeId), ts[j]? = some t → ∃ r, parts[j]? = some r ∧ ShE P t r) → ShFs P ts parts.flatten
  | [], [], _, _ => rfl
  | [], _ :: _, h, _ => by simp at h
  | _ :: _, [], h, _ => by simp at h
  | t :: ts, p :: parts, h, hp => by
    obtain ⟨r, h1, h2⟩ := hp 0 t rfl
    cases h1
    exact ⟨p, parts.flatten, by simp, h2, shFs_of (by simpa using h) fun j t' ht => hp (j + 1) t' ht⟩
theorem sh_fields {P : Program} {t : TypeId} {l : List (Nat × TypeId)} {size bytes : Nat} {z q : List AV} {eq : Bool} (ht : tyOf P t = some ⟨.struct l, size, bytes, z, eq⟩) (h : ShE P t q) : ShFs P (l.map (·.2)) q := by
  unfold tyOf at ht
  split at ht
  · rename_i i d hi hd
    split at ht
    · split at ht
      · simp only [Option.some.injEq, TyI.mk.injEq] at ht
        obtain ⟨hk, _⟩ := ht
        cases d with
        | struct fs =>
          simp only [kindOf, TyK.struct.injEq] at hk
          obtain ⟨parts, h1, rfl, h3⟩ := sh_struct hd h
          refine shFs_of (by rw [h1, ← hk]; simp) fun j t' hj => ?_
          rw [← hk] at hj
          simp only [List.map_map, List.getElem?_map, Array.getElem?_toList] at hj
          cases hf : fs[j]? with
          | none => rw [hf] at hj; cases hj
          | some f =>
            rw [hf] at hj
            simp only [Option.map_some, Option.some.injEq, Function.comp_apply] at hj
            subst hj
            exact h3 j f hf
        | _ => simp [kindOf] at hk
      · cases ht
    · cases ht
  · cases ht
theorem shV_agg {P : Program} {t : TypeId} {l : List (Nat × TypeId)} {size bytes : Nat} {z : List AV} {av : AV} {eq : Bool} (ht : tyOf P t = some ⟨.struct l, size, bytes, z, eq⟩) (h : ShV P t av) : ∃ avs, av = .agg avs ∧ ShE P t avs := by
  unfold tyOf at ht
  split at ht
  · rename_i i d hi hd
    split at ht
    · split at ht
      · simp only [Option.some.injEq, TyI.mk.injEq] at ht
        obtain ⟨hk, _⟩ := ht
        cases d with
        | struct fs => exact shV_struct hd h
        | _ => simp [kindOf] at hk
      · cases ht
    · cases ht
  · cases ht
theorem shV_rows {P : Program} {t e : TypeId} {av : AV} {α : Type} {enc : α → List AV} {wf : α → Prop} (hu : P.underlying t = some (.slice e)) (he : ∀ q, ShE P e q → ∃ x, q = enc x ∧ wf x) (h : ShV P t av) :
    ∃ l : List α, av = .sl (l.map enc) .no ∧ l.length ≤ maxLen ∧ ∀ x ∈ l, wf x := by
  obtain ⟨els, rfl, hq, hlen⟩ := shV_slice hu h
  have : ∀ els : List (List AV), (∀ q ∈ els, ShE P e q) → ∃ l : List α, els = l.map enc ∧ ∀ x ∈ l, wf x := by
    intro els
    induction els with
    | nil => intro _; exact ⟨[], rfl, fun _ h => by cases h⟩
    | cons q r ih =>
      intro hq
      obtain ⟨n, rfl, hw⟩ := he q (hq q (by simp))
      obtain ⟨l, rfl, hl⟩ := ih fun q' h' => hq q' (by simp [h'])
      exact ⟨n :: l, rfl, fun x hx => by
        rcases List.mem_cons.1 hx with rfl | hx
        · exact hw
        · exact hl x hx⟩
  obtain ⟨l, rfl, hl⟩ := this els hq
  exact ⟨l, rfl, by simpa using hlen, hl⟩
end Go.Ab
end
section
namespace Go.Proofs
open Go.Ab

set_option maxRecDepth 100000 in
theorem gLaw11IngressMay_call : ∀ xs, ShAll Try.prog Try.f5.params.toList xs → ∃ o : Prop, o ∧ CallOk Try.prog 5 xs [] { av := .lit (.bool true), obl := o } := by
  intro xs h
  rw [show Try.f5.params.toList = [3, 3, 3, 3] by kernel_rfl] at h
  obtain ⟨_, _, rfl, h0, h⟩ := shAll_cons h
  obtain ⟨_, _, rfl, h1, h⟩ := shAll_cons h
  obtain ⟨_, _, rfl, h2, h⟩ := shAll_cons h
  obtain ⟨_, _, rfl, h3, h⟩ := shAll_cons h
  obtain rfl := shAll_nil h
  obtain ⟨x0, rfl, w0⟩ := shV_int (k := .i64) (by kernel_rfl) h0
  obtain ⟨x1, rfl, w1⟩ := shV_int (k := .i64) (by kernel_rfl) h1
  obtain ⟨x2, rfl, w2⟩ := shV_int (k := .i64) (by kernel_rfl) h2
  obtain ⟨x3, rfl, w3⟩ := shV_int (k := .i64) (by kernel_rfl) h3
  exact ⟨True, trivial, gLaw11IngressMay.can x0 x1 x2 x3 true (ingressMay_plain x0 x1 x2 x3)⟩
end Go.Proofs
end
section
namespace Go.Proofs
open Go.Ab

set_option maxRecDepth 100000 in
theorem gLaw11IngressSounds_call : ∀ xs, ShAll Try.prog Try.f4.params.toList xs → ∃ o : Prop, o ∧ CallOk Try.prog 4 xs [] { av := .lit (.bool true), obl := o } := by
  intro xs h
  rw [show Try.f4.params.toList = [72, 22] by kernel_rfl] at h
  obtain ⟨_, _, rfl, h0, h⟩ := shAll_cons h
  obtain ⟨_, _, rfl, h1, h⟩ := shAll_cons h
  obtain rfl := shAll_nil h
  obtain ⟨x0, rfl, w0, _⟩ := shV_rows (e := 9) (enc := eTxt) (wf := fun _ => True) (by kernel_rfl) (fun q h => by obtain ⟨x, hx, _⟩ := sh_string (by kernel_rfl) h; exact ⟨x, hx, trivial⟩) h0
  obtain ⟨x1, rfl, w1⟩ := shV_int (k := .u16) (by kernel_rfl) h1
  exact ⟨True, trivial, gLaw11IngressSounds.can x0 x1 true (ingressSounds_plain x0 x1)⟩
end Go.Proofs
end
