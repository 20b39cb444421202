/- What these functions compute, as plain functions. No condition. -/
import Derived.Test.YtpjplfnapgpfmaaGreatTs
import Derived.Test.YtpjplfnapgpfmaaGreatM02
import Derived.Test.YtpjplfnapgpfmaaGreatM05
import Derived.Test.YtpjplfnapgpfmaaGreatM07
import Derived.Test.YtpjplfnapgpfmaaGreatTy
import Derived.Test.YtpjplfnapgpfmaaGreatWg
section
namespace Go.Proofs
open Go.Ab
noncomputable def gy.loop1 (x0 : Th) (x1 : Bool) (s1 : Int × List Int) : Option (Fl (Int × List Int) (Fl (List Int) (List Int))) :=
 bif (ltI s1.1 (lenL (sortL (keysM x0.fh)))) then (
  need (InB s1.1 (lenL (sortL (keysM x0.fh)))) <|
  optC (findM eqI (nthI (sortL (keysM x0.fh)) s1.1) x0.fh) (
   bif (eqB false x1) then (
    none
   ) else (
     some (.go ((addI .i64 s1.1 1), s1.2))
   )
  ) fun z3 => (
    need (Under (eqB z3.fu x1) true ((gal z3.fB).isSome = true)) <|
    bif (pickB (eqB z3.fu x1) (ltI 0 ((gal z3.fB).getD dflt)) false) then (
     need (AppB (lenL s1.2) 1 8) <|
     some (.go ((addI .i64 s1.1 1), (appL s1.2 [(nthI (sortL (keysM x0.fh)) s1.1)])))
    ) else (
      some (.go ((addI .i64 s1.1 1), s1.2))
    )
  )
 ) else (
   some (.out (.go s1.2))
 )

noncomputable def gy (x0 : Th) (x1 : Bool) : Option (List Int) :=
 need (KeysB (keysM x0.fh)) <|
 ((loopF (gy.loop1 x0 x1) (0, [])).bind fun f => flC f fun (v1 : List Int) =>
   some v1
 )

noncomputable def gX (x0 : Int) (x1 : Int) (x2 : Th) : Option Int :=
 optC (findM eqI x0 x2.fh) (
  none
 ) fun z1 => (
   ((gD z1.fB)).bind fun r1 =>
   optC (findM eqI x1 x2.fh) (
    none
   ) fun z2 => (
     ((gD z2.fB)).bind fun r2 =>
     some (subI .i64 r1.1.fw r2.1.fw)
   )
 )

noncomputable def ga.loop2 (x0 : List Int) (x1c0 : Th) (s2 : Int × Int) : Option (Fl (Int × Int) (Fl Int Int)) :=
 bif (ltI s2.1 (lenL x0)) then (
  ((
   need (InB s2.1 (lenL x0)) <|
   ((gX (nthI x0 s2.1) s2.2 x1c0)).bind fun r1 =>
   bif (ltI r1 0) then (
    need (InB s2.1 (lenL x0)) <|
    some (.go (nthI x0 s2.1))
   ) else (
     some (.go s2.2)
   )
   : Option (Fl Int (Fl (Int × Int) (Fl Int Int)))).bind fun f => flC f fun (v3 : Int) =>
   some (.go ((addI .i64 s2.1 1), v3))
  )
 ) else (
   some (.out (.go s2.2))
 )

noncomputable def ga (x0 : List Int) (x1c0 : Th) : Option Int :=
 ((
  bif (ltI (lenL x0) 1) then (
   none
  ) else (
    some (.go ())
  )
  : Option (Fl Unit Int)).bind fun f => flC f fun (_v1 : Unit) =>
  need (InB 0 (lenL x0)) <|
  ((loopF (ga.loop2 x0 x1c0) (1, (nthI x0 0))).bind fun f => flC f fun (v2 : Int) =>
    some v2
  )
 )

noncomputable def gaf (x0 : Th) (x1 : List Int) : Option Int :=
 ((ga x1 x0)).bind fun r1 =>
 some r1
end Go.Proofs
end
section
set_option maxRecDepth 100000
set_option maxHeartbeats 4000000
namespace Go.Proofs
open Go.Ab
@[simp] def gaB.out (_x0 : Int) (r : Bool) : Out := { av := .lit (.bool r), M := none }
theorem gaB.can (x0 : Int) (r : Bool) (hr : gaB x0 = some r) : CallOk Tryz.prog 129 [.lit (.int .i64 x0)] [] (gaB.out x0 r) := by
 unfold gaB at hr
 have hΓ := gamL_nil (P := Tryz.prog)
 refine cw Tryz.func129 rfl (by kernel_rfl) rfl rfl (by simp) fun _ _ _ => ?_
 refine tq hΓ [] [] ?_
 refine tq hΓ [2] [0] ?_
 obtain rfl := La hr
 exact AWp.ret (Le (by simp))

@[simp] noncomputable def gaB.S : Sp
  | [.lit (.int .i64 x0)], _ => some { av := .lit (.bool ((gaB x0).getD dflt)), M := none, obl := (gaB x0).isSome = true }
  | _, _ => none

theorem gaB.ok : SpecOk Tryz.prog 129 gaB.S := by
 intro l M out h
 unfold gaB.S at h
 split at h
 ·rename_i x0
  cases h
  refine callOk_of fun ho => ?_
  have hs := ho
  obtain ⟨r, hr⟩ := so1 hs
  simp only [hr, gd1]
  have q := Lh (M := M) [] (gaB.can x0 r hr) (by simp) rfl ixn
  exact callOk_conv q trivial (by simp) (by simp [frameOut]) (by simp [frameOut])
 ·cases h

@[simp] def gaL.out (_x0 : Int) (_x1 : Int) (r : Bool) : Out := { av := .lit (.bool r), M := none }
theorem gaL.can (x0 : Int) (x1 : Int) (r : Bool) (hr : gaL x0 x1 = some r) : CallOk Tryz.prog 118 [.lit (.int .i64 x0), .lit (.int .i64 x1)] [] (gaL.out x0 x1 r) := by
 unfold gaL at hr
 have hΓ := (gamL_cons gaB.ok (gamL_nil) : GamOk Tryz.prog _)
 refine cw Tryz.func118 rfl (by kernel_rfl) rfl rfl (by simp) fun _ _ _ => ?_
 refine tq hΓ [] [] ?_
 obtain ⟨r1, h3, hr⟩ := Lb hr
 obtain ⟨h4, hr⟩ := Lc hr
 refine tq hΓ [4] [0, 1] ?_ (by simp [h3, h4]; exact rr)
 obtain rfl := La hr
 exact AWp.ret (Le (by simp))

@[simp] noncomputable def gaL.S : Sp
  | [.lit (.int .i64 x0), .lit (.int .i64 x1)], _ => some { av := .lit (.bool ((gaL x0 x1).getD dflt)), M := none, obl := (gaL x0 x1).isSome = true }
  | _, _ => none

theorem gaL.ok : SpecOk Tryz.prog 118 gaL.S := by
 intro l M out h
 unfold gaL.S at h
 split at h
 ·rename_i x0 x1
  cases h
  refine callOk_of fun ho => ?_
  have hs := ho
  obtain ⟨r, hr⟩ := so1 hs
  simp only [hr, gd1]
  have q := Lh (M := M) [] (gaL.can x0 x1 r hr) (by simp) rfl ixn
  exact callOk_conv q trivial (by simp) (by simp [frameOut]) (by simp [frameOut])
 ·cases h

@[simp] def gY.out (_x0 : Int) (r : Bool) : Out := { av := .lit (.bool r), M := none }
theorem gY.can (x0 : Int) (r : Bool) (hr : gY x0 = some r) : CallOk Tryz.prog 123 [.lit (.int .i64 x0)] [] (gY.out x0 r) := by
 unfold gY at hr
 have hΓ := gamL_nil (P := Tryz.prog)
 refine cw Tryz.func123 rfl (by kernel_rfl) rfl rfl (by simp) fun _ _ _ => ?_
 refine tq hΓ [] [] ?_
 refine tq hΓ [2] [0] ?_
 obtain rfl := La hr
 exact AWp.ret (Le (by simp))

@[simp] noncomputable def gY.S : Sp
  | [.lit (.int .i64 x0)], _ => some { av := .lit (.bool ((gY x0).getD dflt)), M := none, obl := (gY x0).isSome = true }
  | _, _ => none

theorem gY.ok : SpecOk Tryz.prog 123 gY.S := by
 intro l M out h
 unfold gY.S at h
 split at h
 ·rename_i x0
  cases h
  refine callOk_of fun ho => ?_
  have hs := ho
  obtain ⟨r, hr⟩ := so1 hs
  simp only [hr, gd1]
  have q := Lh (M := M) [] (gY.can x0 r hr) (by simp) rfl ixn
  exact callOk_conv q trivial (by simp) (by simp [frameOut]) (by simp [frameOut])
 ·cases h

@[simp] def gc.out (_x0 : List Int) (_x1 : Int) (r : Int × Bool) : Out := { av := .tup [.lit (.int .i64 r.1), .lit (.bool r.2)], M := none }
def gc.fin (x0 : List Int) (x1 : Int) (r : Int × Bool) (σ : St) : Prop := finK (gc.out x0 x1 r) [] σ.M (resA Tryz.ty σ.A σ.M Tryz.f110.results.toList)
theorem gc.can (x0 : List Int) (x1 : Int) (r : Int × Bool) (hr : gc x0 x1 = some r) : CallOk Tryz.prog 110 [.sl (x0.map (eNum .i64)) .no, .lit (.int .i64 x1)] [] (gc.out x0 x1 r) := by
 unfold gc at hr
 have hΓ := (gamL_cons gaL.ok (gamL_cons gY.ok (gamL_nil)) : GamOk Tryz.prog _)
 refine cw Tryz.func110 rfl (by kernel_rfl) rfl rfl (by simp) fun _ _ _ => ?_
 refine tq hΓ [] [] ?_
 refine tq hΓ [6] [] ?_
 refine tq hΓ [7, 8] [] ?_
 refine AWp.loopB (fun (s1 : Int × Int) (γ1 : Unit) => ⟨[⟨7, none, .n s1.1⟩, ⟨8, none, .n s1.2⟩, ⟨6, none, .n (lenL x0)⟩, ⟨0, none, .sl (x0.map (eNum .i64)) .no⟩, ⟨1, none, .n x1⟩], []⟩) (fun (v1 : Int) (γ1a : Unit) => ⟨[⟨7, none, .n v1⟩, ⟨6, none, .n (lenL x0)⟩, ⟨0, none, .sl (x0.map (eNum .i64)) .no⟩, ⟨1, none, .n x1⟩], []⟩) (gc.fin x0 x1) hr () 0 (by simp) (fun s1 f γ1 hr => ?_) (fun v1 γ1a hr => ?_) (fun _ h => h)
 ·unfold gc.loop1 at hr
  refine AWp.seq ?_
  refine tq hΓ [15] [] ?_
  refine AWp.cnd hr (by simp) (fun h10 hr => ?_) (fun h10 hr => ?_)
  ·refine AWp.skip ?_
   refine AWp.block ?_
   obtain ⟨h11, hr⟩ := Lc hr
   refine tq hΓ [9] [15] ?_ (by simp [h10, h11]; exact rr)
   obtain ⟨h12, hr⟩ := Lc hr
   obtain ⟨r1, h13, hr⟩ := Lb hr
   refine tq hΓ [27] [] ?_ (by simp [h12, h13]; exact rr)
   refine AWp.cnd hr (by simp) (fun h14 hr => ?_) (fun h14 hr => ?_)
   ·refine tl hΓ [7] [27, 9] ?_ (by simp [h14]; exact rr)
    obtain rfl := La hr
    exact Lk () 0 (by first | (simp; done) | simp [h10, h11, h12, h13, h14])
   ·refine tl hΓ [8] [27, 9] ?_ (by simp [h14]; exact rr)
    obtain rfl := La hr
    exact Lk () 0 (by first | (simp; done) | simp [h10, h11, h12, h13, h14])
  ·refine AWp.exit ?_
   obtain rfl := La hr
   exact Ln () 0 (by first | (simp; done) | simp [h10])
 ·obtain ⟨h15, hr⟩ := Lc hr
  obtain ⟨h16, hr⟩ := Lc hr
  obtain ⟨h17, hr⟩ := Lc hr
  obtain ⟨h18, hr⟩ := Lc hr
  refine tq hΓ [4, 5] [7, 6, 0, 1] ?_ (by simp [h15, h17, h18]; exact rr)
  obtain rfl := La hr
  exact AWp.ret (Le (by simp))

@[simp] noncomputable def gc.S : Sp
  | [.sl e0 _, .lit (.int .i64 x1)], _ => some { av := .tup [.lit (.int .i64 (((gc (e0.map decI) x1).getD dflt).1)), .lit (.bool (((gc (e0.map decI) x1).getD dflt).2))], M := none, obl := e0 = (e0.map decI).map (eNum .i64) ∧ (gc (e0.map decI) x1).isSome = true }
  | _, _ => none

theorem gc.ok : SpecOk Tryz.prog 110 gc.S := by
 intro l M out h
 unfold gc.S at h
 split at h
 ·rename_i e0 k0 x1
  cases h
  refine callOk_of fun ho => ?_
  obtain ⟨ox0, hs⟩ := ho
  generalize (e0.map decI) = x0 at *
  subst ox0
  obtain ⟨r, hr⟩ := so1 hs
  simp only [hr, gd1]
  have q := Lh (M := M) [] (gc.can x0 x1 r hr) (by simp) rfl ixn
  exact callOk_conv q trivial (by simp) (by simp [frameOut]) (by simp [frameOut])
 ·cases h
end Go.Proofs
end
section
namespace Go.Ab
open Go.Proofs Go.RowKit
@[simp] def wrLenS (T E : TypeId) : Sp
  | [.ptr i 0], M => match M[i]? with
    | some (.opq φ) => some { av := .lit (.int .i64 (lenL φ.bs)), obl := φ = wrO T E φ.bs }
    | _ => none
  | _, _ => none
theorem lenW_ok {P : Program} {f : FuncId} {T E : TypeId} (hent : ∀ args w, (callFunc f args).run P w = .ok (.enter f args) w)
  (hU : ∀ (b : Nat) (w : World) (p v : Value) (n : Nat) (xs : List Value), w.heap[b]? = some (.cells #[p, v] T (0, 0)) → w.ownsRow 0 E 1 v n xs →
   Calls P f #[.pointer (some ⟨b, 0, none⟩)] w fun e w' => e = .returned (.int .i64 n) ∧ w' = w) : SpecOk P f (wrLenS T E) := by
 intro l M out h
 unfold wrLenS at h
 split at h
 ·rename_i i
  split at h
  ·rename_i φ hMi
   cases h
   intro g vs hM sm hr ho
   subst hM
   have hφ : φ = wrO T E φ.bs := ho
   cases hr with | cons hv hr => cases hr with | nil =>
   cases hv with
   | ptr _ _ hi =>
   refine ⟨hent _ _, ?_⟩
   have hq := sm.opq i φ hMi
   rw [hφ] at hq
   obtain ⟨p, v, h1, h2, h3, h4, h5⟩ := WrB.at hq
   refine (hU (g.β i) g.w p v φ.bs.length (φ.bs.map (Value.int .u8)) h1 h3).mono ?_
   rintro e' w' ⟨rfl, rfl⟩
   exact ⟨_, rfl, Post.same rfl sm (.lit _)⟩
  ·cases h
 ·cases h
end Go.Ab
namespace Go.Proofs
open Go.RowKit Go.Ab
set_option maxHeartbeats 2000000 in
set_option maxRecDepth 100000 in
theorem Tryz.lenW (b : Nat) (w : World) (p v : Value) (n : Nat) (xs : List Value) (hb : w.heap[b]? = some (.cells #[p, v] 119 (0, 0))) (hown : w.ownsRow 0 5 1 v n xs) :
  Calls Tryz.prog 83 #[.pointer (some ⟨b, 0, none⟩)] w fun e w' => e = .returned (.int .i64 n) ∧ w' = w := by
 obtain ⟨a, cap, rfl⟩ : ∃ a cap, v = .slice a n cap := by
  rcases hown.2 with ⟨hv, h⟩ | ⟨g, cap, cur, hv, _⟩
  ·subst h; exact ⟨_, _, hv⟩
  ·exact ⟨_, _, hv⟩
 have c1 : w.cell? ⟨b, 1, none⟩ = some (.slice a n cap) := by rw [Lib.cell_of_heap hb]; rfl
 clear hb hown
 go_enter Tryz.func83, Tryz.ntmps83
 go_wp2
 go_ret
 exact ⟨rfl, rfl⟩
theorem gOwLen.ok : SpecOk Tryz.prog 83 (wrLenS 119 5) :=
 lenW_ok (fun args w => by kernel_rfl) Tryz.lenW
end Go.Proofs
end
