/- What these functions compute, as plain functions. No condition. -/
import Derived.Test.YtpjplfnapgpfmaaGreatTs
import Derived.Test.YtpjplfnapgpfmaaGreatM05
import Derived.Test.YtpjplfnapgpfmaaGreatM02
import Derived.Test.YtpjplfnapgpfmaaGreatM03
import Derived.Test.YtpjplfnapgpfmaaGreatTy
import Derived.Test.YtpjplfnapgpfmaaGreatWg
section
namespace Go.Proofs
open Go.Ab
noncomputable def gW (x0 : Ts) : Option Int :=
 bif (pickB (pickB (pickB (pickB (pickB (ltI x0.fe 1) true (ltI 1024 x0.fe)) true (ltI x0.fk 1)) true (ltI 16777216 x0.fk)) true (ltI x0.fq 1)) true (ltI 1099511627776 x0.fq)) then (
  some 5
 ) else (
   bif (pickB (pickB (pickB (ltI x0.fb 1) true (ltI 16777216 x0.fb)) true (ltI x0.fo 1)) true (ltI 1024 x0.fo)) then (
    some 5
   ) else (
     some 0
   )
 )

noncomputable def gaM (x0 : Ts) : Option (Option Tf × Int) :=
 ((gW x0)).bind fun r1 =>
 bif (neI r1 0) then (
  some (none, r1)
 ) else (
   ((gaX x0.fb)).bind fun r2 =>
   optC r2.1 (
    bif (neI r2.2 0) then (
     some (none, r2.2)
    ) else (
      none
    )
   ) fun o1 => (
     bif (neI r2.2 0) then (
      some (none, r2.2)
     ) else (
       some ((some (Tf.mk x0 [] o1 0 0)), 0)
     )
   )
 )

noncomputable def gaj.loop1 (x0 : Int) (x1 : List Ta) (s1 : Int × List Tb) : Option (Fl (Int × List Tb) (Fl (List Tb) (List Tb))) :=
 bif (ltI s1.1 (lenL x1)) then (
  need (InB s1.1 (lenL x1)) <|
  need (AppB (lenL s1.2) 1 40) <|
  some (.go ((addI .i64 s1.1 1), (appL s1.2 [(Tb.mk x0 (nthI x1 s1.1))])))
 ) else (
   some (.out (.go s1.2))
 )

noncomputable def gaj (x0 : Int) (x1 : List Ta) : Option (List Tb) :=
 ((loopF (gaj.loop1 x0 x1) (0, [])).bind fun f => flC f fun (v1 : List Tb) =>
   some v1
 )

noncomputable def gU (x0 : Tf) (x1 : Int) (x2 : Bool) (x3 : Int) : Option (Int × Tf) :=
 optC (findM eqI x1 x0.fh) (
  ((
   bif x2 then (
    ((gaq x0.fa x1 x3)).bind fun r1 =>
    bif (neI r1.1 0) then (
     some (.out (r1.1, (Tf.mk x0.fd x0.fh r1.2 x0.fc x0.ff)))
    ) else (
      some (.go (r1.2.fb, r1.2.fAt, r1.2.fg, r1.2.fm, r1.2.fp, true))
    )
   ) else (
     some (.go (x0.fa.fb, x0.fa.fAt, x0.fa.fg, x0.fa.fm, x0.fa.fp, false))
   )
   : Option (Fl (Int × Int × Bool × (List (Int × Int)) × (List (Int × Int)) × Bool) (Int × Tf))).bind fun f => flC f fun (v1 : Int × Int × Bool × (List (Int × Int)) × (List (Int × Int)) × Bool) =>
   ((gaQ x0.fd.fe x0.fd.fk)).bind fun r2 =>
   optC r2.1 (
    bif (neI r2.2 0) then (
     some (r2.2, (Tf.mk x0.fd x0.fh (Tp.mk v1.1 v1.2.2.2.1 v1.2.2.2.2.1 v1.2.1 v1.2.2.1) x0.fc x0.ff))
    ) else (
      none
    )
   ) fun o1 => (
     bif (neI r2.2 0) then (
      some (r2.2, (Tf.mk x0.fd x0.fh (Tp.mk v1.1 v1.2.2.2.1 v1.2.2.2.2.1 v1.2.1 v1.2.2.1) x0.fc x0.ff))
     ) else (
       some (0, (Tf.mk x0.fd (setM eqI x1 (Tj.mk o1 v1.2.2.2.2.2) x0.fh) (Tp.mk v1.1 v1.2.2.2.1 v1.2.2.2.2.1 v1.2.1 v1.2.2.1) x0.fc x0.ff))
     )
   )
  )
 ) fun _z1 => (
   some (10, x0)
 )

noncomputable def gG (x0 : Tf) (x1 : Int) : Option (List Tb × Int × Tf) :=
 optC (findM eqI x1 x0.fh) (
  some ([], 12, x0)
 ) fun z1 => (
   ((
    bif z1.fu then (
     ((gF x0.fa x1)).bind fun r1 =>
     some (.go (r1.2.fb, r1.2.fAt, r1.2.fg, r1.2.fm, r1.2.fp, true))
    ) else (
      some (.go (x0.fa.fb, x0.fa.fAt, x0.fa.fg, x0.fa.fm, x0.fa.fp, false))
    )
    : Option (Fl (Int × Int × Bool × (List (Int × Int)) × (List (Int × Int)) × Bool) (List Tb × Int × Tf))).bind fun f => flC f fun (v1 : Int × Int × Bool × (List (Int × Int)) × (List (Int × Int)) × Bool) =>
    ((gX z1.fA)).bind fun r2 =>
    ((gaj x1 r2.1)).bind fun r3 =>
    some (r3, 0, (Tf.mk x0.fd (delM eqI x1 x0.fh) (Tp.mk v1.1 v1.2.2.2.1 v1.2.2.2.2.1 v1.2.1 v1.2.2.1) x0.fc x0.ff))
   )
 )

noncomputable def gag (x0 : Tf) (x1 : Int) : Option (List Tb × Tf) :=
 optC (findM eqI x1 x0.fh) (
  some ([], x0)
 ) fun z1 => (
   ((gX z1.fA)).bind fun r1 =>
   ((gaj x1 r1.1)).bind fun r2 =>
   some (r2, (Tf.mk x0.fd (setM eqI x1 (Tj.mk r1.2 z1.fu) x0.fh) x0.fa x0.fc x0.ff))
 )

noncomputable def gar (x0 : Tf) (x1 : Int) (x2 : Ta) : Option (List Tb × Bool × Tf) :=
 optC (findM eqI x1 x0.fh) (
  some ([], false, x0)
 ) fun z1 => (
   bif (ltI x0.fd.fb x2.fj) then (
    some ([], false, x0)
   ) else (
     ((gv z1.fA (Ta.mk x2.fN x2.fj x2.fw (pickB x2.fy true (notB z1.fu))))).bind fun r1 =>
     ((gaj x1 r1.1)).bind fun r2 =>
     some (r2, r1.2.1, (Tf.mk x0.fd (setM eqI x1 (Tj.mk r1.2.2 z1.fu) x0.fh) x0.fa x0.fc x0.ff))
   )
 )

noncomputable def gaf (x0 : Tf) (x1 : Int) : Option (Int × Int) :=
 optC (findM eqI x1 x0.fh) (
  some (0, 0)
 ) fun z1 => (
   ((gae z1.fA)).bind fun r1 =>
   ((gan z1.fA)).bind fun r2 =>
   some (r1, r2)
 )

noncomputable def gK (x0 : Tf) (x1 : Int) : Option Tf :=
 some (Tf.mk x0.fd x0.fh x0.fa (minI (addI .i64 x0.fc (minI (maxI x1 0) 1099511627776)) 1099511627776) x0.ff)

noncomputable def gab (x0 : Tf) (x1 : Int) : Option (Bool × Tf) :=
 bif (pickB (ltI x1 0) true (ltI x0.fc x1)) then (
  some (false, x0)
 ) else (
   some (true, (Tf.mk x0.fd x0.fh x0.fa (subI .i64 x0.fc x1) x0.ff))
 )
end Go.Proofs
end
section
namespace Go.Proofs
open Go.Ab
noncomputable def gy.loop1 (x0 : Tf) (x1 : Bool) (s1 : Int × List Int) : Option (Fl (Int × List Int) (Fl (List Int) (List Int))) :=
 bif (ltI s1.1 (lenL (sortL (keysM x0.fh)))) then (
  need (InB s1.1 (lenL (sortL (keysM x0.fh)))) <|
  optC (findM eqI (nthI (sortL (keysM x0.fh)) s1.1) x0.fh) (
   bif (eqB false x1) then (
    none
   ) else (
     some (.go ((addI .i64 s1.1 1), s1.2))
   )
  ) fun z3 => (
    need (Under (eqB z3.fu x1) true ((gae z3.fA).isSome = true)) <|
    bif (pickB (eqB z3.fu x1) (ltI 0 ((gae z3.fA).getD dflt)) false) then (
     need (AppB (lenL s1.2) 1 8) <|
     some (.go ((addI .i64 s1.1 1), (appL s1.2 [(nthI (sortL (keysM x0.fh)) s1.1)])))
    ) else (
      some (.go ((addI .i64 s1.1 1), s1.2))
    )
  )
 ) else (
   some (.out (.go s1.2))
 )

noncomputable def gy (x0 : Tf) (x1 : Bool) : Option (List Int) :=
 need (KeysB (keysM x0.fh)) <|
 ((loopF (gy.loop1 x0 x1) (0, [])).bind fun f => flC f fun (v1 : List Int) =>
   some v1
 )

noncomputable def gY (x0 : Int) (x1 : Int) (x2 : Tf) : Option Int :=
 optC (findM eqI x0 x2.fh) (
  none
 ) fun z1 => (
   ((gD z1.fA)).bind fun r1 =>
   optC (findM eqI x1 x2.fh) (
    none
   ) fun z2 => (
     ((gD z2.fA)).bind fun r2 =>
     some (subI .i64 r1.1.fw r2.1.fw)
   )
 )

noncomputable def ga.loop2 (x0 : List Int) (x1c0 : Tf) (s2 : Int × Int) : Option (Fl (Int × Int) (Fl Int Int)) :=
 bif (ltI s2.1 (lenL x0)) then (
  ((
   need (InB s2.1 (lenL x0)) <|
   ((gY (nthI x0 s2.1) s2.2 x1c0)).bind fun r1 =>
   bif (ltI r1 0) then (
    need (InB s2.1 (lenL x0)) <|
    some (.go (nthI x0 s2.1))
   ) else (
     some (.go s2.2)
   )
   : Option (Fl Int (Fl (Int × Int) (Fl Int Int)))).bind fun f => flC f fun (v3 : Int) =>
   some (.go ((addI .i64 s2.1 1), v3))
  )
 ) else (
   some (.out (.go s2.2))
 )

noncomputable def ga (x0 : List Int) (x1c0 : Tf) : Option Int :=
 ((
  bif (ltI (lenL x0) 1) then (
   none
  ) else (
    some (.go ())
  )
  : Option (Fl Unit Int)).bind fun f => flC f fun (_v1 : Unit) =>
  need (InB 0 (lenL x0)) <|
  ((loopF (ga.loop2 x0 x1c0) (1, (nthI x0 0))).bind fun f => flC f fun (v2 : Int) =>
    some v2
  )
 )

noncomputable def gai (x0 : Tf) (x1 : List Int) : Option Int :=
 ((ga x1 x0)).bind fun r1 =>
 some r1
end Go.Proofs
end
section
set_option maxRecDepth 100000
set_option maxHeartbeats 4000000
namespace Go.Proofs
open Go.Ab
@[simp] def gao.out (_x0 : List Ta) (r : Int) : Out := { av := .lit (.int .i64 r), M := none }
def gao.fin (x0 : List Ta) (r : Int) (σ : St) : Prop := finK (gao.out x0 r) [] σ.M (resA Tryz.ty σ.A σ.M Tryz.f85.results.toList)
theorem gao.can (x0 : List Ta) (r : Int) (hr : gao x0 = some r) : CallOk Tryz.prog 85 [.sl (x0.map Ta.enc) .no] [] (gao.out x0 r) := by
 unfold gao at hr
 have hΓ := gamL_nil (P := Tryz.prog)
 refine cw Tryz.func85 rfl (by kernel_rfl) rfl rfl (by simp) fun _ _ _ => ?_
 refine tq hΓ [] [] ?_
 refine tq hΓ [3] [] ?_
 refine AWp.seq ?_
 refine tq hΓ [6, 7, 8] [0] ?_
 refine AWp.loopE (fun (s1 : Int × Int) (γ1 : Unit) => ⟨[⟨6, none, .sl (x0.map Ta.enc) .no⟩, ⟨7, none, .n (lenL x0)⟩, ⟨8, none, .n s1.1⟩, ⟨3, none, .n s1.2⟩], []⟩) (fun (v1 : Int) (γ1a : Unit) => ⟨[⟨3, none, .n v1⟩], []⟩) (gao.fin x0) hr () 0 (by simp) (fun s1 f γ1 hr => ?_) (fun v1 γ1a σ1 m1 hr hc => ?_) (fun _ h => h)
 ·unfold gao.loop1 at hr
  refine tq hΓ [9] [] ?_
  refine AWp.seq ?_
  refine AWp.cnd hr (by simp) (fun h3 hr => ?_) (fun h3 hr => ?_)
  ·refine AWp.skip ?_
   refine AWp.seq ?_
   refine AWp.block ?_
   obtain ⟨h4, hr⟩ := Lc hr
   refine tq hΓ [5] [9] ?_ (by simp [h3, h4]; exact rr)
   refine tl hΓ [3] [5] ?_ (by simp; exact rr)
   refine tl hΓ [8] [] ?_ (by simp; exact rr)
   obtain rfl := La hr
   exact Lk () 0 (by first | (simp; done) | simp [h3, h4])
  ·refine AWp.exit ?_
   obtain rfl := La hr
   exact Ln () 0 (by first | (simp; done) | simp [h3])
 ·refine AWp.conv hc ?_
  refine tq hΓ [2] [3] ?_
  obtain rfl := La hr
  exact AWp.ret (Le (by simp))

@[simp] noncomputable def gao.S : Sp
  | [.sl e0 _], _ => some { av := .lit (.int .i64 ((gao (e0.map Ta.dec)).getD dflt)), M := none, obl := e0 = (e0.map Ta.dec).map Ta.enc ∧ (gao (e0.map Ta.dec)).isSome = true }
  | _, _ => none

theorem gao.ok : SpecOk Tryz.prog 85 gao.S := by
 intro l M out h
 unfold gao.S at h
 split at h
 ·rename_i e0 k0
  cases h
  refine callOk_of fun ho => ?_
  obtain ⟨ox0, hs⟩ := ho
  generalize (e0.map Ta.dec) = x0 at *
  subst ox0
  obtain ⟨r, hr⟩ := so1 hs
  simp only [hr, gd1]
  have q := Lg (M := M) [] (gao.can x0 r hr) (by simp) rfl ixn
  exact callOk_conv q trivial (by simp) (by simp [frameOut]) (by simp [frameOut])
 ·cases h

@[simp] def gac.out (_x0 : Tl) (r : Tl × List Ta) : Out := { av := .tup [.agg [.lit (.int .i64 r.1.fe), .lit (.int .i64 r.1.fb), .sl (r.1.fL.map Ta.enc) .no, .lit (.bool r.1.fv)], .sl (r.2.map Ta.enc) .no], M := none }
def gac.fin (x0 : Tl) (r : Tl × List Ta) (σ : St) : Prop := finK (gac.out x0 r) [] σ.M (resA Tryz.ty σ.A σ.M Tryz.f86.results.toList)
theorem gac.can (x0 : Tl) (r : Tl × List Ta) (hr : gac x0 = some r) : CallOk Tryz.prog 86 [.agg [.lit (.int .i64 x0.fe), .lit (.int .i64 x0.fb), .sl (x0.fL.map Ta.enc) .no, .lit (.bool x0.fv)]] [] (gac.out x0 r) := by
 unfold gac at hr
 have hΓ := gamL_nil (P := Tryz.prog)
 refine cw Tryz.func86 rfl (by kernel_rfl) rfl rfl (by simp) fun _ _ _ => ?_
 refine tq hΓ [1, 2] [0] ?_
 refine tq hΓ [4] [] ?_
 refine AWp.loopB (fun (s1 : Int) (γ1 : Unit) => ⟨[⟨4, none, .n s1⟩, ⟨1, none, .ptr 0 0⟩, ⟨2, none, .ptr 1 0⟩], [.blk x0.enc, .blk [.n 0, .n 0, .sl [] .full, .b false]]⟩) (fun (v1 : Int) (γ1a : Unit) => ⟨[⟨4, none, .n v1⟩, ⟨1, none, .ptr 0 0⟩, ⟨2, none, .ptr 1 0⟩], [.blk x0.enc, .blk [.n 0, .n 0, .sl [] .full, .b false]]⟩) (gac.fin x0) hr () 2 (by simp) (fun s1 f γ1 hr => ?_) (fun v1 γ1a hr => ?_) (fun _ h => h)
 ·unfold gac.loop1 at hr
  refine AWp.seq ?_
  obtain ⟨h5, hr⟩ := Lc hr
  refine tq hΓ [19] [] ?_ (by simp [h5]; exact rr)
  refine AWp.cnd hr (by simp) (fun h6 hr => ?_) (fun h6 hr => ?_)
  ·refine AWp.skip ?_
   refine AWp.block ?_
   refine tl hΓ [4] [19] ?_ (by simp [h6]; exact rr)
   obtain rfl := La hr
   exact Lk () 2 (by first | (simp; done) | simp [h5, h6])
  ·refine AWp.exit ?_
   obtain rfl := La hr
   exact Ln () 2 (by first | (simp; done) | simp [h5, h6])
 ·obtain ⟨h7, hr⟩ := Lc hr
  refine tq hΓ [5] [] ?_ (by simp [h7]; exact rr)
  obtain ⟨h8, hr⟩ := Lc hr
  refine tq hΓ [] [4] ?_ (by simp [h8]; exact rr)
  refine tq hΓ [] [] ?_ (by simp; exact rr)
  refine tq hΓ [3] [5, 1] ?_ (by simp; exact rr)
  obtain rfl := La hr
  exact AWp.ret (Le (by simp))

@[simp] noncomputable def gac.S : Sp
  | [.agg e0], _ => (fun (y0 : Tl) => (fun (r : Tl × List Ta) => some { av := .tup [.agg [.lit (.int .i64 (r.1.fe)), .lit (.int .i64 (r.1.fb)), .sl ((r.1.fL).map Ta.enc) .no, .lit (.bool (r.1.fv))], .sl ((r.2).map Ta.enc) .no], M := none, obl := WeakL e0 (Tl.enc y0) ∧ (gac y0).isSome = true }) ((gac y0).getD dflt)) (Tl.dec e0)
  | _, _ => none

theorem gac.ok : SpecOk Tryz.prog 86 gac.S := by
 intro l M out h
 unfold gac.S at h
 split at h
 ·rename_i e0
  try dsimp only at h
  cases h
  refine callOk_of fun ho => ?_
  obtain ⟨ox0, hs⟩ := ho
  generalize (Tl.dec e0) = x0 at *
  obtain ⟨r, hr⟩ := so1 hs
  simp only [hr, gd1]
  have q := Lg (M := M) [] (gac.can x0 r hr) (by simp) rfl ixn
  exact callOk_conv q trivial (by simp; exact ox0) (by simp [frameOut]) (by simp [frameOut])
 ·cases h

@[simp] def gat.out (_x0 : Tl) (_x1 : Ta) (r : Tl × List Ta × Bool) : Out := { av := .tup [.agg [.lit (.int .i64 r.1.fe), .lit (.int .i64 r.1.fb), .sl (r.1.fL.map Ta.enc) .no, .lit (.bool r.1.fv)], .sl (r.2.1.map Ta.enc) .no, .lit (.bool r.2.2)], M := none }
def gat.fin (x0 : Tl) (x1 : Ta) (r : Tl × List Ta × Bool) (σ : St) : Prop := finK (gat.out x0 x1 r) [] σ.M (resA Tryz.ty σ.A σ.M Tryz.f57.results.toList)
theorem gat.can (x0 : Tl) (x1 : Ta) (r : Tl × List Ta × Bool) (hr : gat x0 x1 = some r) : CallOk Tryz.prog 57 [.agg [.lit (.int .i64 x0.fe), .lit (.int .i64 x0.fb), .sl (x0.fL.map Ta.enc) .no, .lit (.bool x0.fv)], .agg [.lit (.int .i64 x1.fN), .lit (.int .i64 x1.fj), .lit (.int .i64 x1.fw), .lit (.bool x1.fy)]] [] (gat.out x0 x1 r) := by
 unfold gat at hr
 have hΓ := (gamL_cons gac.ok (gamL_cons gao.ok (gamL_nil)) : GamOk Tryz.prog _)
 refine cw Tryz.func57 rfl (by kernel_rfl) rfl rfl (by simp) fun _ _ _ => ?_
 refine tq hΓ [2, 3, 4] [0, 1] ?_
 refine AWp.seq ?_
 refine tq hΓ [28] [] ?_
 refine AWp.cnd hr (by simp) (fun h9 hr => ?_) (fun h9 hr => ?_)
 ·refine tq hΓ [] [28, 3] ?_ (by simp [h9]; exact rr)
  refine tq hΓ [5, 6] [2] ?_ (by simp; exact rr)
  obtain rfl := La hr
  exact AWp.ret (Le (by simp))
 ·refine AWp.skip ?_
  refine tq hΓ [7] [28] ?_ (by simp [h9]; exact rr)
  refine AWp.equip 7 4 (els := []) (by simp) (by simp) ?_
  refine AWp.loopB (fun (s1 : List Ta × Tl) (γ1 : Nat) => ⟨[⟨7, none, .sl (s1.1.map Ta.enc) (.own 3 (γ1) 4)⟩, ⟨2, none, .ptr 0 0⟩, ⟨3, none, .ptr 1 0⟩, ⟨4, none, .ptr 2 0⟩], [.blk s1.2.enc, .blk x1.enc, .blk [.n 0, .n 0, .sl [] .full, .b false], .room (γ1)]⟩) (fun (v1 : List Ta × Tl) (γ1a : Nat) => ⟨[⟨7, none, .sl (v1.1.map Ta.enc) (.own 3 (γ1a) 4)⟩, ⟨2, none, .ptr 0 0⟩, ⟨3, none, .ptr 1 0⟩, ⟨4, none, .ptr 2 0⟩], [.blk v1.2.enc, .blk x1.enc, .blk [.n 0, .n 0, .sl [] .full, .b false], .room (γ1a)]⟩) (gat.fin x0 x1) hr 0 4 (by simp) (fun s1 f γ1 hr => ?_) (fun v1 γ1a hr => ?_) (fun _ h => h)
  ·unfold gat.loop1 at hr
   refine AWp.seq ?_
   obtain ⟨h10, hr⟩ := Lc hr
   refine td hΓ [48] [] [] [(false, []), (false, []), (false, []), (false, []), (false, []), (false, []), (false, []), (false, [38]), (false, [38]), (false, [38]), (false, [38]), (false, [38]), (false, [38]), (false, [38]), (false, [38]), (false, [38]), (false, [])] (by simp [h10]; exact rr) ?_
   refine AWp.cnd hr (by simp) (fun h11 hr => ?_) (fun h11 hr => ?_)
   ·refine AWp.skip ?_
    refine AWp.block ?_
    obtain ⟨r1, h12, hr⟩ := Lb hr
    refine tq hΓ [8, 9] [48] ?_ (by simp [h11, h12]; exact rr)
    refine tq hΓ [] [8] ?_ (by simp; exact rr)
    obtain ⟨h13, hr⟩ := Lc hr
    refine tl hΓ [7] [9] ?_ (by simp [h13]; exact rr)
    obtain rfl := La hr
    exact Lk (γ1 + 1) 4 (by first | (simp; done) | simp [h9, h10, h11, h12, h13])
   ·refine AWp.exit ?_
    obtain rfl := La hr
    exact Ln (γ1) 4 (by first | (simp; done) | simp [h9, h10, h11])
  ·refine AWp.seq ?_
   refine tq hΓ [64] [] ?_ (by simp; exact rr)
   refine AWp.cnd hr (by simp) (fun h14 hr => ?_) (fun h14 hr => ?_)
   ·refine tq hΓ [5, 6] [64, 7, 2, 3] ?_ (by simp [h14]; exact rr)
    obtain rfl := La hr
    exact AWp.ret (Le (by simp))
   ·refine AWp.skip ?_
    refine tq hΓ [] [64] ?_ (by simp [h14]; exact rr)
    obtain ⟨h15, hr⟩ := Lc hr
    obtain ⟨h16, hr⟩ := Lc hr
    refine td hΓ [] [3] [(4, 0), (5, 0)] [(false, []), (false, []), (false, []), (true, []), (false, []), (false, []), (true, []), (false, []), (true, [])] (by simp [h15, h16]; exact rr) ?_
    refine tq hΓ [5, 6] [7, 2] ?_ (by simp; exact rr)
    obtain rfl := La hr
    exact AWp.ret (Le (by simp))

@[simp] noncomputable def gat.S : Sp
  | [.agg e0, .agg e1], _ => (fun (y0 : Tl) => (fun (y1 : Ta) => (fun (r : Tl × List Ta × Bool) => some { av := .tup [.agg [.lit (.int .i64 (r.1.fe)), .lit (.int .i64 (r.1.fb)), .sl ((r.1.fL).map Ta.enc) .no, .lit (.bool (r.1.fv))], .sl ((r.2.1).map Ta.enc) .no, .lit (.bool (r.2.2))], M := none, obl := WeakL e0 (Tl.enc y0) ∧ WeakL e1 (Ta.enc y1) ∧ (gat y0 y1).isSome = true }) ((gat y0 y1).getD dflt)) (Ta.dec e1)) (Tl.dec e0)
  | _, _ => none

theorem gat.ok : SpecOk Tryz.prog 57 gat.S := by
 intro l M out h
 unfold gat.S at h
 split at h
 ·rename_i e0 e1
  try dsimp only at h
  cases h
  refine callOk_of fun ho => ?_
  obtain ⟨ox0, ox1, hs⟩ := ho
  generalize (Tl.dec e0) = x0 at *
  generalize (Ta.dec e1) = x1 at *
  obtain ⟨r, hr⟩ := so1 hs
  simp only [hr, gd1]
  have q := Lg (M := M) [] (gat.can x0 x1 r hr) (by simp) rfl ixn
  exact callOk_conv q trivial (by simp; exact ⟨ox0, ox1⟩) (by simp [frameOut]) (by simp [frameOut])
 ·cases h

@[simp] def gV.out (_x0 : Tl) (_x1 : Int) (_x2 : Int) (r : Tl × List Ta) : Out := { av := .tup [.agg [.lit (.int .i64 r.1.fe), .lit (.int .i64 r.1.fb), .sl (r.1.fL.map Ta.enc) .no, .lit (.bool r.1.fv)], .sl (r.2.map Ta.enc) .no], M := none }
def gV.fin (x0 : Tl) (x1 : Int) (x2 : Int) (r : Tl × List Ta) (σ : St) : Prop := finK (gV.out x0 x1 x2 r) [] σ.M (resA Tryz.ty σ.A σ.M Tryz.f65.results.toList)
theorem gV.can (x0 : Tl) (x1 : Int) (x2 : Int) (r : Tl × List Ta) (hr : gV x0 x1 x2 = some r) : CallOk Tryz.prog 65 [.agg [.lit (.int .i64 x0.fe), .lit (.int .i64 x0.fb), .sl (x0.fL.map Ta.enc) .no, .lit (.bool x0.fv)], .lit (.int .i64 x1), .lit (.int .i64 x2)] [] (gV.out x0 x1 x2 r) := by
 unfold gV at hr
 have hΓ := (gamL_cons gac.ok (gamL_nil) : GamOk Tryz.prog _)
 refine cw Tryz.func65 rfl (by kernel_rfl) rfl rfl (by simp) fun _ _ _ => ?_
 refine tq hΓ [3, 6] [0] ?_
 refine tq hΓ [8] [] ?_
 refine AWp.equip 8 4 (els := []) (by simp) (by simp) ?_
 refine AWp.loopB (fun (s1 : List Ta × Tl) (γ1 : Nat) => ⟨[⟨8, none, .sl (s1.1.map Ta.enc) (.own 2 (γ1) 4)⟩, ⟨3, none, .ptr 0 0⟩, ⟨6, none, .ptr 1 0⟩, ⟨1, none, .n x1⟩, ⟨2, none, .n x2⟩], [.blk s1.2.enc, .blk [.n 0, .n 0, .sl [] .full, .b false], .room (γ1)]⟩) (fun (v1 : List Ta × Tl) (γ1a : Nat) => ⟨[⟨8, none, .sl (v1.1.map Ta.enc) (.own 2 (γ1a) 4)⟩, ⟨3, none, .ptr 0 0⟩, ⟨6, none, .ptr 1 0⟩], [.blk v1.2.enc, .blk [.n 0, .n 0, .sl [] .full, .b false], .room (γ1a)]⟩) (gV.fin x0 x1 x2) hr 0 3 (by simp) (fun s1 f γ1 hr => ?_) (fun v1 γ1a hr => ?_) (fun _ h => h)
 ·unfold gV.loop1 at hr
  refine AWp.seq ?_
  obtain ⟨h5, hr⟩ := Lc hr
  refine tq hΓ [26] [] ?_ (by simp [h5]; exact rr)
  refine AWp.cnd hr (by simp) (fun h6 hr => ?_) (fun h6 hr => ?_)
  ·refine AWp.skip ?_
   refine AWp.block ?_
   obtain ⟨r1, h7, hr⟩ := Lb hr
   refine tq hΓ [9, 10] [26] ?_ (by simp [h6, h7]; exact rr)
   refine tq hΓ [] [9] ?_ (by simp; exact rr)
   obtain ⟨h8, hr⟩ := Lc hr
   refine tl hΓ [8] [10] ?_ (by simp [h8]; exact rr)
   obtain rfl := La hr
   exact Lk (γ1 + 1) 3 (by first | (simp; done) | simp [h5, h6, h7, h8])
  ·refine AWp.exit ?_
   obtain rfl := La hr
   exact Ln (γ1) 3 (by first | (simp; done) | simp [h5, h6])
 ·refine tq hΓ [7] [8, 3] ?_
  obtain rfl := La hr
  exact AWp.ret (Le (by simp))

@[simp] noncomputable def gV.S : Sp
  | [.agg e0, .lit (.int .i64 x1), .lit (.int .i64 x2)], _ => (fun (y0 : Tl) => (fun (r : Tl × List Ta) => some { av := .tup [.agg [.lit (.int .i64 (r.1.fe)), .lit (.int .i64 (r.1.fb)), .sl ((r.1.fL).map Ta.enc) .no, .lit (.bool (r.1.fv))], .sl ((r.2).map Ta.enc) .no], M := none, obl := WeakL e0 (Tl.enc y0) ∧ (gV y0 x1 x2).isSome = true }) ((gV y0 x1 x2).getD dflt)) (Tl.dec e0)
  | _, _ => none

theorem gV.ok : SpecOk Tryz.prog 65 gV.S := by
 intro l M out h
 unfold gV.S at h
 split at h
 ·rename_i e0 x1 x2
  try dsimp only at h
  cases h
  refine callOk_of fun ho => ?_
  obtain ⟨ox0, hs⟩ := ho
  generalize (Tl.dec e0) = x0 at *
  obtain ⟨r, hr⟩ := so1 hs
  simp only [hr, gd1]
  have q := Lg (M := M) [] (gV.can x0 x1 x2 r hr) (by simp) rfl ixn
  exact callOk_conv q trivial (by simp; exact ox0) (by simp [frameOut]) (by simp [frameOut])
 ·cases h
end Go.Proofs
end
section
namespace Go.Ab
open Go.Proofs Go.RowKit
@[simp] def wrLenS (T E : TypeId) : Sp
  | [.ptr i 0], M => match M[i]? with
    | some (.opq φ) => some { av := .lit (.int .i64 (lenL φ.bs)), obl := φ = wrO T E φ.bs }
    | _ => none
  | _, _ => none
theorem lenW_ok {P : Program} {f : FuncId} {T E : TypeId} (hent : ∀ args w, (callFunc f args).run P w = .ok (.enter f args) w)
  (hU : ∀ (b : Nat) (w : World) (p v : Value) (n : Nat) (xs : List Value), w.heap[b]? = some (.cells #[p, v] T (0, 0)) → w.ownsRow 0 E 1 v n xs →
   Calls P f #[.pointer (some ⟨b, 0, none⟩)] w fun e w' => e = .returned (.int .i64 n) ∧ w' = w) : SpecOk P f (wrLenS T E) := by
 intro l M out h
 unfold wrLenS at h
 split at h
 ·rename_i i
  split at h
  ·rename_i φ hMi
   cases h
   intro g vs hM sm hr ho
   subst hM
   have hφ : φ = wrO T E φ.bs := ho
   cases hr with | cons hv hr => cases hr with | nil =>
   cases hv with
   | ptr _ _ hi =>
   refine ⟨hent _ _, ?_⟩
   have hq := sm.opq i φ hMi
   rw [hφ] at hq
   obtain ⟨p, v, h1, h2, h3, h4, h5⟩ := WrB.at hq
   refine (hU (g.β i) g.w p v φ.bs.length (φ.bs.map (Value.int .u8)) h1 h3).mono ?_
   rintro e' w' ⟨rfl, rfl⟩
   exact ⟨_, rfl, Post.same rfl sm (.lit _)⟩
  ·cases h
 ·cases h
end Go.Ab
namespace Go.Proofs
open Go.RowKit Go.Ab
set_option maxHeartbeats 2000000 in
set_option maxRecDepth 100000 in
theorem Tryz.lenW (b : Nat) (w : World) (p v : Value) (n : Nat) (xs : List Value) (hb : w.heap[b]? = some (.cells #[p, v] 119 (0, 0))) (hown : w.ownsRow 0 5 1 v n xs) :
  Calls Tryz.prog 83 #[.pointer (some ⟨b, 0, none⟩)] w fun e w' => e = .returned (.int .i64 n) ∧ w' = w := by
 obtain ⟨a, cap, rfl⟩ : ∃ a cap, v = .slice a n cap := by
  rcases hown.2 with ⟨hv, h⟩ | ⟨g, cap, cur, hv, _⟩
  ·subst h; exact ⟨_, _, hv⟩
  ·exact ⟨_, _, hv⟩
 have c1 : w.cell? ⟨b, 1, none⟩ = some (.slice a n cap) := by rw [Lib.cell_of_heap hb]; rfl
 clear hb hown
 go_enter Tryz.func83, Tryz.ntmps83
 go_wp2
 go_ret
 exact ⟨rfl, rfl⟩
theorem gOwLen.ok : SpecOk Tryz.prog 83 (wrLenS 119 5) :=
 lenW_ok (fun args w => by kernel_rfl) Tryz.lenW
end Go.Proofs
end
