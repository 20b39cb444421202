/- What these functions compute, as plain functions. No condition. -/
import Derived.Test.YtpjplfnapgpfmaaGreatTs
import Derived.Test.YtpjplfnapgpfmaaGreatM13
import Derived.Test.YtpjplfnapgpfmaaGreatM06
import Derived.Test.YtpjplfnapgpfmaaGreatM07
import Derived.Test.YtpjplfnapgpfmaaGreatM04
import Derived.Test.YtpjplfnapgpfmaaGreatM05
import Derived.Test.YtpjplfnapgpfmaaGreatTy
import Derived.Test.YtpjplfnapgpfmaaGreatM10
section
namespace Go.Proofs
open Go.Ab
noncomputable def gaC (x0 : Tu) (x1 : Tq) : Option (Tu × Bool) :=
 bif (eqI x1.fz 5) then (
  ((gU x0.fO x1.fId x1.fu x1.fN)).bind fun r1 =>
  ((gav x0.fX x1.fId x1.fu x1.fN)).bind fun r2 =>
  some ((Tu.mk r1.2 r2.1 x0.fC x0.fN), (eqI r1.1 r2.2))
 ) else (
   bif (eqI x1.fz 6) then (
    ((gG x0.fO x1.fId)).bind fun r3 =>
    ((gaG x0.fX x1.fId)).bind fun r4 =>
    need (Under (eqI r3.2.1 r4.2.2) true ((gR r3.1 r4.2.1).isSome = true)) <|
    some ((Tu.mk r3.2.2 r4.1 x0.fC x0.fN), (pickB (eqI r3.2.1 r4.2.2) (eqI ((gR r3.1 r4.2.1).getD dflt) 0) false))
   ) else (
     ((gag x0.fO x1.fId)).bind fun r5 =>
     ((gaJ x0.fX x1.fId)).bind fun r6 =>
     ((gR r5.1 r6.2)).bind fun r7 =>
     some ((Tu.mk r5.2 r6.1 x0.fC x0.fN), (eqI r7 0))
   )
 )

noncomputable def gP (x0 : Tu) (x1 : Tq) : Option (Tu × List Tb × Bool) :=
 ((
  bif (eqI x1.fz 1) then (
   ((gar x0.fO x1.fId (Ta.mk (addI .i64 x0.fN 1) x1.fN x0.fC x1.fy))).bind fun r1 =>
   ((gaP x0.fX x1.fId (Ta.mk (addI .i64 x0.fN 1) x1.fN x0.fC x1.fy))).bind fun r2 =>
   need (Under (eqB r1.2.1 r2.2.2) true ((gR r1.1 r2.2.1).isSome = true)) <|
   some (.out ((Tu.mk r1.2.2 r2.1 x0.fC (addI .i64 x0.fN 1)), [], (pickB (eqB r1.2.1 r2.2.2) (eqI ((gR r1.1 r2.2.1).getD dflt) 0) false)))
  ) else (
    bif (eqI x1.fz 2) then (
     ((
      bif x1.fy then (
       ((gab x0.fO x1.fId)).bind fun r3 =>
       bif (neB r3.1 (pickB (leqI 0 x1.fId) (leqI x1.fId x0.fX.fc) false)) then (
        some (.out (.out ((Tu.mk r3.2 x0.fX x0.fC x0.fN), [], false)))
       ) else (
         bif r3.1 then (
          some (.go (r3.2.fd, r3.2.fc, r3.2.ff, r3.2.fh, r3.2.fa.fb, r3.2.fa.fAt, r3.2.fa.fg, r3.2.fa.fm, r3.2.fa.fp, (Tc.mk x0.fX.fe x0.fX.fk x0.fX.fq x0.fX.fb x0.fX.fo x0.fX.fL x0.fX.fS (subI .i64 x0.fX.fc x1.fId) x0.fX.ff), (Tq.mk x1.fz x1.fId x1.fN true x1.fu)))
         ) else (
           some (.go (r3.2.fd, r3.2.fc, r3.2.ff, r3.2.fh, r3.2.fa.fb, r3.2.fa.fAt, r3.2.fa.fg, r3.2.fa.fm, r3.2.fa.fp, x0.fX, (Tq.mk x1.fz x1.fId x1.fN true x1.fu)))
         )
       )
      ) else (
        some (.go (x0.fO.fd, x0.fO.fc, x0.fO.ff, x0.fO.fh, x0.fO.fa.fb, x0.fO.fa.fAt, x0.fO.fa.fg, x0.fO.fa.fm, x0.fO.fa.fp, x0.fX, (Tq.mk x1.fz x1.fId x1.fN false x1.fu)))
      )
      : Option (Fl (Ts × Int × Int × (List (Int × Tj)) × Int × Int × Bool × (List (Int × Int)) × (List (Int × Int)) × Tc × Tq) (Fl (Ts × Int × Int × (List (Int × Tj)) × Int × Int × Bool × (List (Int × Int)) × (List (Int × Int)) × Tc × Tq) (Tu × List Tb × Bool)))).bind fun f => flC f fun (v2 : Ts × Int × Int × (List (Int × Tj)) × Int × Int × Bool × (List (Int × Int)) × (List (Int × Int)) × Tc × Tq) =>
      ((gK (Tf.mk v2.1 v2.2.2.2.1 (Tp.mk v2.2.2.2.2.1 v2.2.2.2.2.2.2.2.1 v2.2.2.2.2.2.2.2.2.1 v2.2.2.2.2.2.1 v2.2.2.2.2.2.2.1) v2.2.1 v2.2.2.1) v2.2.2.2.2.2.2.2.2.2.2.fN)).bind fun r4 =>
      some (.go (r4.fd, r4.fc, r4.ff, r4.fh, r4.fa.fb, r4.fa.fAt, r4.fa.fg, r4.fa.fm, r4.fa.fp, (Tc.mk v2.2.2.2.2.2.2.2.2.2.1.fe v2.2.2.2.2.2.2.2.2.2.1.fk v2.2.2.2.2.2.2.2.2.2.1.fq v2.2.2.2.2.2.2.2.2.2.1.fb v2.2.2.2.2.2.2.2.2.2.1.fo v2.2.2.2.2.2.2.2.2.2.1.fL v2.2.2.2.2.2.2.2.2.2.1.fS (minI (addI .i64 v2.2.2.2.2.2.2.2.2.2.1.fc (minI (maxI v2.2.2.2.2.2.2.2.2.2.2.fN 0) 1099511627776)) 1099511627776) v2.2.2.2.2.2.2.2.2.2.1.ff), v2.2.2.2.2.2.2.2.2.2.2))
     )
    ) else (
      bif (eqI x1.fz 3) then (
       ((gu x0.fO)).bind fun r5 =>
       ((gal x0.fX)).bind fun r6 =>
       ((gR r5.1 r6.2)).bind fun r7 =>
       some (.out ((Tu.mk r5.2 r6.1 x0.fC x0.fN), r6.2, (eqI r7 0)))
      ) else (
        bif (eqI x1.fz 4) then (
         ((gA x0.fO (addI .i64 x0.fC (bitsOp .and .i64 x1.fN 15)))).bind fun r8 =>
         ((gau x0.fX (addI .i64 x0.fC (bitsOp .and .i64 x1.fN 15)))).bind fun r9 =>
         ((gR r8.1 r9.2)).bind fun r10 =>
         some (.out ((Tu.mk r8.2 r9.1 (addI .i64 x0.fC (bitsOp .and .i64 x1.fN 15)) x0.fN), [], (eqI r10 0)))
        ) else (
          ((
           bif (eqI x1.fz 5) then (
            some (.go true)
           ) else (
             bif (eqI x1.fz 6) then (
              some (.go true)
             ) else (
               some (.go (eqI x1.fz 7))
             )
           )
           : Option (Fl Bool (Fl (Ts × Int × Int × (List (Int × Tj)) × Int × Int × Bool × (List (Int × Int)) × (List (Int × Int)) × Tc × Tq) (Tu × List Tb × Bool)))).bind fun f => flC f fun (v3 : Bool) =>
           bif v3 then (
            ((gaC x0 x1)).bind fun r11 =>
            some (.out (r11.1, [], r11.2))
           ) else (
             some (.go (x0.fO.fd, x0.fO.fc, x0.fO.ff, x0.fO.fh, x0.fO.fa.fb, x0.fO.fa.fAt, x0.fO.fa.fg, x0.fO.fa.fm, x0.fO.fa.fp, x0.fX, x1))
           )
          )
        )
      )
    )
  )
  : Option (Fl (Ts × Int × Int × (List (Int × Tj)) × Int × Int × Bool × (List (Int × Int)) × (List (Int × Int)) × Tc × Tq) (Tu × List Tb × Bool))).bind fun f => flC f fun (v1 : Ts × Int × Int × (List (Int × Tj)) × Int × Int × Bool × (List (Int × Int)) × (List (Int × Int)) × Tc × Tq) =>
  some ((Tu.mk (Tf.mk v1.1 v1.2.2.2.1 (Tp.mk v1.2.2.2.2.1 v1.2.2.2.2.2.2.2.1 v1.2.2.2.2.2.2.2.2.1 v1.2.2.2.2.2.1 v1.2.2.2.2.2.2.1) v1.2.1 v1.2.2.1) v1.2.2.2.2.2.2.2.2.2.1 x0.fC x0.fN), [], true)
 )
end Go.Proofs
end
section
set_option maxRecDepth 100000
set_option maxHeartbeats 4000000
namespace Go.Proofs
open Go.Ab
@[simp] def gaD.out (_x0 : Int) (r : Bool) : Out := { av := .lit (.bool r), M := none }
theorem gaD.can (x0 : Int) (r : Bool) (hr : gaD x0 = some r) : CallOk Tryz.prog 129 [.lit (.int .i64 x0)] [] (gaD.out x0 r) := by
 unfold gaD at hr
 have hΓ := gamL_nil (P := Tryz.prog)
 refine cw Tryz.func129 rfl (by kernel_rfl) rfl rfl (by simp) fun _ _ _ => ?_
 refine tq hΓ [] [] ?_
 refine tq hΓ [2] [0] ?_
 obtain rfl := La hr
 exact AWp.ret (Le (by simp))

@[simp] noncomputable def gaD.S : Sp
  | [.lit (.int .i64 x0)], _ => some { av := .lit (.bool ((gaD x0).getD dflt)), M := none, obl := (gaD x0).isSome = true }
  | _, _ => none

theorem gaD.ok : SpecOk Tryz.prog 129 gaD.S := by
 intro l M out h
 unfold gaD.S at h
 split at h
 ·rename_i x0
  cases h
  refine callOk_of fun ho => ?_
  have hs := ho
  obtain ⟨r, hr⟩ := so1 hs
  simp only [hr, gd1]
  have q := Lg (M := M) [] (gaD.can x0 r hr) (by simp) rfl ixn
  exact callOk_conv q trivial (by simp) (by simp [frameOut]) (by simp [frameOut])
 ·cases h

@[simp] def gaN.out (_x0 : Int) (_x1 : Int) (r : Bool) : Out := { av := .lit (.bool r), M := none }
theorem gaN.can (x0 : Int) (x1 : Int) (r : Bool) (hr : gaN x0 x1 = some r) : CallOk Tryz.prog 118 [.lit (.int .i64 x0), .lit (.int .i64 x1)] [] (gaN.out x0 x1 r) := by
 unfold gaN at hr
 have hΓ := (gamL_cons gaD.ok (gamL_nil) : GamOk Tryz.prog _)
 refine cw Tryz.func118 rfl (by kernel_rfl) rfl rfl (by simp) fun _ _ _ => ?_
 refine tq hΓ [] [] ?_
 obtain ⟨r1, h3, hr⟩ := Lb hr
 obtain ⟨h4, hr⟩ := Lc hr
 refine tq hΓ [4] [0, 1] ?_ (by simp [h3, h4]; exact rr)
 obtain rfl := La hr
 exact AWp.ret (Le (by simp))

@[simp] noncomputable def gaN.S : Sp
  | [.lit (.int .i64 x0), .lit (.int .i64 x1)], _ => some { av := .lit (.bool ((gaN x0 x1).getD dflt)), M := none, obl := (gaN x0 x1).isSome = true }
  | _, _ => none

theorem gaN.ok : SpecOk Tryz.prog 118 gaN.S := by
 intro l M out h
 unfold gaN.S at h
 split at h
 ·rename_i x0 x1
  cases h
  refine callOk_of fun ho => ?_
  have hs := ho
  obtain ⟨r, hr⟩ := so1 hs
  simp only [hr, gd1]
  have q := Lg (M := M) [] (gaN.can x0 x1 r hr) (by simp) rfl ixn
  exact callOk_conv q trivial (by simp) (by simp [frameOut]) (by simp [frameOut])
 ·cases h

@[simp] def gZ.out (_x0 : Int) (r : Bool) : Out := { av := .lit (.bool r), M := none }
theorem gZ.can (x0 : Int) (r : Bool) (hr : gZ x0 = some r) : CallOk Tryz.prog 123 [.lit (.int .i64 x0)] [] (gZ.out x0 r) := by
 unfold gZ at hr
 have hΓ := gamL_nil (P := Tryz.prog)
 refine cw Tryz.func123 rfl (by kernel_rfl) rfl rfl (by simp) fun _ _ _ => ?_
 refine tq hΓ [] [] ?_
 refine tq hΓ [2] [0] ?_
 obtain rfl := La hr
 exact AWp.ret (Le (by simp))

@[simp] noncomputable def gZ.S : Sp
  | [.lit (.int .i64 x0)], _ => some { av := .lit (.bool ((gZ x0).getD dflt)), M := none, obl := (gZ x0).isSome = true }
  | _, _ => none

theorem gZ.ok : SpecOk Tryz.prog 123 gZ.S := by
 intro l M out h
 unfold gZ.S at h
 split at h
 ·rename_i x0
  cases h
  refine callOk_of fun ho => ?_
  have hs := ho
  obtain ⟨r, hr⟩ := so1 hs
  simp only [hr, gd1]
  have q := Lg (M := M) [] (gZ.can x0 r hr) (by simp) rfl ixn
  exact callOk_conv q trivial (by simp) (by simp [frameOut]) (by simp [frameOut])
 ·cases h

@[simp] def gc.out (_x0 : List Int) (_x1 : Int) (r : Int × Bool) : Out := { av := .tup [.lit (.int .i64 r.1), .lit (.bool r.2)], M := none }
def gc.fin (x0 : List Int) (x1 : Int) (r : Int × Bool) (σ : St) : Prop := finK (gc.out x0 x1 r) [] σ.M (resA Tryz.ty σ.A σ.M Tryz.f110.results.toList)
theorem gc.can (x0 : List Int) (x1 : Int) (r : Int × Bool) (hr : gc x0 x1 = some r) : CallOk Tryz.prog 110 [.sl (x0.map (eNum .i64)) .no, .lit (.int .i64 x1)] [] (gc.out x0 x1 r) := by
 unfold gc at hr
 have hΓ := (gamL_cons gaN.ok (gamL_cons gZ.ok (gamL_nil)) : GamOk Tryz.prog _)
 refine cw Tryz.func110 rfl (by kernel_rfl) rfl rfl (by simp) fun _ _ _ => ?_
 refine tq hΓ [] [] ?_
 refine tq hΓ [6] [] ?_
 refine tq hΓ [7, 8] [] ?_
 refine AWp.loopB (fun (s1 : Int × Int) (γ1 : Unit) => ⟨[⟨7, none, .n s1.1⟩, ⟨8, none, .n s1.2⟩, ⟨6, none, .n (lenL x0)⟩, ⟨0, none, .sl (x0.map (eNum .i64)) .no⟩, ⟨1, none, .n x1⟩], []⟩) (fun (v1 : Int) (γ1a : Unit) => ⟨[⟨7, none, .n v1⟩, ⟨6, none, .n (lenL x0)⟩, ⟨0, none, .sl (x0.map (eNum .i64)) .no⟩, ⟨1, none, .n x1⟩], []⟩) (gc.fin x0 x1) hr () 0 (by simp) (fun s1 f γ1 hr => ?_) (fun v1 γ1a hr => ?_) (fun _ h => h)
 ·unfold gc.loop1 at hr
  refine AWp.seq ?_
  refine tq hΓ [15] [] ?_
  refine AWp.cnd hr (by simp) (fun h10 hr => ?_) (fun h10 hr => ?_)
  ·refine AWp.skip ?_
   refine AWp.block ?_
   obtain ⟨h11, hr⟩ := Lc hr
   refine tq hΓ [9] [15] ?_ (by simp [h10, h11]; exact rr)
   obtain ⟨h12, hr⟩ := Lc hr
   obtain ⟨r1, h13, hr⟩ := Lb hr
   refine tq hΓ [27] [] ?_ (by simp [h12, h13]; exact rr)
   refine AWp.cnd hr (by simp) (fun h14 hr => ?_) (fun h14 hr => ?_)
   ·refine tl hΓ [7] [27, 9] ?_ (by simp [h14]; exact rr)
    obtain rfl := La hr
    exact Lk () 0 (by first | (simp; done) | simp [h10, h11, h12, h13, h14])
   ·refine tl hΓ [8] [27, 9] ?_ (by simp [h14]; exact rr)
    obtain rfl := La hr
    exact Lk () 0 (by first | (simp; done) | simp [h10, h11, h12, h13, h14])
  ·refine AWp.exit ?_
   obtain rfl := La hr
   exact Ln () 0 (by first | (simp; done) | simp [h10])
 ·obtain ⟨h15, hr⟩ := Lc hr
  obtain ⟨h16, hr⟩ := Lc hr
  obtain ⟨h17, hr⟩ := Lc hr
  obtain ⟨h18, hr⟩ := Lc hr
  refine tq hΓ [4, 5] [7, 6, 0, 1] ?_ (by simp [h15, h17, h18]; exact rr)
  obtain rfl := La hr
  exact AWp.ret (Le (by simp))

@[simp] noncomputable def gc.S : Sp
  | [.sl e0 _, .lit (.int .i64 x1)], _ => some { av := .tup [.lit (.int .i64 (((gc (e0.map decI) x1).getD dflt).1)), .lit (.bool (((gc (e0.map decI) x1).getD dflt).2))], M := none, obl := e0 = (e0.map decI).map (eNum .i64) ∧ (gc (e0.map decI) x1).isSome = true }
  | _, _ => none

theorem gc.ok : SpecOk Tryz.prog 110 gc.S := by
 intro l M out h
 unfold gc.S at h
 split at h
 ·rename_i e0 k0 x1
  cases h
  refine callOk_of fun ho => ?_
  obtain ⟨ox0, hs⟩ := ho
  generalize (e0.map decI) = x0 at *
  subst ox0
  obtain ⟨r, hr⟩ := so1 hs
  simp only [hr, gd1]
  have q := Lg (M := M) [] (gc.can x0 x1 r hr) (by simp) rfl ixn
  exact callOk_conv q trivial (by simp) (by simp [frameOut]) (by simp [frameOut])
 ·cases h
end Go.Proofs
end
section
namespace Go.Proofs
open Go.Ab
abbrev Fw := Th
abbrev Sn := Tb

/-! ### Maps -/
section
variable {V : Type}
theorem findM_of {k : Int} {v : V} : ∀ {m : List (Int × V)}, (keysM m).Nodup → (k, v) ∈ m → findM eqI k m = some v
 | [], _, h => by cases h
 | (c, x) :: r, hn, h => by
   unfold findM
   simp only [keysM, List.map_cons, List.nodup_cons] at hn
   rcases List.mem_cons.1 h with h | h
   ·cases h
    rw [eqI_t rfl, if_pos rfl]
   ·have hne : k ≠ c := fun e => hn.1 (List.mem_map.2 ⟨(k, v), h, e⟩)
    rw [eqI_f hne, if_neg (by decide)]
    exact findM_of hn.2 h
theorem findM_no {k : Int} : ∀ {m : List (Int × V)}, k ∉ keysM m → findM eqI k m = none
 | [], _ => rfl
 | (c, x) :: r, h => by
   unfold findM
   simp only [keysM, List.map_cons, List.mem_cons, not_or] at h
   rw [eqI_f h.1, if_neg (by decide)]
   exact findM_no h.2
theorem setM_perm {k : Int} {v v' : V} : ∀ {m : List (Int × V)} , (keysM m).Nodup → (k, v) ∈ m → ∀ {r}, m.Perm ((k, v) :: r) → (setM eqI k v' m).Perm ((k, v') :: r)
 | [], _, h, _, _ => by cases h
 | (c, x) :: s, hn, h, r, hp => by
   have hn' := hn
   simp only [keysM, List.map_cons, List.nodup_cons] at hn'
   unfold setM
   by_cases he : k = c
   ·subst he
    rw [eqI_t rfl, if_pos rfl]
    have : x = v := by
     rcases List.mem_cons.1 h with h | h
     ·cases h; rfl
     ·exact absurd (List.mem_map.2 ⟨(k, v), h, rfl⟩) hn'.1
    subst this
    exact (hp.cons_inv).cons _
   ·rw [eqI_f he, if_neg (by decide)]
    have hm : (k, v) ∈ s := by
     rcases List.mem_cons.1 h with h | h
     ·cases h; exact absurd rfl he
     ·exact h
    obtain ⟨r', hr'⟩ : ∃ r', s.Perm ((k, v) :: r') := ⟨_, delM_perm hn'.2 hm⟩
    have h1 : r.Perm ((c, x) :: r') := by
     have : ((k, v) :: r).Perm ((k, v) :: (c, x) :: r') := hp.symm.trans ((hr'.cons _).trans (List.Perm.swap _ _ _))
     exact this.cons_inv
    exact ((setM_perm hn'.2 hm hr').cons _).trans ((List.Perm.swap _ _ _).trans (h1.symm.cons _))
end

/-! ### Items of a flow -/
def mkS (id : Int) (l : List It) : List Sn := l.map fun x => ⟨id, x⟩
theorem all_gen {T : Type} {id : Int} {l : List It} {body : Int × List Sn → Option (Fl (Int × List Sn) (Fl (List Sn) T))} (hl : l.length ≤ 1000000)
  (hb : ∀ s, body s = bif ltI s.1 (lenL l) then (need (InB s.1 (lenL l)) <| need (AppB (lenL s.2) 1 40) <| some (.go ((addI .i64 s.1 1), (appL s.2 [(Tb.mk id (nthI l s.1))])))) else some (.out (.go s.2))) :
  loopF body (0, []) = some (.go (mkS id l)) := by
 have key : ∀ (r p : List It), p ++ r = l → loopF body ((p.length : Int), mkS id p) = some (.go (mkS id l)) := by
  intro r
  induction r with
  | nil =>
    intro p hp
    rw [List.append_nil] at hp
    subst hp
    refine Lq ?_
    rw [hb, ltI_f (by simp only [lenL]; omega)]
    rfl
  | cons x r ih =>
    intro p hp
    have hlen : l.length = p.length + r.length + 1 := by rw [← hp]; simp; omega
    have h1 : body ((p.length : Int), mkS id p) = some (.go (((p ++ [x]).length : Int), mkS id (p ++ [x]))) := by
     rw [hb]
     simp only
     rw [ltI_t (by unfold lenL; omega), cond_true, Lf (by rw [← hp]; exact inb_mid p x r), Lf (appB_1 _ (by simp [mkS]; omega) (by omega)), succ_n _ (by omega)]
     have : nthI l (p.length : Int) = x := by rw [← hp]; exact nthI_mid p x r
     rw [this]
     simp [mkS, app_eq]
    rw [loop_go h1]
    exact ih (p ++ [x]) (by simpa using hp)
 exact key l [] rfl
theorem eall_ok (id : Int) {l : List It} (hl : l.length ≤ 1000000) : gaj id l = some (mkS id l) := by
 unfold gaj
 rw [all_gen hl (fun s => by unfold gaj.loop1; rfl)]
 rfl

/-! ### The flows -/
def rowF (f : Fw) : Int × Tj := (f.fId, ⟨qOf f.fQ, f.fu⟩)
structure FR (m : List (Int × Tj)) (F : List Fw) : Prop where
 perm : m.Perm (F.map rowF)
 rise : (F.map (·.fId)).Pairwise (· < ·)
 ok : ∀ f ∈ F, QOk f.fQ
 ids : ∀ f ∈ F, -9223372036854775808 ≤ f.fId ∧ f.fId ≤ 9223372036854775807
 len : F.length ≤ 1000

theorem keys_row (F : List Fw) : keysM (F.map rowF) = F.map (·.fId) := by simp [keysM, rowF, Function.comp_def]
theorem FR.keys {m : List (Int × Tj)} {F : List Fw} (h : FR m F) : (keysM m).Perm (F.map (·.fId)) := by
 have := keysM_perm h.perm; rwa [keys_row] at this
theorem FR.nodup {m : List (Int × Tj)} {F : List Fw} (h : FR m F) : (keysM m).Nodup :=
 h.keys.nodup_iff.2 (h.rise.imp fun h => by omega)
theorem FR.sort {m : List (Int × Tj)} {F : List Fw} (h : FR m F) : sortL (keysM m) = F.map (·.fId) :=
 sortL_of h.keys (h.rise.imp fun h => by omega)
theorem FR.find {m : List (Int × Tj)} {F : List Fw} (h : FR m F) {f : Fw} (hf : f ∈ F) : findM eqI f.fId m = some ⟨qOf f.fQ, f.fu⟩ :=
 findM_of h.nodup (h.perm.mem_iff.2 (List.mem_map.2 ⟨f, hf, rfl⟩))
theorem FR.miss {m : List (Int × Tj)} {F : List Fw} (h : FR m F) {id : Int} (hf : id ∉ F.map (·.fId)) : findM eqI id m = none :=
 findM_no fun q => hf (h.keys.mem_iff.1 q)
theorem FR.keysB {m : List (Int × Tj)} {F : List Fw} (h : FR m F) : KeysB (keysM m) :=
 KeysB_of (fun x hx => by
  obtain ⟨f, hf, rfl⟩ := List.mem_map.1 (h.keys.mem_iff.1 hx)
  exact h.ids f hf) (by have := h.keys.length_eq; have := h.len; simp only [List.length_map] at *; omega)
def waitsV (v : Bool) (f : Fw) : Bool := f.fu == v && !f.fQ.fL.isEmpty

theorem ids_ok {P : Tf} {F : List Fw} (h : FR P.fh F) (v : Bool) : gy P v = some ((F.filter (waitsV v)).map (·.fId)) := by
 have hlen := h.len
 have key : ∀ (r p : List Fw), p ++ r = F → loopF (gy.loop1 P v) ((p.length : Int), (p.filter (waitsV v)).map (·.fId)) = some (.go ((F.filter (waitsV v)).map (·.fId))) := by
  intro r
  induction r with
  | nil =>
    intro p hp
    rw [List.append_nil] at hp
    subst hp
    refine Lq ?_
    unfold gy.loop1
    rw [h.sort, ltI_f (by simp [lenL])]
    rfl
  | cons f r ih =>
    intro p hp
    have hln : F.length = p.length + r.length + 1 := by rw [← hp]; simp; omega
    have hm : f ∈ F := by rw [← hp]; simp
    have hn : nthI (F.map (·.fId)) (p.length : Int) = f.fId := by
     rw [← hp, List.map_append, List.map_cons]
     have := nthI_mid (p.map (·.fId)) f.fId (r.map (·.fId))
     rwa [List.length_map] at this
    have h1 : gy.loop1 P v ((p.length : Int), (p.filter (waitsV v)).map (·.fId)) = some (.go (((p ++ [f]).length : Int), ((p ++ [f]).filter (waitsV v)).map (·.fId))) := by
     unfold gy.loop1
     simp only
     rw [h.sort, ltI_t (by simp [lenL]; omega), cond_true, Lf (show InB _ _ from ⟨by omega, by simp [lenL]; omega⟩), hn, h.find hm, optC_some, len_ok, Lf (some_u _), succ_n _ (by omega)]
     simp only [getD_so]
     rw [eqB_d]
     by_cases hv : f.fu = v
     ·rw [decide_eq_true hv]
      by_cases he : f.fQ.fL = []
      ·rw [he, ltI_f (by simp [lenL])]
       simp [pickB, waitsV, he]
      ·rw [len0 he]
       have hw : waitsV v f = true := by simp [waitsV, hv, he]
       simp only [pickB, cond_true]
       rw [Lf (appB_1 _ (by have := List.length_filter_le (waitsV v) p; simp only [List.length_map]; omega) (by omega))]
       simp [hw, app_eq]
     ·rw [decide_eq_false hv]
      simp [pickB, waitsV, hv]
    rw [loop_go h1]
    exact ih (p ++ [f]) (by simpa using hp)
 unfold gy
 rw [Lf h.keysB, show loopF (gy.loop1 P v) (0, []) = _ from key F [] rfl]
 rfl
def hd (f : Fw) : It := nthI f.fQ.fL 0
theorem hd_of {f : Fw} {v : Bool} (h : waitsV v f = true) : ∃ r, f.fQ.fL = hd f :: r := by
 unfold waitsV at h
 unfold hd
 cases hl : f.fQ.fL with
 | nil => rw [hl] at h; simp at h
 | cons x r => exact ⟨r, rfl⟩
theorem waitsV_v {f : Fw} {v : Bool} (h : waitsV v f = true) : f.fu = v := by
 unfold waitsV at h
 simp only [Bool.and_eq_true, beq_iff_eq] at h
 exact h.1
def minFrom (m : Fw) : List Fw → Fw
 | [] => m
 | f :: r => minFrom (if (hd f).fw < (hd m).fw then f else m) r
theorem minFrom_mem : ∀ {r : List Fw} {m : Fw}, minFrom m r = m ∨ minFrom m r ∈ r
 | [], _ => .inl rfl
 | f :: r, m => by
   unfold minFrom
   split
   ·rcases minFrom_mem (r := r) (m := f) with h | h
    ·rw [h]; exact .inr (.head _)
    ·exact .inr (.tail _ h)
   ·rcases minFrom_mem (r := r) (m := m) with h | h
    ·exact .inl h
    ·exact .inr (.tail _ h)

theorem sound1_ok {P : Tf} {F : List Fw} (h : FR P.fh F) {f g : Fw} {v w : Bool} (hf : f ∈ F) (hg : g ∈ F) (hfw : waitsV v f = true) (hgw : waitsV w g = true) :
  gY f.fId g.fId P = some (subI .i64 (hd f).fw (hd g).fw) := by
 obtain ⟨r1, e1⟩ := hd_of hfw
 obtain ⟨r2, e2⟩ := hd_of hgw
 unfold gY
 rw [h.find hf, optC_some, first_ok e1, Ld, h.find hg, optC_some, first_ok e2]
 rfl

theorem sound_ok {P : Tf} {F : List Fw} (h : FR P.fh F) {f : Fw} {r : List Fw} (hs : F.filter (waitsV false) = f :: r) (ht : ∀ g ∈ F, ∀ x ∈ g.fQ.fL, 0 ≤ x.fw ∧ x.fw ≤ 1000000000000) :
  gai P ((F.filter (waitsV false)).map (·.fId)) = some (minFrom f r).fId := by
 have hall : ∀ g ∈ f :: r, g ∈ F ∧ waitsV false g = true := fun g hg => by rw [← hs] at hg; exact List.mem_filter.1 hg
 have hlen : (f :: r).length ≤ 1000 := by rw [← hs]; exact Nat.le_trans (List.length_filter_le _ _) h.len
 have htk : ∀ g ∈ f :: r, 0 ≤ (hd g).fw ∧ (hd g).fw ≤ 1000000000000 := fun g hg => by
  obtain ⟨s, e⟩ := hd_of (hall g hg).2
  exact ht g (hall g hg).1 _ (by rw [e]; exact .head _)
 have key : ∀ (q p : List Fw) (m : Fw), p ++ q = f :: r → m ∈ f :: r → loopF (ga.loop2 ((f :: r).map (·.fId)) P) ((p.length : Int), m.fId) = some (.go (minFrom m q).fId) := by
  intro q
  induction q with
  | nil =>
    intro p m hp _
    rw [List.append_nil] at hp
    subst hp
    refine Lq ?_
    unfold ga.loop2
    rw [ltI_f (by simp [lenL])]
    rfl
  | cons g q ih =>
    intro p m hp hm
    have hln : (f :: r).length = p.length + q.length + 1 := by rw [← hp]; simp; omega
    have hg : g ∈ f :: r := by rw [← hp]; simp
    have hn : nthI ((f :: r).map (·.fId)) (p.length : Int) = g.fId := by
     rw [← hp, List.map_append, List.map_cons]
     have := nthI_mid (p.map (·.fId)) g.fId (q.map (·.fId))
     rwa [List.length_map] at this
    have hin : InB (p.length : Int) (lenL ((f :: r).map (·.fId))) := ⟨by omega, by simp only [lenL, List.length_map]; omega⟩
    have t1 := htk g hg
    have t2 := htk m hm
    have h1 : ga.loop2 ((f :: r).map (·.fId)) P ((p.length : Int), m.fId) = some (.go (((p ++ [g]).length : Int), (if (hd g).fw < (hd m).fw then g else m).fId)) := by
     unfold ga.loop2
     simp only
     rw [ltI_t (by exact hin.2), cond_true, Lf hin, hn, sound1_ok h (hall g hg).1 (hall m hm).1 (hall g hg).2 (hall m hm).2, Ld, succ_n _ (by omega), subI_n (by omega) (by omega)]
     by_cases hc : (hd g).fw < (hd m).fw
     ·rw [ltI_t (by omega), if_pos hc]
      simp only [cond_true, Lf hin, Ld, flC_go]
      simp
     ·rw [ltI_f (by omega), if_neg hc]
      simp only [cond_false, Ld, flC_go]
      simp
    rw [loop_go h1]
    rw [ih (p ++ [g]) _ (by simpa using hp) (by split; exact hg; exact hm)]
    rfl
 unfold gai ga
 rw [hs, ltI_f (by simp [lenL]; omega)]
 simp only [cond_false, Ld, flC_go]
 rw [Lf (show InB 0 (lenL ((f :: r).map (·.fId))) from inb_0 _ _), show nthI ((f :: r).map (·.fId)) 0 = f.fId from rfl, show loopF (ga.loop2 ((f :: r).map (·.fId)) P) (1, f.fId) = _ from key r [f] f rfl (.head _)]
 rfl
end Go.Proofs
end
