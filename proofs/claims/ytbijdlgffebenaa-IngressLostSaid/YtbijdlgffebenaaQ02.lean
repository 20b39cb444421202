/- What these functions compute, as plain functions. No condition. -/
import Derived.Test.YtbijdlgffebenaaTs
import Derived.Test.YtbijdlgffebenaaQ05
import Derived.Test.YtbijdlgffebenaaSh
import Derived.Test.YtbijdlgffebenaaQ01
import Derived.Test.YtbijdlgffebenaaQ10
section
namespace Go.Proofs
open Go.Ab
noncomputable def gq (x0 : Tk) : Option Int :=
 bif (pickB (pickB (pickB (ltI x0.fk 1) true (ltI 1024 x0.fk)) true (ltI x0.fq 0)) true (ltI 1099511627776 x0.fq)) then (
  some 5
 ) else (
  some 0
 )

noncomputable def gaa (x0 : Tk) : Option (Option Tg × Int) :=
 ((gq x0)).bind fun r1 =>
 bif (neI r1 0) then (
  some (none, r1)
 ) else (
  some ((some (Tg.mk x0 false 0 [] 0)), 0)
 )

noncomputable def gt (x0 : Tg) : Option Int :=
 some (lenL x0.fOf)

noncomputable def gz (x0 : Tg) : Option Int :=
 some x0.fe

noncomputable def gi.loop1 (x0 : Tg) (s1 : Nat × List Ta × Int × (List (Int × Ta))) : Option (Fl (Nat × List Ta × Int × (List (Int × Ta))) (Fl Unit (List Ta × Nat × Tg))) :=
 bif (notB (hasM eqI s1.2.2.1 s1.2.2.2)) then (
  some (.out (.out (s1.2.1, s1.1, (Tg.mk x0.fb x0.fd s1.2.2.1 s1.2.2.2 x0.fe))))
 ) else (
  need (AppB (lenL s1.2.1) 1 32) <|
  some (.go ((s1.1 + 1), (appL s1.2.1 [(getM eqI s1.2.2.1 (Ta.mk 0 ⟨⟨[]⟩⟩ 0) s1.2.2.2)]), (addI .i64 s1.2.2.1 1), (delM eqI s1.2.2.1 s1.2.2.2)))
 )

noncomputable def gi (x0 : Tg) : Option (List Ta × Nat × Tg) :=
 ((loopF (gi.loop1 x0) (0, [], x0.fg, x0.fOf)).bind fun f => flC f fun (_v1 : Unit) =>
  none
 )
end Go.Proofs
end
section
namespace Go.Proofs
open Go.Ab
noncomputable def gr (x0 : Tg) : Option Int :=
 need (KeysB (keysM x0.fOf)) <|
 need (MinB (keysM x0.fOf)) <|
 some (minL (keysM x0.fOf))

noncomputable def gw (x0 : Tg) : Option (List Ta × Nat × Tg) :=
 ((gr x0)).bind fun r1 =>
 ((gi (Tg.mk x0.fb x0.fd r1 x0.fOf (addI .i64 x0.fe (subI .i64 r1 x0.fg))))).bind fun r2 =>
 some (r2.1, r2.2.1, r2.2.2)

noncomputable def gag.loop2 (x0 : Tg) (x1 : Int) (s1 : Int × Int × List Int) (s2 : Int × List Int) : Option (Fl (Int × List Int) (Fl (List Int) (Fl (Int × Int × List Int) (Fl (List Int) (List Int))))) :=
 bif (pickB (ltI s2.1 (nthI (sortL (keysM x0.fOf)) s1.1)) (ltI (lenL s2.2) x1) false) then (
  need (AppB (lenL s2.2) 1 8) <|
  some (.go ((addI .i64 s2.1 1), (appL s2.2 [s2.1])))
 ) else (
  some (.out (.go s2.2))
 )

noncomputable def gag.loop1 (x0 : Tg) (x1 : Int) (s1 : Int × Int × List Int) : Option (Fl (Int × Int × List Int) (Fl (List Int) (List Int))) :=
 bif (ltI s1.1 (lenL (sortL (keysM x0.fOf)))) then (
  need (InB s1.1 (lenL (sortL (keysM x0.fOf)))) <|
  ((loopF (gag.loop2 x0 x1 s1) (s1.2.1, s1.2.2)).bind fun f => flC f fun (v2 : List Int) =>
   some (.go ((addI .i64 s1.1 1), (addI .i64 (nthI (sortL (keysM x0.fOf)) s1.1) 1), v2))
  )
 ) else (
  some (.out (.go s1.2.2))
 )

noncomputable def gag (x0 : Tg) (x1 : Int) : Option (List Int) :=
 need (KeysB (keysM x0.fOf)) <|
 ((loopF (gag.loop1 x0 x1) (0, x0.fg, [])).bind fun f => flC f fun (v1 : List Int) =>
  some v1
 )

noncomputable def gm.loop2  (s2 : List Ta × Tk × Bool × Int × Int × (List (Int × Ta))) : Option (Fl (List Ta × Tk × Bool × Int × Int × (List (Int × Ta))) (Fl (List Ta × Tk × Bool × Int × Int × (List (Int × Ta))) (List Ta × Int × Tg))) :=
 bif (ltI s2.2.1.fk (lenL s2.2.2.2.2.2)) then (
  ((gw (Tg.mk s2.2.1 s2.2.2.1 s2.2.2.2.1 s2.2.2.2.2.2 s2.2.2.2.2.1))).bind fun r2 =>
  need (AppB (lenL s2.1) (lenL r2.1) 32) <|
  some (.go ((appL s2.1 r2.1), r2.2.2.fb, r2.2.2.fd, r2.2.2.fg, r2.2.2.fe, r2.2.2.fOf))
 ) else (
  some (.out (.go (s2.1, s2.2.1, s2.2.2.1, s2.2.2.2.1, s2.2.2.2.2.1, s2.2.2.2.2.2)))
 )

noncomputable def gm (x0 : Tg) (x1 : Ta) : Option (List Ta × Int × Tg) :=
 ((
  bif (notB x0.fd) then (
   some (.go (true, x1.fAt))
  ) else (
   some (.go (x0.fd, x0.fg))
  )
  : Option (Fl (Bool × Int) (List Ta × Int × Tg))).bind fun f => flC f fun (v1 : Bool × Int) =>
  bif (ltI x1.fAt v1.2) then (
   some ([], 13, (Tg.mk x0.fb v1.1 v1.2 x0.fOf x0.fe))
  ) else (
   bif (hasM eqI x1.fAt x0.fOf) then (
    some ([], 14, (Tg.mk x0.fb v1.1 v1.2 x0.fOf x0.fe))
   ) else (
    ((gi (Tg.mk x0.fb v1.1 v1.2 (setM eqI x1.fAt x1 x0.fOf) x0.fe))).bind fun r1 =>
    ((loopF gm.loop2 (r1.1, r1.2.2.fb, r1.2.2.fd, r1.2.2.fg, r1.2.2.fe, r1.2.2.fOf)).bind fun f => flC f fun (v2 : List Ta × Tk × Bool × Int × Int × (List (Int × Ta))) =>
     some (v2.1, 0, (Tg.mk v2.2.1 v2.2.2.1 v2.2.2.2.1 v2.2.2.2.2.2 v2.2.2.2.2.1))
    )
   )
  )
 )

noncomputable def gk.loop1 (x1 : Int) (s1 : List Ta × Tk × Bool × Int × Int × (List (Int × Ta))) : Option (Fl (List Ta × Tk × Bool × Int × Int × (List (Int × Ta))) (Fl (List Ta × Tk × Bool × Int × Int × (List (Int × Ta))) (List Ta × Tg))) :=
 bif (ltI 0 (lenL s1.2.2.2.2.2)) then (
  ((gr (Tg.mk s1.2.1 s1.2.2.1 s1.2.2.2.1 s1.2.2.2.2.2 s1.2.2.2.2.1))).bind fun r1 =>
  bif (ltI (subI .i64 x1 ((getM eqI r1 (Ta.mk 0 ⟨⟨[]⟩⟩ 0) s1.2.2.2.2.2).fO)) s1.2.1.fq) then (
   some (.out (.go (s1.1, s1.2.1, s1.2.2.1, s1.2.2.2.1, s1.2.2.2.2.1, s1.2.2.2.2.2)))
  ) else (
   ((gw (Tg.mk s1.2.1 s1.2.2.1 s1.2.2.2.1 s1.2.2.2.2.2 s1.2.2.2.2.1))).bind fun r2 =>
   need (AppB (lenL s1.1) (lenL r2.1) 32) <|
   some (.go ((appL s1.1 r2.1), r2.2.2.fb, r2.2.2.fd, r2.2.2.fg, r2.2.2.fe, r2.2.2.fOf))
  )
 ) else (
  some (.out (.go (s1.1, s1.2.1, s1.2.2.1, s1.2.2.2.1, s1.2.2.2.2.1, s1.2.2.2.2.2)))
 )

noncomputable def gk (x0 : Tg) (x1 : Int) : Option (List Ta × Tg) :=
 ((loopF (gk.loop1 x1) ([], x0.fb, x0.fd, x0.fg, x0.fe, x0.fOf)).bind fun f => flC f fun (v1 : List Ta × Tk × Bool × Int × Int × (List (Int × Ta))) =>
  some (v1.1, (Tg.mk v1.2.1 v1.2.2.1 v1.2.2.2.1 v1.2.2.2.2.2 v1.2.2.2.2.1))
 )
end Go.Proofs
end
section
namespace Go.Proofs
open Go.Ab Go.Shelf
theorem libKeys.gMapsKeysMapInt64ReorderThingInt64ReorderThing.ok : SpecOk Try.prog 60 (keysS 71) :=
  keys_ok Try.keysA rfl rfl (enters_of Try.func60 (by kernel_rfl) rfl)
theorem libCollect.gSlicesCollectInt64.ok : SpecOk Try.prog 59 (collectS 71) :=
  collect_ok Try.collectA { Try.keysA with } rfl rfl (enters_of Try.func59 (by kernel_rfl) rfl) (enters_of Try.func71 (by kernel_rfl) rfl)
theorem libMin.gh.ok : SpecOk Try.prog 58 minS :=
  min_ok (fun l M hb => by
    have h := _root_.Go.Proofs.gh.ok [.sl (l.map (Go.Ab.eNum IntKind.i64)) .no] M _ rfl
    intro g vs hM sm hr _
    have h2 := h g vs hM sm hr (by simp [min_plain hb])
    simpa [min_plain hb] using h2)
    (fun l l' hp hb => by
      have hne : l' ≠ [] := fun e => by rw [e] at hb; exact absurd hb.1 (by simp)
      exact minL_of (hp.mem_iff.2 (minL_mem hne)) fun x hx => minL_le x (hp.mem_iff.1 hx))
end Go.Proofs
end
section
namespace Go.Proofs
open Go.Ab
noncomputable def gaK (x0 : Int) (x1 : Int) : Option Int :=
 need (NonZ x1) <|
 ((
  bif (ltI (remI x0 x1) 0) then (
   some (.go (addI .i64 (remI x0 x1) x1))
  ) else (
   some (.go (remI x0 x1))
  )
  : Option (Fl Int Int)).bind fun f => flC f fun (v1 : Int) =>
  some v1
 )

noncomputable def gaS (x0 : Int) (x1 : Int) (x2 : Int) : Option Int :=
 ((gaK (subI .i64 x0 x1) x2)).bind fun r1 =>
 need (NonZ 2) <|
 bif (ltI r1 (quoI .i64 x2 2)) then (
  some r1
 ) else (
  some (subI .i64 r1 x2)
 )

noncomputable def gaJ (x0 : Int) (x1 : Int) (x2 : Int) : Option Int :=
 ((gaK x0 x2)).bind fun r1 =>
 ((gaS x1 r1 x2)).bind fun r2 =>
 some (addI .i64 x0 r2)

noncomputable def gaP (x0 : Tw) (x1 : Int) : Option (Tw × Int × Bool) :=
 bif (notB x0.fd) then (
  some ((Tw.mk true (addI .i64 1048576 x1) (-1) 0 0), (addI .i64 1048576 x1), true)
 ) else (
  ((gaJ x0.fk x1 65536)).bind fun r1 =>
  bif (pickB (leqI r1 (addI .i64 x0.fk 3000)) (leqI (subI .i64 x0.fk 3000) r1) false) then (
   some ((Tw.mk x0.fd (maxI x0.fk r1) (-1) 0 x0.fC), r1, true)
  ) else (
   ((
    bif (eqI x0.fX x1) then (
     some (.go (Tw.mk x0.fd x0.fk x0.fX (addI .i64 x0.fM 1) x0.fC))
    ) else (
     some (.go (Tw.mk x0.fd x0.fk x0.fX 1 x0.fC))
    )
    : Option (Fl Tw (Tw × Int × Bool))).bind fun f => flC f fun (v1 : Tw) =>
    need (NonZ 65536) <|
    bif (ltI v1.fM 2) then (
     some ((Tw.mk v1.fd v1.fk (remI (addI .i64 x1 1) 65536) v1.fM v1.fC), 0, false)
    ) else (
     need (NonZ 65536) <|
     some ((Tw.mk v1.fd (addI .i64 (mulI .i64 (addI .i64 (quoI .i64 v1.fk 65536) 2) 65536) x1) (-1) 0 (addI .i64 v1.fC 1)), (addI .i64 (mulI .i64 (addI .i64 (quoI .i64 v1.fk 65536) 2) 65536) x1), true)
    )
   )
  )
 )

noncomputable def gaL (x0 : Int) (x1 : Int) : Option (Int × Int) :=
 bif (ltI x0 0) then (
  some ((addI .i64 68719476736 x1), (addI .i64 68719476736 x1))
 ) else (
  ((gaJ x0 x1 4294967296)).bind fun r1 =>
  some ((maxI x0 r1), r1)
 )
end Go.Proofs
end
