/- What these functions compute, as plain functions. No condition. -/
import Derived.Test.YtnoeflijefijcaaTs
import Derived.Test.YtnoeflijefijcaaScD
import Derived.Test.YtnoeflijefijcaaM01
namespace Go.Proofs
open Go.Ab
noncomputable def gRef20Find.loop1 (x0 : Antiphonref20Out) (x1 : Int) (s1 : Int) : Option (Fl Int (Fl Unit Int)) :=
  bif (ltI s1 (lenL x0.fL)) then (
    need (InB s1 (lenL x0.fL)) <|
    bif (eqI ((nthI x0.fL s1).fId) x1) then (
      some (.out (.out s1))
    ) else (
      some (.go (addI .i64 s1 1))
    )
  ) else (
    some (.out (.go ()))
  )

noncomputable def gRef20Find (x0 : Antiphonref20Out) (x1 : Int) : Option Int :=
  ((loopF (gRef20Find.loop1 x0 x1) 0).bind fun f => flC f fun (_v1 : Unit) =>
    some (-1)
  )

noncomputable def gRef20All.loop1 (x0 : Int) (x1 : List Antiphonref18Item) (s1 : Int × List Antiphonref20Sent) : Option (Fl (Int × List Antiphonref20Sent) (Fl (List Antiphonref20Sent) (List Antiphonref20Sent))) :=
  bif (ltI s1.1 (lenL x1)) then (
    need (InB s1.1 (lenL x1)) <|
    need (AppB (lenL s1.2) 1 40) <|
    some (.go ((addI .i64 s1.1 1), (appL s1.2 [(Antiphonref20Sent.mk x0 (nthI x1 s1.1))])))
  ) else (
    some (.out (.go s1.2))
  )

noncomputable def gRef20All (x0 : Int) (x1 : List Antiphonref18Item) : Option (List Antiphonref20Sent) :=
  ((loopF (gRef20All.loop1 x0 x1) (0, [])).bind fun f => flC f fun (v1 : List Antiphonref20Sent) =>
    some v1
  )

noncomputable def gRef20Add.loop2 (x1 : Int) (v1 : Antiphonref20Out × Bool) (s2 : Int × Bool × List Antiphonref20Flow) : Option (Fl (Int × Bool × List Antiphonref20Flow) (Fl (Bool × List Antiphonref20Flow) (Antiphonref20Out × Int))) :=
  bif (ltI s2.1 (lenL v1.1.fL)) then (
    need (InB s2.1 (lenL v1.1.fL)) <|
    ((
      bif (pickB (notB s2.2.1) (ltI x1 ((nthI v1.1.fL s2.1).fId)) false) then (
        need (AppB (lenL s2.2.2) 1 64) <|
        some (.go (true, (appL s2.2.2 [(Antiphonref20Flow.mk x1 v1.2 (Antiphonref18Queue.mk v1.1.fFrames v1.1.fBytes [] true))])))
      ) else (
        some (.go (s2.2.1, s2.2.2))
      )
      : Option (Fl (Bool × List Antiphonref20Flow) (Fl (Int × Bool × List Antiphonref20Flow) (Fl (Bool × List Antiphonref20Flow) (Antiphonref20Out × Int))))).bind fun f => flC f fun (v3 : Bool × List Antiphonref20Flow) =>
      need (AppB (lenL v3.2) 1 64) <|
      some (.go ((addI .i64 s2.1 1), v3.1, (appL v3.2 [(nthI v1.1.fL s2.1)])))
    )
  ) else (
    some (.out (.go (s2.2.1, s2.2.2)))
  )

noncomputable def gRef20Add (x0 : Antiphonref20Out) (x1 : Int) (x2 : Bool) (x3 : Int) : Option (Antiphonref20Out × Int) :=
  ((gRef20Find x0 x1)).bind fun r1 =>
  bif (leqI 0 r1) then (
    some (x0, 10)
  ) else (
    ((
      bif x2 then (
        ((gRef19Add x0.fS x1 x3)).bind fun r2 =>
        bif (neI r2.2 0) then (
          some (.out (x0, r2.2))
        ) else (
          some (.go ((Antiphonref20Out.mk x0.fFrames x0.fBytes x0.fAge x0.fMost x0.fGuard x0.fL r2.1 x0.fCredit x0.fSounds), true))
        )
      ) else (
        some (.go (x0, false))
      )
      : Option (Fl (Antiphonref20Out × Bool) (Antiphonref20Out × Int))).bind fun f => flC f fun (v1 : Antiphonref20Out × Bool) =>
      ((loopF (gRef20Add.loop2 x1 v1) (0, false, [])).bind fun f => flC f fun (v2 : Bool × List Antiphonref20Flow) =>
        ((
          bif (notB v2.1) then (
            need (AppB (lenL v2.2) 1 64) <|
            some (.go (appL v2.2 [(Antiphonref20Flow.mk x1 v1.2 (Antiphonref18Queue.mk v1.1.fFrames v1.1.fBytes [] true))]))
          ) else (
            some (.go v2.2)
          )
          : Option (Fl (List Antiphonref20Flow) (Antiphonref20Out × Int))).bind fun f => flC f fun (v4 : List Antiphonref20Flow) =>
          some ((Antiphonref20Out.mk v1.1.fFrames v1.1.fBytes v1.1.fAge v1.1.fMost v1.1.fGuard v4 v1.1.fS v1.1.fCredit v1.1.fSounds), 0)
        )
      )
    )
  )

noncomputable def gRef20Set (x0 : Antiphonref20Out) (x1 : Int) (x2 : Antiphonref18Queue) : Option Antiphonref20Out :=
  need (AppB 0 (lenL x0.fL) 64) <|
  need (InB x1 (lenL x0.fL)) <|
  some (Antiphonref20Out.mk x0.fFrames x0.fBytes x0.fAge x0.fMost x0.fGuard (setI x0.fL x1 (Antiphonref20Flow.mk ((nthI x0.fL x1).fId) ((nthI x0.fL x1).fVideo) x2)) x0.fS x0.fCredit x0.fSounds)

noncomputable def gRef20Put (x0 : Antiphonref20Out) (x1 : Int) (x2 : Antiphonref18Item) : Option (Antiphonref20Out × List Antiphonref20Sent × Bool) :=
  ((gRef20Find x0 x1)).bind fun r1 =>
  bif (pickB (ltI r1 0) true (ltI x0.fMost x2.fSize)) then (
    some (x0, [], false)
  ) else (
    need (Under x2.fKey false (InB r1 (lenL x0.fL))) <|
    need (InB r1 (lenL x0.fL)) <|
    ((gRef18Put ((nthI x0.fL r1).fQ) (Antiphonref18Item.mk x2.fN x2.fSize x2.fTick (pickB x2.fKey true (notB ((nthI x0.fL r1).fVideo)))))).bind fun r2 =>
    ((gRef20Set x0 r1 r2.1)).bind fun r3 =>
    ((gRef20All x1 r2.2.1)).bind fun r4 =>
    some (r3, r4, r2.2.2)
  )

noncomputable def gRef20Next.loop1 (x0 : Antiphonref20Out) (s1 : Int × List Antiphonref19Head × Int) : Option (Fl (Int × List Antiphonref19Head × Int) (Fl (List Antiphonref19Head × Int) (Antiphonref20Out × Int))) :=
  bif (ltI s1.1 (lenL x0.fL)) then (
    need (InB s1.1 (lenL x0.fL)) <|
    bif (eqI (lenL ((nthI x0.fL s1.1).fQ.fL)) 0) then (
      some (.go ((addI .i64 s1.1 1), s1.2.1, s1.2.2))
    ) else (
      bif (nthI x0.fL s1.1).fVideo then (
        need (InB 0 (lenL ((nthI x0.fL s1.1).fQ.fL))) <|
        need (AppB (lenL s1.2.1) 1 16) <|
        some (.go ((addI .i64 s1.1 1), (appL s1.2.1 [(Antiphonref19Head.mk ((nthI x0.fL s1.1).fId) ((nthI ((nthI x0.fL s1.1).fQ.fL) 0).fSize))]), s1.2.2))
      ) else (
        need (Under (ltI s1.2.2 0) false (InB 0 (lenL ((nthI x0.fL s1.1).fQ.fL)))) <|
        need (Under (ltI s1.2.2 0) false (InB s1.2.2 (lenL x0.fL))) <|
        need (Under (ltI s1.2.2 0) false (InB 0 (lenL ((nthI x0.fL s1.2.2).fQ.fL)))) <|
        bif (pickB (ltI s1.2.2 0) true (ltI ((nthI ((nthI x0.fL s1.1).fQ.fL) 0).fTick) ((nthI ((nthI x0.fL s1.2.2).fQ.fL) 0).fTick))) then (
          some (.go ((addI .i64 s1.1 1), s1.2.1, s1.1))
        ) else (
          some (.go ((addI .i64 s1.1 1), s1.2.1, s1.2.2))
        )
      )
    )
  ) else (
    some (.out (.go (s1.2.1, s1.2.2)))
  )

noncomputable def gRef20Next (x0 : Antiphonref20Out) : Option (Antiphonref20Out × Int) :=
  ((loopF (gRef20Next.loop1 x0) (0, [], (-1))).bind fun f => flC f fun (v1 : List Antiphonref19Head × Int) =>
    bif (pickB (leqI 0 v1.2) (pickB (ltI x0.fSounds x0.fGuard) true (eqI (lenL v1.1) 0)) false) then (
      some (x0, v1.2)
    ) else (
      ((gRef19Choose x0.fS v1.1)).bind fun r1 =>
      bif (notB r1.2.2) then (
        some ((Antiphonref20Out.mk x0.fFrames x0.fBytes x0.fAge x0.fMost x0.fGuard x0.fL r1.1 x0.fCredit x0.fSounds), (-1))
      ) else (
        ((gRef20Find (Antiphonref20Out.mk x0.fFrames x0.fBytes x0.fAge x0.fMost x0.fGuard x0.fL r1.1 x0.fCredit x0.fSounds) r1.2.1)).bind fun r2 =>
        some ((Antiphonref20Out.mk x0.fFrames x0.fBytes x0.fAge x0.fMost x0.fGuard x0.fL r1.1 x0.fCredit x0.fSounds), r2)
      )
    )
  )

noncomputable def gRef20Run.loop1  (s1 : Int × List Antiphonref20Sent × Antiphonref20Out) : Option (Fl (Int × List Antiphonref20Sent × Antiphonref20Out) (Fl (List Antiphonref20Sent × Antiphonref20Out) (Antiphonref20Out × List Antiphonref20Sent))) :=
  bif (ltI s1.1 100000) then (
    ((
      ((gRef20Next s1.2.2)).bind fun r1 =>
      bif (ltI r1.2 0) then (
        some (.out (.out (.out (r1.1, s1.2.1))))
      ) else (
        need (InB r1.2 (lenL r1.1.fL)) <|
        need (InB 0 (lenL ((nthI r1.1.fL r1.2).fQ.fL))) <|
        bif (ltI r1.1.fCredit ((nthI ((nthI r1.1.fL r1.2).fQ.fL) 0).fSize)) then (
          some (.out (.out (.out (r1.1, s1.2.1))))
        ) else (
          need (CutB 1 (lenL ((nthI r1.1.fL r1.2).fQ.fL)) (lenL ((nthI r1.1.fL r1.2).fQ.fL))) <|
          ((gRef20Set r1.1 r1.2 (Antiphonref18Queue.mk ((nthI r1.1.fL r1.2).fQ.fFrames) ((nthI r1.1.fL r1.2).fQ.fMost) (cutL ((nthI r1.1.fL r1.2).fQ.fL) 1 (lenL ((nthI r1.1.fL r1.2).fQ.fL))) ((nthI r1.1.fL r1.2).fQ.fBroken)))).bind fun r2 =>
          ((
            bif (nthI r1.1.fL r1.2).fVideo then (
              ((gRef19Take r2.fS ((nthI ((nthI r1.1.fL r1.2).fQ.fL) 0).fSize))).bind fun r3 =>
              some (.go ((Antiphonref20Out.mk r2.fFrames r2.fBytes r2.fAge r2.fMost r2.fGuard r2.fL r3 (subI .i64 r2.fCredit ((nthI ((nthI r1.1.fL r1.2).fQ.fL) 0).fSize)) 0), (Antiphonref20Flow.mk ((nthI r1.1.fL r1.2).fId) true ((nthI r1.1.fL r1.2).fQ))))
            ) else (
              some (.go ((Antiphonref20Out.mk r2.fFrames r2.fBytes r2.fAge r2.fMost r2.fGuard r2.fL r2.fS (subI .i64 r2.fCredit ((nthI ((nthI r1.1.fL r1.2).fQ.fL) 0).fSize)) (addI .i64 r2.fSounds 1)), (Antiphonref20Flow.mk ((nthI r1.1.fL r1.2).fId) false ((nthI r1.1.fL r1.2).fQ))))
            )
            : Option (Fl (Antiphonref20Out × Antiphonref20Flow) (Fl (List Antiphonref20Sent × Antiphonref20Out) (Fl (Int × List Antiphonref20Sent × Antiphonref20Out) (Fl (List Antiphonref20Sent × Antiphonref20Out) (Antiphonref20Out × List Antiphonref20Sent)))))).bind fun f => flC f fun (v3 : Antiphonref20Out × Antiphonref20Flow) =>
            need (AppB (lenL s1.2.1) 1 40) <|
            some (.go ((appL s1.2.1 [(Antiphonref20Sent.mk v3.2.fId (nthI ((nthI r1.1.fL r1.2).fQ.fL) 0))]), v3.1))
          )
        )
      )
      : Option (Fl (List Antiphonref20Sent × Antiphonref20Out) (Fl (Int × List Antiphonref20Sent × Antiphonref20Out) (Fl (List Antiphonref20Sent × Antiphonref20Out) (Antiphonref20Out × List Antiphonref20Sent))))).bind fun f => flC f fun (v2 : List Antiphonref20Sent × Antiphonref20Out) =>
      some (.go ((addI .i64 s1.1 1), v2.1, v2.2))
    )
  ) else (
    some (.out (.go (s1.2.1, s1.2.2)))
  )

noncomputable def gRef20Run (x0 : Antiphonref20Out) : Option (Antiphonref20Out × List Antiphonref20Sent) :=
  ((loopF gRef20Run.loop1 (0, [], x0)).bind fun f => flC f fun (v1 : List Antiphonref20Sent × Antiphonref20Out) =>
    some (v1.2, v1.1)
  )

noncomputable def gRef20Tick.loop1 (x0 : Antiphonref20Out) (x1 : Int) (s1 : Int × List Antiphonref20Sent × Antiphonref20Out) : Option (Fl (Int × List Antiphonref20Sent × Antiphonref20Out) (Fl (List Antiphonref20Sent × Antiphonref20Out) (Antiphonref20Out × List Antiphonref20Sent))) :=
  bif (ltI s1.1 (lenL x0.fL)) then (
    need (InB s1.1 (lenL x0.fL)) <|
    ((gRef18Expire ((nthI x0.fL s1.1).fQ) x1 s1.2.2.fAge)).bind fun r1 =>
    ((gRef20Set s1.2.2 s1.1 r1.1)).bind fun r2 =>
    ((gRef20All ((nthI x0.fL s1.1).fId) r1.2)).bind fun r3 =>
    need (AppB (lenL s1.2.1) (lenL r3) 40) <|
    some (.go ((addI .i64 s1.1 1), (appL s1.2.1 r3), r2))
  ) else (
    some (.out (.go (s1.2.1, s1.2.2)))
  )

noncomputable def gRef20Tick (x0 : Antiphonref20Out) (x1 : Int) : Option (Antiphonref20Out × List Antiphonref20Sent) :=
  ((loopF (gRef20Tick.loop1 x0 x1) (0, [], x0)).bind fun f => flC f fun (v1 : List Antiphonref20Sent × Antiphonref20Out) =>
    some (v1.2, v1.1)
  )
end Go.Proofs
