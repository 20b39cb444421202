/- What these functions compute, as plain functions. No condition. -/
import Derived.Test.YtnoeflijefijcaaTs
namespace Go.Proofs
open Go.Ab
noncomputable def gQueueNew (x0 : Int) (x1 : Int) : Option (Option QueueQueue × Int) :=
  bif (pickB (pickB (pickB (ltI x0 1) true (ltI 1024 x0)) true (ltI x1 1)) true (ltI 16777216 x1)) then (
    some (none, 5)
  ) else (
    some ((some (QueueQueue.mk x0 x1 [] 0 true)), 0)
  )

noncomputable def gQueueQueueLen (x0 : QueueQueue) : Option Int :=
  some (lenL x0.fL)

noncomputable def gQueueQueueSize (x0 : QueueQueue) : Option Int :=
  some x0.fSize

noncomputable def gQueueQueueBroken (x0 : QueueQueue) : Option Bool :=
  some x0.fBroken

noncomputable def gQueueQueueFirst (x0 : QueueQueue) : Option (Antiphonref18Item × Bool) :=
  bif (eqI (lenL x0.fL) 0) then (
    some ((Antiphonref18Item.mk 0 0 0 false), false)
  ) else (
    need (InB 0 (lenL x0.fL)) <|
    some ((nthI x0.fL 0), true)
  )

noncomputable def gQueueQueueShift (x0 : QueueQueue) : Option (Antiphonref18Item × QueueQueue) :=
  need (InB 0 (lenL x0.fL)) <|
  need (CutB 1 (lenL x0.fL) (lenL x0.fL)) <|
  some ((nthI x0.fL 0), (QueueQueue.mk x0.fFrames x0.fMost (cutL x0.fL 1 (lenL x0.fL)) (subI .i64 x0.fSize ((nthI x0.fL 0).fSize)) x0.fBroken))

noncomputable def gQueueQueuePop (x0 : QueueQueue) : Option (Antiphonref18Item × Bool × QueueQueue) :=
  bif (eqI (lenL x0.fL) 0) then (
    some ((Antiphonref18Item.mk 0 0 0 false), false, x0)
  ) else (
    ((gQueueQueueShift x0)).bind fun r1 =>
    some (r1.1, true, r1.2)
  )

noncomputable def gQueueQueueDrop.loop1  (s1 : List Antiphonref18Item × QueueQueue) : Option (Fl (List Antiphonref18Item × QueueQueue) (Fl (List Antiphonref18Item × QueueQueue) (List Antiphonref18Item × QueueQueue))) :=
  need (Under (ltI 0 (lenL s1.2.fL)) true (InB 0 (lenL s1.2.fL))) <|
  bif (pickB (ltI 0 (lenL s1.2.fL)) (notB ((nthI s1.2.fL 0).fKey)) false) then (
    ((gQueueQueueShift s1.2)).bind fun r2 =>
    need (AppB (lenL s1.1) 1 32) <|
    some (.go ((appL s1.1 [r2.1]), r2.2))
  ) else (
    some (.out (.go (s1.1, s1.2)))
  )

noncomputable def gQueueQueueDrop (x0 : QueueQueue) : Option (List Antiphonref18Item × QueueQueue) :=
  ((gQueueQueueShift x0)).bind fun r1 =>
  ((loopF gQueueQueueDrop.loop1 ([r1.1], r1.2)).bind fun f => flC f fun (v1 : List Antiphonref18Item × QueueQueue) =>
    some (v1.1, (QueueQueue.mk v1.2.fFrames v1.2.fMost v1.2.fL v1.2.fSize (pickB v1.2.fBroken true (eqI (lenL v1.2.fL) 0))))
  )

noncomputable def gQueueQueuePut.loop1 (x1 : Antiphonref18Item) (s1 : List Antiphonref18Item × QueueQueue) : Option (Fl (List Antiphonref18Item × QueueQueue) (Fl (List Antiphonref18Item × QueueQueue) (List Antiphonref18Item × Bool × QueueQueue))) :=
  bif (pickB (leqI s1.2.fFrames (lenL s1.2.fL)) true (ltI s1.2.fMost (addI .i64 s1.2.fSize x1.fSize))) then (
    ((gQueueQueueDrop s1.2)).bind fun r1 =>
    need (AppB (lenL s1.1) (lenL r1.1) 32) <|
    some (.go ((appL s1.1 r1.1), r1.2))
  ) else (
    some (.out (.go (s1.1, s1.2)))
  )

noncomputable def gQueueQueuePut (x0 : QueueQueue) (x1 : Antiphonref18Item) : Option (List Antiphonref18Item × Bool × QueueQueue) :=
  bif (pickB (pickB (ltI x1.fSize 0) true (ltI x0.fMost x1.fSize)) true (pickB x0.fBroken (notB x1.fKey) false)) then (
    some ([], false, (QueueQueue.mk x0.fFrames x0.fMost x0.fL x0.fSize true))
  ) else (
    ((loopF (gQueueQueuePut.loop1 x1) ([], x0)).bind fun f => flC f fun (v1 : List Antiphonref18Item × QueueQueue) =>
      bif (pickB v1.2.fBroken (notB x1.fKey) false) then (
        some (v1.1, false, v1.2)
      ) else (
        need (CutB 0 (lenL v1.2.fL) (lenL v1.2.fL)) <|
        need (AppB (lenL (cutL v1.2.fL 0 (lenL v1.2.fL))) 1 32) <|
        some (v1.1, true, (QueueQueue.mk v1.2.fFrames v1.2.fMost (appL (cutL v1.2.fL 0 (lenL v1.2.fL)) [x1]) (addI .i64 v1.2.fSize x1.fSize) false))
      )
    )
  )

noncomputable def gQueueQueueExpire.loop1 (x1 : Int) (x2 : Int) (s1 : List Antiphonref18Item × QueueQueue) : Option (Fl (List Antiphonref18Item × QueueQueue) (Fl (List Antiphonref18Item × QueueQueue) (List Antiphonref18Item × QueueQueue))) :=
  need (Under (ltI 0 (lenL s1.2.fL)) true (InB 0 (lenL s1.2.fL))) <|
  bif (pickB (ltI 0 (lenL s1.2.fL)) (leqI x2 (subI .i64 x1 ((nthI s1.2.fL 0).fTick))) false) then (
    ((gQueueQueueDrop s1.2)).bind fun r1 =>
    need (AppB (lenL s1.1) (lenL r1.1) 32) <|
    some (.go ((appL s1.1 r1.1), r1.2))
  ) else (
    some (.out (.go (s1.1, s1.2)))
  )

noncomputable def gQueueQueueExpire (x0 : QueueQueue) (x1 : Int) (x2 : Int) : Option (List Antiphonref18Item × QueueQueue) :=
  ((loopF (gQueueQueueExpire.loop1 x1 x2) ([], x0)).bind fun f => flC f fun (v1 : List Antiphonref18Item × QueueQueue) =>
    some (v1.1, v1.2)
  )

noncomputable def gQueueQueueBreak (x0 : QueueQueue) : Option (List Antiphonref18Item × QueueQueue) :=
  some (x0.fL, (QueueQueue.mk x0.fFrames x0.fMost [] 0 true))
end Go.Proofs
