/- What these functions compute, as plain functions. No condition. -/
import Derived.Test.YtefdnbpigfojcaaDoorTs
import Derived.Test.YtefdnbpigfojcaaDoorM08
import Derived.Test.YtefdnbpigfojcaaDoorM05
import Derived.Test.YtefdnbpigfojcaaDoorM03
import Derived.Test.YtefdnbpigfojcaaDoorM10
namespace Go.Proofs
open Go.Ab
noncomputable def gLaw12Is.loop2 (r6 : List Antiphonref12Peer) (r7 : List Antiphonref12Peer) (s2 : Int) : Option (Fl Int (Fl Unit (Fl Int (Fl Unit Int)))) :=
  bif (ltI s2 (lenL r7)) then (
    need (InB s2 (lenL r6)) <|
    need (InB s2 (lenL r7)) <|
    bif (notB (pickB (eqI ((nthI r6 s2).fN) ((nthI r7 s2).fN)) (pickB (eqS ((nthI r6 s2).fName) ((nthI r7 s2).fName)) (eqS ((nthI r6 s2).fRoom) ((nthI r7 s2).fRoom)) false) false)) then (
      some (.out (.out (.out (.out (-1)))))
    ) else (
      some (.go (addI .i64 s2 1))
    )
  ) else (
    some (.out (.go ()))
  )

noncomputable def gLaw12Is.loop1 (x0 : RoomTable) (x1 : Antiphonref12Table) (r3 : List ByteArray) (s1 : Int) : Option (Fl Int (Fl Unit Int)) :=
  bif (ltI s1 (lenL r3)) then (
    need (InB s1 (lenL r3)) <|
    ((gRoomTableIn x0 (nthI r3 s1))).bind fun r6 =>
    ((gRef12In x1 (nthI r3 s1))).bind fun r7 =>
    need (Under (ltI 0 s1) true (InB (subI .i64 s1 1) (lenL r3))) <|
    bif (pickB (pickB (pickB (pickB (ltI 0 s1) (notB (ltS (nthI r3 (subI .i64 s1 1)) (nthI r3 s1))) false) true (neI (lenL r6) (lenL r7))) true (eqI (lenL r6) 0)) true (ltI 16 (lenL r6))) then (
      some (.out (.out (-1)))
    ) else (
      ((loopF (gLaw12Is.loop2 r6 r7) 0).bind fun f => flC f fun (_v2 : Unit) =>
        some (.go (addI .i64 s1 1))
      )
    )
  ) else (
    some (.out (.go ()))
  )

noncomputable def gLaw12Is (x0 : RoomTable) (x1 : Antiphonref12Table) (x2 : Int) : Option Int :=
  ((gRoomTablePeer x0 x2)).bind fun r1 =>
  ((gRef12Find x1 x2)).bind fun r2 =>
  ((gRoomTableRooms x0)).bind fun r3 =>
  ((gRef12Rooms x1)).bind fun r4 =>
  ((gRoomTableLen x0)).bind fun r5 =>
  bif (pickB (pickB (pickB (pickB (neI r5 (lenL x1.fL)) true (notB (pickB (eqI r1.1.fN r2.1.fN) (pickB (eqS r1.1.fName r2.1.fName) (eqS r1.1.fRoom r2.1.fRoom) false) false))) true (neB r1.2 r2.2)) true (neI (lenL r3) (lenL r4))) true (ltI 8 (lenL r3))) then (
    some (-1)
  ) else (
    ((loopF (gLaw12Is.loop1 x0 x1 r3) 0).bind fun f => flC f fun (_v1 : Unit) =>
      some 0
    )
  )

noncomputable def gLaw12RoomPlays.loop1 (x0 : List Antiphonlaw12Act) (s1 : Int × (List (Int × Antiphonref12Peer)) × Int × Antiphonref12Table) : Option (Fl (Int × (List (Int × Antiphonref12Peer)) × Int × Antiphonref12Table) (Fl ((List (Int × Antiphonref12Peer)) × Int × Antiphonref12Table) Bool)) :=
  bif (pickB (ltI s1.1 (lenL x0)) (ltI s1.1 120) false) then (
    ((
      need (InB s1.1 (lenL x0)) <|
      ((
        bif (eqI ((nthI x0 s1.1).fKind) 1) then (
          ((gLaw01Cut ((nthI x0 s1.1).fRoom) 70)).bind fun r3 =>
          ((gLaw01Cut ((nthI x0 s1.1).fName) 70)).bind fun r4 =>
          ((gRoomTableJoin (RoomTable.mk s1.2.1 s1.2.2.1) r3 r4)).bind fun r5 =>
          ((gRef12Join s1.2.2.2 r3 r4)).bind fun r6 =>
          bif (pickB (neI r5.1 r6.2.1) true (neI r5.2.1 r6.2.2)) then (
            some (.out (.out (.out (.out false))))
          ) else (
            some (.go (r5.2.2.fPeers, r5.2.2.fNext, r6.1, (Antiphonlaw12Act.mk ((nthI x0 s1.1).fKind) ((nthI x0 s1.1).fN) r3 r4)))
          )
        ) else (
          bif (eqI ((nthI x0 s1.1).fKind) 2) then (
            ((gRoomTableLeave (RoomTable.mk s1.2.1 s1.2.2.1) ((nthI x0 s1.1).fN))).bind fun r7 =>
            ((gRef12Leave s1.2.2.2 ((nthI x0 s1.1).fN))).bind fun r8 =>
            bif (neI r7.1 r8.2) then (
              some (.out (.out (.out (.out false))))
            ) else (
              some (.go (r7.2.fPeers, r7.2.fNext, r8.1, (nthI x0 s1.1)))
            )
          ) else (
            some (.go (s1.2.1, s1.2.2.1, s1.2.2.2, (nthI x0 s1.1)))
          )
        )
        : Option (Fl ((List (Int × Antiphonref12Peer)) × Int × Antiphonref12Table × Antiphonlaw12Act) (Fl ((List (Int × Antiphonref12Peer)) × Int × Antiphonref12Table) (Fl (Int × (List (Int × Antiphonref12Peer)) × Int × Antiphonref12Table) (Fl ((List (Int × Antiphonref12Peer)) × Int × Antiphonref12Table) Bool))))).bind fun f => flC f fun (v3 : (List (Int × Antiphonref12Peer)) × Int × Antiphonref12Table × Antiphonlaw12Act) =>
        ((gLaw12Is (RoomTable.mk v3.1 v3.2.1) v3.2.2.1 v3.2.2.2.fN)).bind fun r9 =>
        need (Under (neI r9 0) false (NonZ 2)) <|
        need (Under (neI r9 0) false ((gRoomTableTogether (RoomTable.mk v3.1 v3.2.1) v3.2.2.2.fN (quoI .i64 s1.1 2)).isSome = true)) <|
        need (Under (neI r9 0) false (NonZ 2)) <|
        need (Under (neI r9 0) false ((gRef12Together v3.2.2.1 v3.2.2.2.fN (quoI .i64 s1.1 2)).isSome = true)) <|
        bif (pickB (neI r9 0) true (neB ((gRoomTableTogether (RoomTable.mk v3.1 v3.2.1) v3.2.2.2.fN (quoI .i64 s1.1 2)).getD dflt) ((gRef12Together v3.2.2.1 v3.2.2.2.fN (quoI .i64 s1.1 2)).getD dflt))) then (
          some (.out (.out (.out false)))
        ) else (
          some (.go (v3.1, v3.2.1, v3.2.2.1))
        )
      )
      : Option (Fl ((List (Int × Antiphonref12Peer)) × Int × Antiphonref12Table) (Fl (Int × (List (Int × Antiphonref12Peer)) × Int × Antiphonref12Table) (Fl ((List (Int × Antiphonref12Peer)) × Int × Antiphonref12Table) Bool)))).bind fun f => flC f fun (v2 : (List (Int × Antiphonref12Peer)) × Int × Antiphonref12Table) =>
      some (.go ((addI .i64 s1.1 1), v2.1, v2.2.1, v2.2.2))
    )
  ) else (
    some (.out (.go (s1.2.1, s1.2.2.1, s1.2.2.2)))
  )

noncomputable def gLaw12RoomPlays (x0 : List Antiphonlaw12Act) : Option Bool :=
  (gLaw12Awake).bind fun r1 =>
  bif (notB r1) then (
    some false
  ) else (
    (gRoomNew).bind fun r2 =>
    ((loopF (gLaw12RoomPlays.loop1 x0) (0, r2.fPeers, r2.fNext, (Antiphonref12Table.mk [] 0))).bind fun f => flC f fun (_v1 : (List (Int × Antiphonref12Peer)) × Int × Antiphonref12Table) =>
      some true
    )
  )
end Go.Proofs
