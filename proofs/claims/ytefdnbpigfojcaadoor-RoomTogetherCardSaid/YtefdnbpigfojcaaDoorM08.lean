/- What these functions compute, as plain functions. No condition. -/
import Derived.Test.YtefdnbpigfojcaaDoorTs
import Derived.Test.YtefdnbpigfojcaaDoorM02
import Derived.Test.YtefdnbpigfojcaaDoorM03
import Derived.Test.YtefdnbpigfojcaaDoorM05
section
namespace Go.Proofs
open Go.Ab
noncomputable def gRoomNew : Option RoomTable :=
  some (RoomTable.mk [] 0)

noncomputable def gRoomTableLen (x0 : RoomTable) : Option Int :=
  some (lenL x0.fPeers)

noncomputable def gRoomTablePeer (x0 : RoomTable) (x1 : Int) : Option (Antiphonref12Peer × Bool) :=
  some ((getM eqI x1 (Antiphonref12Peer.mk 0 ⟨⟨[]⟩⟩ ⟨⟨[]⟩⟩) x0.fPeers), (hasM eqI x1 x0.fPeers))

noncomputable def gRoomTableIn.loop1 (x0 : RoomTable) (x1 : ByteArray) (s1 : Int × List Antiphonref12Peer) : Option (Fl (Int × List Antiphonref12Peer) (Fl (List Antiphonref12Peer) (List Antiphonref12Peer))) :=
  bif (ltI s1.1 (lenL (sortL (keysM x0.fPeers)))) then (
    need (InB s1.1 (lenL (sortL (keysM x0.fPeers)))) <|
    ((gLabelSame ((getM eqI (nthI (sortL (keysM x0.fPeers)) s1.1) (Antiphonref12Peer.mk 0 ⟨⟨[]⟩⟩ ⟨⟨[]⟩⟩) x0.fPeers).fRoom) x1)).bind fun r1 =>
    bif r1 then (
      need (AppB (lenL s1.2) 1 40) <|
      some (.go ((addI .i64 s1.1 1), (appL s1.2 [(getM eqI (nthI (sortL (keysM x0.fPeers)) s1.1) (Antiphonref12Peer.mk 0 ⟨⟨[]⟩⟩ ⟨⟨[]⟩⟩) x0.fPeers)])))
    ) else (
      some (.go ((addI .i64 s1.1 1), s1.2))
    )
  ) else (
    some (.out (.go s1.2))
  )

noncomputable def gRoomTableIn (x0 : RoomTable) (x1 : ByteArray) : Option (List Antiphonref12Peer) :=
  need (KeysB (keysM x0.fPeers)) <|
  ((loopF (gRoomTableIn.loop1 x0 x1) (0, [])).bind fun f => flC f fun (v1 : List Antiphonref12Peer) =>
    some v1
  )

noncomputable def gRoomTableLeave (x0 : RoomTable) (x1 : Int) : Option (Int × RoomTable) :=
  bif (notB (hasM eqI x1 x0.fPeers)) then (
    some (8, x0)
  ) else (
    some (0, (RoomTable.mk (delM eqI x1 x0.fPeers) x0.fNext))
  )

noncomputable def gRoomTableTogether (x0 : RoomTable) (x1 : Int) (x2 : Int) : Option Bool :=
  need (Under (pickB (pickB (hasM eqI x1 x0.fPeers) (hasM eqI x2 x0.fPeers) false) (neI x1 x2) false) true ((gLabelSame ((getM eqI x1 (Antiphonref12Peer.mk 0 ⟨⟨[]⟩⟩ ⟨⟨[]⟩⟩) x0.fPeers).fRoom) ((getM eqI x2 (Antiphonref12Peer.mk 0 ⟨⟨[]⟩⟩ ⟨⟨[]⟩⟩) x0.fPeers).fRoom)).isSome = true)) <|
  some (pickB (pickB (pickB (hasM eqI x1 x0.fPeers) (hasM eqI x2 x0.fPeers) false) (neI x1 x2) false) ((gLabelSame ((getM eqI x1 (Antiphonref12Peer.mk 0 ⟨⟨[]⟩⟩ ⟨⟨[]⟩⟩) x0.fPeers).fRoom) ((getM eqI x2 (Antiphonref12Peer.mk 0 ⟨⟨[]⟩⟩ ⟨⟨[]⟩⟩) x0.fPeers).fRoom)).getD dflt) false)
end Go.Proofs
end
section
namespace Go.Proofs
open Go.Ab
noncomputable def gRef12Find.loop1 (x0 : Antiphonref12Table) (x1 : Int) (s1 : Int) : Option (Fl Int (Fl Unit (Antiphonref12Peer × Bool))) :=
  bif (ltI s1 (lenL x0.fL)) then (
    need (InB s1 (lenL x0.fL)) <|
    bif (eqI ((nthI x0.fL s1).fN) x1) then (
      some (.out (.out ((nthI x0.fL s1), true)))
    ) else (
      some (.go (addI .i64 s1 1))
    )
  ) else (
    some (.out (.go ()))
  )

noncomputable def gRef12Find (x0 : Antiphonref12Table) (x1 : Int) : Option (Antiphonref12Peer × Bool) :=
  ((loopF (gRef12Find.loop1 x0 x1) 0).bind fun f => flC f fun (_v1 : Unit) =>
    some ((Antiphonref12Peer.mk 0 ⟨#[]⟩ ⟨#[]⟩), false)
  )

noncomputable def gRef12In.loop1 (x0 : Antiphonref12Table) (x1 : ByteArray) (s1 : Int × List Antiphonref12Peer) : Option (Fl (Int × List Antiphonref12Peer) (Fl (List Antiphonref12Peer) (List Antiphonref12Peer))) :=
  bif (ltI s1.1 (lenL x0.fL)) then (
    need (InB s1.1 (lenL x0.fL)) <|
    ((gRef06Fold ((nthI x0.fL s1.1).fRoom))).bind fun r1 =>
    ((gRef06Fold x1)).bind fun r2 =>
    bif (eqS r1 r2) then (
      need (AppB (lenL s1.2) 1 40) <|
      some (.go ((addI .i64 s1.1 1), (appL s1.2 [(nthI x0.fL s1.1)])))
    ) else (
      some (.go ((addI .i64 s1.1 1), s1.2))
    )
  ) else (
    some (.out (.go s1.2))
  )

noncomputable def gRef12In (x0 : Antiphonref12Table) (x1 : ByteArray) : Option (List Antiphonref12Peer) :=
  ((loopF (gRef12In.loop1 x0 x1) (0, [])).bind fun f => flC f fun (v1 : List Antiphonref12Peer) =>
    some v1
  )

noncomputable def gRef12Rooms.loop1 (x0 : Antiphonref12Table) (s1 : Int × List ByteArray) : Option (Fl (Int × List ByteArray) (Fl (List ByteArray) (List ByteArray))) :=
  bif (ltI s1.1 (lenL x0.fL)) then (
    need (InB s1.1 (lenL x0.fL)) <|
    need (CutB 0 s1.1 (lenL x0.fL)) <|
    ((gRef12In (Antiphonref12Table.mk (cutL x0.fL 0 s1.1) 0) ((nthI x0.fL s1.1).fRoom))).bind fun r1 =>
    bif (eqI (lenL r1) 0) then (
      ((gRef06Fold ((nthI x0.fL s1.1).fRoom))).bind fun r2 =>
      need (AppB (lenL s1.2) 1 16) <|
      some (.go ((addI .i64 s1.1 1), (appL s1.2 [r2])))
    ) else (
      some (.go ((addI .i64 s1.1 1), s1.2))
    )
  ) else (
    some (.out (.go s1.2))
  )

noncomputable def gRef12Rooms (x0 : Antiphonref12Table) : Option (List ByteArray) :=
  ((loopF (gRef12Rooms.loop1 x0) (0, [])).bind fun f => flC f fun (v1 : List ByteArray) =>
    some v1
  )

noncomputable def gRef12Join.loop1 (x0 : Antiphonref12Table) (x2 : ByteArray) (r2 : List Antiphonref12Peer) (s1 : Int) : Option (Fl Int (Fl Unit (Antiphonref12Table × Int × Int))) :=
  bif (ltI s1 (lenL r2)) then (
    need (InB s1 (lenL r2)) <|
    ((gRef06Fold ((nthI r2 s1).fName))).bind fun r3 =>
    ((gRef06Fold x2)).bind fun r4 =>
    bif (eqS r3 r4) then (
      some (.out (.out (x0, 0, 10)))
    ) else (
      some (.go (addI .i64 s1 1))
    )
  ) else (
    some (.out (.go ()))
  )

noncomputable def gRef12Join (x0 : Antiphonref12Table) (x1 : ByteArray) (x2 : ByteArray) : Option (Antiphonref12Table × Int × Int) :=
  ((gRef06Good x1)).bind fun r1 =>
  need (Under (notB r1) false ((gRef06Good x2).isSome = true)) <|
  bif (pickB (notB r1) true (notB ((gRef06Good x2).getD dflt))) then (
    some (x0, 0, 6)
  ) else (
    ((gRef12In x0 x1)).bind fun r2 =>
    ((loopF (gRef12Join.loop1 x0 x2 r2) 0).bind fun f => flC f fun (_v1 : Unit) =>
      need (Under (eqI (lenL r2) 0) true (Under (leqI 16 (lenL r2)) false ((gRef12Rooms x0).isSome = true))) <|
      bif (pickB (pickB (leqI 16 (lenL r2)) true (pickB (eqI (lenL r2) 0) (leqI 8 (lenL ((gRef12Rooms x0).getD dflt))) false)) true (ltI 65535 x0.fNext)) then (
        some (x0, 0, 11)
      ) else (
        need (AppB 0 (lenL x0.fL) 40) <|
        need (AppB (lenL x0.fL) 1 40) <|
        some ((Antiphonref12Table.mk (appL (appL [] x0.fL) [(Antiphonref12Peer.mk x0.fNext x2 x1)]) (addI .i64 x0.fNext 1)), x0.fNext, 0)
      )
    )
  )

noncomputable def gRef12Leave.loop1 (x0 : Antiphonref12Table) (x1 : Int) (s1 : Int × List Antiphonref12Peer) : Option (Fl (Int × List Antiphonref12Peer) (Fl (List Antiphonref12Peer) (Antiphonref12Table × Int))) :=
  bif (ltI s1.1 (lenL x0.fL)) then (
    need (InB s1.1 (lenL x0.fL)) <|
    bif (neI ((nthI x0.fL s1.1).fN) x1) then (
      need (AppB (lenL s1.2) 1 40) <|
      some (.go ((addI .i64 s1.1 1), (appL s1.2 [(nthI x0.fL s1.1)])))
    ) else (
      some (.go ((addI .i64 s1.1 1), s1.2))
    )
  ) else (
    some (.out (.go s1.2))
  )

noncomputable def gRef12Leave (x0 : Antiphonref12Table) (x1 : Int) : Option (Antiphonref12Table × Int) :=
  ((loopF (gRef12Leave.loop1 x0 x1) (0, [])).bind fun f => flC f fun (v1 : List Antiphonref12Peer) =>
    bif (eqI (lenL v1) (lenL x0.fL)) then (
      some (x0, 8)
    ) else (
      some ((Antiphonref12Table.mk v1 x0.fNext), 0)
    )
  )

noncomputable def gRef12Together (x0 : Antiphonref12Table) (x1 : Int) (x2 : Int) : Option Bool :=
  ((gRef12Find x0 x1)).bind fun r1 =>
  ((gRef12Find x0 x2)).bind fun r2 =>
  need (Under (pickB (pickB r1.2 r2.2 false) (neI x1 x2) false) true ((gRef06Fold r1.1.fRoom).isSome = true)) <|
  need (Under (pickB (pickB r1.2 r2.2 false) (neI x1 x2) false) true ((gRef06Fold r2.1.fRoom).isSome = true)) <|
  some (pickB (pickB (pickB r1.2 r2.2 false) (neI x1 x2) false) (eqS ((gRef06Fold r1.1.fRoom).getD dflt) ((gRef06Fold r2.1.fRoom).getD dflt)) false)
end Go.Proofs
end
section
namespace Go.Proofs
open Go.Ab
noncomputable def gRoomTableJoin1 (x0 : Antiphonref12Peer) (x1 : ByteArray) : Option Bool :=
  ((gLabelSame x0.fName x1)).bind fun r1 =>
  some r1

noncomputable def gSlicesIndexFuncRoomPeerRoomPeerAtRoomTableJoin1.loop1 (x0 : List Antiphonref12Peer) (x1c0 : ByteArray) (s1 : Int) : Option (Fl Int (Fl Unit Int)) :=
  bif (ltI s1 (lenL x0)) then (
    need (InB s1 (lenL x0)) <|
    ((gRoomTableJoin1 (nthI x0 s1) x1c0)).bind fun r1 =>
    bif r1 then (
      some (.out (.out s1))
    ) else (
      some (.go (addI .i64 s1 1))
    )
  ) else (
    some (.out (.go ()))
  )

noncomputable def gSlicesIndexFuncRoomPeerRoomPeerAtRoomTableJoin1 (x0 : List Antiphonref12Peer) (x1c0 : ByteArray) : Option Int :=
  ((loopF (gSlicesIndexFuncRoomPeerRoomPeerAtRoomTableJoin1.loop1 x0 x1c0) 0).bind fun f => flC f fun (_v1 : Unit) =>
    some (-1)
  )

noncomputable def gSlicesContainsFuncRoomPeerRoomPeerAtRoomTableJoin1 (x0 : List Antiphonref12Peer) (x1c0 : ByteArray) : Option Bool :=
  ((gSlicesIndexFuncRoomPeerRoomPeerAtRoomTableJoin1 x0 x1c0)).bind fun r1 =>
  some (leqI 0 r1)

noncomputable def gRoomTableJoin (x0 : RoomTable) (x1 : ByteArray) (x2 : ByteArray) : Option (Int × Int × RoomTable) :=
  ((gLabelCheck x1)).bind fun r1 =>
  need (Under (neI r1 0) false ((gLabelCheck x2).isSome = true)) <|
  bif (pickB (neI r1 0) true (neI ((gLabelCheck x2).getD dflt) 0)) then (
    some (0, 6, x0)
  ) else (
    ((gRoomTableIn x0 x1)).bind fun r2 =>
    ((
      ((gSlicesContainsFuncRoomPeerRoomPeerAtRoomTableJoin1 r2 x2)).bind fun r3 =>
      bif r3 then (
        some (.out (0, 10, x0))
      ) else (
        ((
          bif (leqI 16 (lenL r2)) then (
            some (.go true)
          ) else (
            need (Under (eqI (lenL r2) 0) true ((gRoomTableRooms x0).isSome = true)) <|
            bif (pickB (eqI (lenL r2) 0) (leqI 8 (lenL ((gRoomTableRooms x0).getD dflt))) false) then (
              some (.go true)
            ) else (
              some (.go (ltI 65535 x0.fNext))
            )
          )
          : Option (Fl Bool (Fl Unit (Int × Int × RoomTable)))).bind fun f => flC f fun (v2 : Bool) =>
          bif v2 then (
            some (.out (0, 11, x0))
          ) else (
            some (.go ())
          )
        )
      )
      : Option (Fl Unit (Int × Int × RoomTable))).bind fun f => flC f fun (_v1 : Unit) =>
      some (x0.fNext, 0, (RoomTable.mk (setM eqI x0.fNext (Antiphonref12Peer.mk x0.fNext x2 x1) x0.fPeers) (addI .i64 x0.fNext 1)))
    )
  )
end Go.Proofs
end
