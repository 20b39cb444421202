/- What these functions compute, as plain functions. No condition. -/
import Derived.Test.YtijaigjfacfhnaaDoorM10
import Derived.Test.YtijaigjfacfhnaaDoorM02
import Derived.Test.YtijaigjfacfhnaaDoorM09
import Derived.Test.YtijaigjfacfhnaaDoorM06
section
namespace Go.Proofs
open Go.Ab
noncomputable def gRef07Names (x0 : Antiphonref02Reader) (x1 : Antiphonref07Command) : Option (Antiphonref02Reader × Antiphonref07Command) :=
  ((gRef02Take x0 1)).bind fun r1 =>
  ((gRef02Bytes r1.1 (cvtI .i64 r1.2))).bind fun r2 =>
  ((gRef02Take r2.1 1)).bind fun r3 =>
  ((gRef02Bytes r3.1 (cvtI .i64 r3.2))).bind fun r4 =>
  some (r4.1, (Antiphonref07Command.mk x1.fKind r2.2 r4.2 x1.fPeer x1.fOf x1.fTrack x1.fLayer x1.fOn x1.fVideo x1.fSsrcs))

noncomputable def gRef07Truth (x0 : Antiphonref02Reader) : Option (Antiphonref02Reader × Bool) :=
  ((gRef02Take x0 1)).bind fun r1 =>
  bif (ltI 1 r1.2) then (
    ((gRef02Fail r1.1 2)).bind fun r2 =>
    some (r2, false)
  ) else (
    some (r1.1, (eqI r1.2 1))
  )

noncomputable def gRef07Last.loop4 (r4 : Antiphonref02Reader × Int) (s4 : Int × List Int × Antiphonref02Reader) : Option (Fl (Int × List Int × Antiphonref02Reader) (Fl (List Int × Antiphonref02Reader) (Fl (Bool × List Int × Antiphonref02Reader × Bool) (Antiphonref02Reader × Antiphonref07Command)))) :=
  bif (ltI s4.1 (cvtI .i64 r4.2)) then (
    ((gRef02Take s4.2.2 4)).bind fun r5 =>
    need (AppB (lenL s4.2.1) 1 4) <|
    some (.go ((addI .i64 s4.1 1), (appL s4.2.1 [(cvtI .u32 r5.2)]), r5.1))
  ) else (
    some (.out (.go (s4.2.1, s4.2.2)))
  )

noncomputable def gRef07Last (x0 : Antiphonref02Reader) (x1 : Antiphonref07Command) (k1 : Bool) : Option (Antiphonref02Reader × Antiphonref07Command) :=
  ((
    bif (eqI x1.fKind 5) then (
      ((gRef02Take x0 1)).bind fun r1 =>
      some (.go ((cvtI .i64 r1.2), r1.1))
    ) else (
      some (.go (x1.fLayer, x0))
    )
    : Option (Fl (Int × Antiphonref02Reader) (Antiphonref02Reader × Antiphonref07Command))).bind fun f => flC f fun (v1 : Int × Antiphonref02Reader) =>
    ((
      bif (leqI 7 x1.fKind) then (
        ((gRef07Truth v1.2)).bind fun r2 =>
        some (.go (r2.2, r2.1))
      ) else (
        some (.go (x1.fOn, v1.2))
      )
      : Option (Fl (Bool × Antiphonref02Reader) (Antiphonref02Reader × Antiphonref07Command))).bind fun f => flC f fun (v2 : Bool × Antiphonref02Reader) =>
      ((
        bif (eqI x1.fKind 3) then (
          ((gRef07Truth v2.2)).bind fun r3 =>
          ((gRef02Take r3.1 1)).bind fun r4 =>
          need (k1 = true) <|
          ((loopF (gRef07Last.loop4 r4) (0, x1.fSsrcs, r4.1)).bind fun f => flC f fun (v4 : List Int × Antiphonref02Reader) =>
            some (.go (r3.2, v4.1, v4.2, false))
          )
        ) else (
          some (.go (x1.fVideo, x1.fSsrcs, v2.2, k1))
        )
        : Option (Fl (Bool × List Int × Antiphonref02Reader × Bool) (Antiphonref02Reader × Antiphonref07Command))).bind fun f => flC f fun (v3 : Bool × List Int × Antiphonref02Reader × Bool) =>
        some (v3.2.2.1, (Antiphonref07Command.mk x1.fKind x1.fRoom x1.fName x1.fPeer x1.fOf x1.fTrack v1.1 v2.1 v3.1 v3.2.1))
      )
    )
  )

noncomputable def gRef07Parts (x0 : Antiphonref02Reader) (x1 : Antiphonref07Command) (k1 : Bool) : Option (Antiphonref02Reader × Antiphonref07Command) :=
  bif (eqI x1.fKind 1) then (
    ((gRef07Names x0 x1)).bind fun r1 =>
    some (r1.1, r1.2)
  ) else (
    ((gRef02Take x0 2)).bind fun r2 =>
    ((
      ((gRef07Of x1.fKind)).bind fun r3 =>
      bif r3 then (
        ((gRef02Take r2.1 2)).bind fun r4 =>
        some (.go ((cvtI .i64 r4.2), r4.1))
      ) else (
        some (.go (x1.fOf, r2.1))
      )
      : Option (Fl (Int × Antiphonref02Reader) (Antiphonref02Reader × Antiphonref07Command))).bind fun f => flC f fun (v1 : Int × Antiphonref02Reader) =>
      ((
        ((gRef07Track x1.fKind)).bind fun r5 =>
        bif r5 then (
          ((gRef02Take v1.2 1)).bind fun r6 =>
          some (.go ((cvtI .i64 r6.2), r6.1))
        ) else (
          some (.go (x1.fTrack, v1.2))
        )
        : Option (Fl (Int × Antiphonref02Reader) (Antiphonref02Reader × Antiphonref07Command))).bind fun f => flC f fun (v2 : Int × Antiphonref02Reader) =>
        ((gRef07Last v2.2 (Antiphonref07Command.mk x1.fKind x1.fRoom x1.fName (cvtI .i64 r2.2) v1.1 v2.1 x1.fLayer x1.fOn x1.fVideo x1.fSsrcs) k1)).bind fun r7 =>
        some (r7.1, r7.2)
      )
    )
  )

noncomputable def gRef07Parse (x0 : ByteArray) : Option (Antiphonref07Command × Int) :=
  ((gRef02Take (Antiphonref02Reader.mk x0 0) 1)).bind fun r1 =>
  bif (neI r1.1.fE 0) then (
    some ((Antiphonref07Command.mk 0 ⟨#[]⟩ ⟨#[]⟩ 0 0 0 0 false false []), r1.1.fE)
  ) else (
    bif (pickB (ltI r1.2 1) true (ltI 8 r1.2)) then (
      some ((Antiphonref07Command.mk 0 ⟨#[]⟩ ⟨#[]⟩ 0 0 0 0 false false []), 3)
    ) else (
      ((gRef07Parts r1.1 (Antiphonref07Command.mk (cvtI .i64 r1.2) ⟨#[]⟩ ⟨#[]⟩ 0 0 0 0 false false []) true)).bind fun r2 =>
      ((gRef02End r2.1)).bind fun r3 =>
      bif (neI r3 0) then (
        some ((Antiphonref07Command.mk 0 ⟨#[]⟩ ⟨#[]⟩ 0 0 0 0 false false []), r3)
      ) else (
        ((gRef07Check r2.2)).bind fun r4 =>
        bif (neI r4 0) then (
          some ((Antiphonref07Command.mk 0 ⟨#[]⟩ ⟨#[]⟩ 0 0 0 0 false false []), r4)
        ) else (
          some (r2.2, 0)
        )
      )
    )
  )
end Go.Proofs
end
section
namespace Go.Proofs
open Go.Ab
noncomputable def gLaw07ControlKinds (x0 : Int) (x1 : Int) : Option Bool :=
  need (NonZ 8) <|
  ((
    bif (eqI (addI .i64 1 (remI (bitsOp .and .i64 x0 255) 8)) 1) then (
      some (.go (⟨#[97]⟩, ⟨#[98]⟩))
    ) else (
      some (.go (⟨#[]⟩, ⟨#[]⟩))
    )
    : Option (Fl (ByteArray × ByteArray) Bool)).bind fun f => flC f fun (v1 : ByteArray × ByteArray) =>
    ((
      bif (eqI (addI .i64 1 (remI (bitsOp .and .i64 x0 255) 8)) 3) then (
        some (.go [1])
      ) else (
        some (.go [])
      )
      : Option (Fl (List Int) Bool)).bind fun f => flC f fun (v2 : List Int) =>
      (gLaw07Awake).bind fun r1 =>
      need (Under (notB r1) false ((gControlCommandCheck (Antiphonref07Command.mk (addI .i64 1 (remI (bitsOp .and .i64 x0 255) 8)) v1.1 v1.2 0 0 0 0 false false v2)).isSome = true)) <|
      bif (pickB (notB r1) true (neI ((gControlCommandCheck (Antiphonref07Command.mk (addI .i64 1 (remI (bitsOp .and .i64 x0 255) 8)) v1.1 v1.2 0 0 0 0 false false v2)).getD dflt) 0)) then (
        some false
      ) else (
        ((
          need (NonZ 6) <|
          bif (eqI (remI (bitsOp .and .i64 x1 255) 6) 0) then (
            some (.go ((neI (addI .i64 1 (remI (bitsOp .and .i64 x0 255) 8)) 1), 1, 0, 0, 0, false, false))
          ) else (
            bif (eqI (remI (bitsOp .and .i64 x1 255) 6) 1) then (
              some (.go ((pickB (pickB (eqI (addI .i64 1 (remI (bitsOp .and .i64 x0 255) 8)) 5) true (eqI (addI .i64 1 (remI (bitsOp .and .i64 x0 255) 8)) 6)) true (eqI (addI .i64 1 (remI (bitsOp .and .i64 x0 255) 8)) 8)), 0, 1, 0, 0, false, false))
            ) else (
              bif (eqI (remI (bitsOp .and .i64 x1 255) 6) 2) then (
                some (.go ((pickB (neI (addI .i64 1 (remI (bitsOp .and .i64 x0 255) 8)) 1) (neI (addI .i64 1 (remI (bitsOp .and .i64 x0 255) 8)) 2) false), 0, 0, 1, 0, false, false))
              ) else (
                bif (eqI (remI (bitsOp .and .i64 x1 255) 6) 3) then (
                  some (.go ((eqI (addI .i64 1 (remI (bitsOp .and .i64 x0 255) 8)) 5), 0, 0, 0, 1, false, false))
                ) else (
                  bif (eqI (remI (bitsOp .and .i64 x1 255) 6) 4) then (
                    some (.go ((pickB (eqI (addI .i64 1 (remI (bitsOp .and .i64 x0 255) 8)) 7) true (eqI (addI .i64 1 (remI (bitsOp .and .i64 x0 255) 8)) 8)), 0, 0, 0, 0, true, false))
                  ) else (
                    bif (eqI (remI (bitsOp .and .i64 x1 255) 6) 5) then (
                      some (.go ((eqI (addI .i64 1 (remI (bitsOp .and .i64 x0 255) 8)) 3), 0, 0, 0, 0, false, true))
                    ) else (
                      some (.go (true, 0, 0, 0, 0, false, false))
                    )
                  )
                )
              )
            )
          )
          : Option (Fl (Bool × Int × Int × Int × Int × Bool × Bool) Bool)).bind fun f => flC f fun (v3 : Bool × Int × Int × Int × Int × Bool × Bool) =>
          bif (notB v3.1) then (
            ((gControlCommandCheck (Antiphonref07Command.mk (addI .i64 1 (remI (bitsOp .and .i64 x0 255) 8)) v1.1 v1.2 v3.2.1 v3.2.2.1 v3.2.2.2.1 v3.2.2.2.2.1 v3.2.2.2.2.2.1 v3.2.2.2.2.2.2 v2))).bind fun r2 =>
            some (eqI r2 2)
          ) else (
            ((gControlCommandText (Antiphonref07Command.mk (addI .i64 1 (remI (bitsOp .and .i64 x0 255) 8)) v1.1 v1.2 v3.2.1 v3.2.2.1 v3.2.2.2.1 v3.2.2.2.2.1 v3.2.2.2.2.2.1 v3.2.2.2.2.2.2 v2))).bind fun r3 =>
            ((gControlParse r3)).bind fun r4 =>
            ((gControlCommandCheck (Antiphonref07Command.mk (addI .i64 1 (remI (bitsOp .and .i64 x0 255) 8)) v1.1 v1.2 v3.2.1 v3.2.2.1 v3.2.2.2.1 v3.2.2.2.2.1 v3.2.2.2.2.2.1 v3.2.2.2.2.2.2 v2))).bind fun r5 =>
            need (Under (pickB (eqI r5 0) (eqI r4.2 0) false) true ((gLaw07Told (Antiphonref07Command.mk (addI .i64 1 (remI (bitsOp .and .i64 x0 255) 8)) v1.1 v1.2 v3.2.1 v3.2.2.1 v3.2.2.2.1 v3.2.2.2.2.1 v3.2.2.2.2.2.1 v3.2.2.2.2.2.2 v2)).isSome = true)) <|
            need (Under (pickB (eqI r5 0) (eqI r4.2 0) false) true ((gLaw07Same r4.1 ((gLaw07Told (Antiphonref07Command.mk (addI .i64 1 (remI (bitsOp .and .i64 x0 255) 8)) v1.1 v1.2 v3.2.1 v3.2.2.1 v3.2.2.2.1 v3.2.2.2.2.1 v3.2.2.2.2.2.1 v3.2.2.2.2.2.2 v2)).getD dflt)).isSome = true)) <|
            some (pickB (pickB (eqI r5 0) (eqI r4.2 0) false) (eqI ((gLaw07Same r4.1 ((gLaw07Told (Antiphonref07Command.mk (addI .i64 1 (remI (bitsOp .and .i64 x0 255) 8)) v1.1 v1.2 v3.2.1 v3.2.2.1 v3.2.2.2.1 v3.2.2.2.2.1 v3.2.2.2.2.2.1 v3.2.2.2.2.2.2 v2)).getD dflt)).getD dflt) 0) false)
          )
        )
      )
    )
  )
end Go.Proofs
end
