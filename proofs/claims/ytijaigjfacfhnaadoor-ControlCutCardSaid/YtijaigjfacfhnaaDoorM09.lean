/- What these functions compute, as plain functions. No condition. -/
import Derived.Test.YtijaigjfacfhnaaDoorM10
import Derived.Test.YtijaigjfacfhnaaDoorM02
import Derived.Test.YtijaigjfacfhnaaDoorM05
section
namespace Go.Proofs
open Go.Ab
noncomputable def gControlHas (x0 : Int) : Option ByteArray :=
  bif (eqI x0 1) then (
    some ⟨#[114]⟩
  ) else (
    bif (eqI x0 2) then (
      some ⟨#[112]⟩
    ) else (
      bif (eqI x0 3) then (
        some ⟨#[112, 116, 115]⟩
      ) else (
        bif (eqI x0 4) then (
          some ⟨#[112, 116]⟩
        ) else (
          bif (eqI x0 5) then (
            some ⟨#[112, 111, 116, 108]⟩
          ) else (
            bif (eqI x0 6) then (
              some ⟨#[112, 111, 116]⟩
            ) else (
              bif (eqI x0 7) then (
                some ⟨#[112, 116, 98]⟩
              ) else (
                bif (eqI x0 8) then (
                  some ⟨#[112, 111, 116, 98]⟩
                ) else (
                  some ⟨#[]⟩
                )
              )
            )
          )
        )
      )
    )
  )

noncomputable def gControlPart.loop1 (x1 : Int) (r1 : ByteArray) (s1 : Nat) : Option (Fl Nat (Fl Unit Bool)) :=
  bif (nextB r1 s1) then (
    bif (eqI (runeS r1 s1) x1) then (
      some (.out (.out true))
    ) else (
      some (.go (stepS r1 s1))
    )
  ) else (
    some (.out (.go ()))
  )

noncomputable def gControlPart (x0 : Int) (x1 : Int) : Option Bool :=
  ((gControlHas x0)).bind fun r1 =>
  ((loopF (gControlPart.loop1 x1 r1) 0).bind fun f => flC f fun (_v1 : Unit) =>
    some false
  )

noncomputable def gControlPeer (x0 : Int) : Option Bool :=
  some (pickB (leqI 0 x0) (leqI x0 65535) false)

noncomputable def gControlCommandEmpty (x0 : Antiphonref07Command) : Option Bool :=
  ((
    ((
      ((gControlPart x0.fKind 114)).bind fun r1 =>
      need (Under (notB r1) true (CatB x0.fRoom x0.fName)) <|
      bif (pickB (notB r1) (neS (catS x0.fRoom x0.fName) ⟨#[]⟩) false) then (
        some (.go true)
      ) else (
        ((gControlPart x0.fKind 112)).bind fun r2 =>
        bif (pickB (notB r2) (neI x0.fPeer 0) false) then (
          some (.go true)
        ) else (
          ((gControlPart x0.fKind 111)).bind fun r3 =>
          bif (pickB (notB r3) (neI x0.fOf 0) false) then (
            some (.go true)
          ) else (
            ((gControlPart x0.fKind 116)).bind fun r4 =>
            some (.go (pickB (notB r4) (neI x0.fTrack 0) false))
          )
        )
      )
      : Option (Fl Bool (Fl Unit Bool))).bind fun f => flC f fun (v2 : Bool) =>
      bif v2 then (
        some (.out false)
      ) else (
        ((
          ((gControlPart x0.fKind 108)).bind fun r5 =>
          bif (pickB (notB r5) (neI x0.fLayer 0) false) then (
            some (.go true)
          ) else (
            ((gControlPart x0.fKind 98)).bind fun r6 =>
            bif (pickB (notB r6) x0.fOn false) then (
              some (.go true)
            ) else (
              ((gControlPart x0.fKind 115)).bind fun r7 =>
              some (.go (pickB (notB r7) (pickB x0.fVideo true (ltI 0 (lenL x0.fSsrcs))) false))
            )
          )
          : Option (Fl Bool (Fl Unit Bool))).bind fun f => flC f fun (v3 : Bool) =>
          bif v3 then (
            some (.out false)
          ) else (
            some (.go ())
          )
        )
      )
    )
    : Option (Fl Unit Bool)).bind fun f => flC f fun (_v1 : Unit) =>
    some true
  )

noncomputable def gControlCommandSources.loop2 (x0 : Antiphonref07Command) (s1 : Int) (s2 : Int) : Option (Fl Int (Fl Unit (Fl Int (Fl Unit Int)))) :=
  bif (ltI s2 (lenL (cutL x0.fSsrcs 0 s1))) then (
    need (InB s2 (lenL (cutL x0.fSsrcs 0 s1))) <|
    bif (eqI (nthI x0.fSsrcs s1) (nthI (cutL x0.fSsrcs 0 s1) s2)) then (
      some (.out (.out (.out (.out 10))))
    ) else (
      some (.go (addI .i64 s2 1))
    )
  ) else (
    some (.out (.go ()))
  )

noncomputable def gControlCommandSources.loop1 (x0 : Antiphonref07Command) (s1 : Int) : Option (Fl Int (Fl Unit Int)) :=
  bif (ltI s1 (lenL x0.fSsrcs)) then (
    need (InB s1 (lenL x0.fSsrcs)) <|
    need (CutB 0 s1 (lenL x0.fSsrcs)) <|
    ((loopF (gControlCommandSources.loop2 x0 s1) 0).bind fun f => flC f fun (_v2 : Unit) =>
      some (.go (addI .i64 s1 1))
    )
  ) else (
    some (.out (.go ()))
  )

noncomputable def gControlCommandSources (x0 : Antiphonref07Command) : Option Int :=
  bif (pickB (pickB (ltI (lenL x0.fSsrcs) 1) true (ltI 3 (lenL x0.fSsrcs))) true (pickB (ltI 1 (lenL x0.fSsrcs)) (notB x0.fVideo) false)) then (
    some 5
  ) else (
    ((loopF (gControlCommandSources.loop1 x0) 0).bind fun f => flC f fun (_v1 : Unit) =>
      some 0
    )
  )

noncomputable def gControlCommandCheck (x0 : Antiphonref07Command) : Option Int :=
  ((gControlHas x0.fKind)).bind fun r1 =>
  bif (eqS r1 ⟨#[]⟩) then (
    some 3
  ) else (
    ((gControlCommandEmpty x0)).bind fun r2 =>
    bif (notB r2) then (
      some 2
    ) else (
      ((gControlPeer x0.fPeer)).bind fun r3 =>
      need (Under (notB r3) false ((gControlPeer x0.fOf).isSome = true)) <|
      bif (pickB (pickB (pickB (pickB (pickB (notB r3) true (notB ((gControlPeer x0.fOf).getD dflt))) true (ltI x0.fTrack 0)) true (leqI 4 x0.fTrack)) true (ltI x0.fLayer 0)) true (leqI 3 x0.fLayer)) then (
        some 5
      ) else (
        need (Under (eqI x0.fKind 1) true ((gLabelCheck x0.fRoom).isSome = true)) <|
        need (Under (neI ((gLabelCheck x0.fRoom).getD dflt) 0) false (Under (eqI x0.fKind 1) true ((gLabelCheck x0.fName).isSome = true))) <|
        bif (pickB (eqI x0.fKind 1) (pickB (neI ((gLabelCheck x0.fRoom).getD dflt) 0) true (neI ((gLabelCheck x0.fName).getD dflt) 0)) false) then (
          some 6
        ) else (
          bif (eqI x0.fKind 3) then (
            ((gControlCommandSources x0)).bind fun r4 =>
            some r4
          ) else (
            some 0
          )
        )
      )
    )
  )

noncomputable def gControlBit (x0 : Bool) : Option Int :=
  bif x0 then (
    some 1
  ) else (
    some 0
  )

noncomputable def gControlCommandText.loop1 (x0 : Antiphonref07Command) (r1 : ByteArray) (s1 : List Int × Nat) : Option (Fl (List Int × Nat) (Fl (List Int) ByteArray)) :=
  bif (nextB r1 s1.2) then (
    bif (eqI (runeS r1 s1.2) 114) then (
      need (AppB (lenL s1.1) 1 1) <|
      ((gOctetWriterPut (appL s1.1 [(cvtI .u8 (lenS x0.fRoom))]) [x0.fRoom])).bind fun r2 =>
      need (AppB (lenL r2) 1 1) <|
      ((gOctetWriterPut (appL r2 [(cvtI .u8 (lenS x0.fName))]) [x0.fName])).bind fun r3 =>
      some (.go (r3, (stepS r1 s1.2)))
    ) else (
      bif (eqI (runeS r1 s1.2) 112) then (
        ((gOctetWriterU16 s1.1 [(cvtI .u16 x0.fPeer)])).bind fun r4 =>
        some (.go (r4, (stepS r1 s1.2)))
      ) else (
        bif (eqI (runeS r1 s1.2) 111) then (
          ((gOctetWriterU16 s1.1 [(cvtI .u16 x0.fOf)])).bind fun r5 =>
          some (.go (r5, (stepS r1 s1.2)))
        ) else (
          bif (eqI (runeS r1 s1.2) 116) then (
            need (AppB (lenL s1.1) 1 1) <|
            some (.go ((appL s1.1 [(cvtI .u8 x0.fTrack)]), (stepS r1 s1.2)))
          ) else (
            bif (eqI (runeS r1 s1.2) 108) then (
              need (AppB (lenL s1.1) 1 1) <|
              some (.go ((appL s1.1 [(cvtI .u8 x0.fLayer)]), (stepS r1 s1.2)))
            ) else (
              bif (eqI (runeS r1 s1.2) 98) then (
                ((gControlBit x0.fOn)).bind fun r6 =>
                need (AppB (lenL s1.1) 1 1) <|
                some (.go ((appL s1.1 [r6]), (stepS r1 s1.2)))
              ) else (
                bif (eqI (runeS r1 s1.2) 115) then (
                  ((gControlBit x0.fVideo)).bind fun r7 =>
                  need (AppB (lenL s1.1) 2 1) <|
                  ((gOctetWriterU32 (appL s1.1 [r7, (cvtI .u8 (lenL x0.fSsrcs))]) x0.fSsrcs)).bind fun r8 =>
                  some (.go (r8, (stepS r1 s1.2)))
                ) else (
                  some (.go (s1.1, (stepS r1 s1.2)))
                )
              )
            )
          )
        )
      )
    )
  ) else (
    some (.out (.go s1.1))
  )

noncomputable def gControlCommandText (x0 : Antiphonref07Command) : Option ByteArray :=
  need (AppB 0 1 1) <|
  ((gControlHas x0.fKind)).bind fun r1 =>
  ((loopF (gControlCommandText.loop1 x0 r1) ((appL [] [(cvtI .u8 x0.fKind)]), 0)).bind fun f => flC f fun (v1 : List Int) =>
    need (TextB v1) <|
    some (strOfNums v1)
  )
end Go.Proofs
end
section
namespace Go.Proofs
open Go.Ab
noncomputable def gRef07Peer (x0 : Int) : Option Bool :=
  some (pickB (leqI 2 x0) (leqI x0 8) false)

noncomputable def gRef07Of (x0 : Int) : Option Bool :=
  some (pickB (pickB (eqI x0 5) true (eqI x0 6)) true (eqI x0 8))

noncomputable def gRef07Track (x0 : Int) : Option Bool :=
  some (pickB (leqI 3 x0) (leqI x0 8) false)

noncomputable def gRef07Good (x0 : Int) : Option Bool :=
  some (pickB (leqI 0 x0) (leqI x0 65535) false)

noncomputable def gRef07Sources.loop2 (x0 : Antiphonref07Command) (s1 : Int) (s2 : Int) : Option (Fl Int (Fl Unit (Fl Int (Fl Unit Int)))) :=
  bif (ltI s2 s1) then (
    need (InB s1 (lenL x0.fSsrcs)) <|
    need (InB s2 (lenL x0.fSsrcs)) <|
    bif (eqI (nthI x0.fSsrcs s1) (nthI x0.fSsrcs s2)) then (
      some (.out (.out (.out (.out 10))))
    ) else (
      some (.go (addI .i64 s2 1))
    )
  ) else (
    some (.out (.go ()))
  )

noncomputable def gRef07Sources.loop1 (x0 : Antiphonref07Command) (s1 : Int) : Option (Fl Int (Fl Unit Int)) :=
  bif (ltI s1 (lenL x0.fSsrcs)) then (
    ((loopF (gRef07Sources.loop2 x0 s1) 0).bind fun f => flC f fun (_v2 : Unit) =>
      some (.go (addI .i64 s1 1))
    )
  ) else (
    some (.out (.go ()))
  )

noncomputable def gRef07Sources (x0 : Antiphonref07Command) : Option Int :=
  bif (pickB (pickB (ltI (lenL x0.fSsrcs) 1) true (ltI 3 (lenL x0.fSsrcs))) true (pickB (ltI 1 (lenL x0.fSsrcs)) (notB x0.fVideo) false)) then (
    some 5
  ) else (
    ((loopF (gRef07Sources.loop1 x0) 0).bind fun f => flC f fun (_v1 : Unit) =>
      some 0
    )
  )

noncomputable def gRef07Check (x0 : Antiphonref07Command) : Option Int :=
  bif (pickB (ltI x0.fKind 1) true (ltI 8 x0.fKind)) then (
    some 3
  ) else (
    need (Under (pickB (neI x0.fKind 1) (pickB (neS x0.fRoom ⟨#[]⟩) true (neS x0.fName ⟨#[]⟩)) false) false ((gRef07Peer x0.fKind).isSome = true)) <|
    need (Under (pickB (pickB (neI x0.fKind 1) (pickB (neS x0.fRoom ⟨#[]⟩) true (neS x0.fName ⟨#[]⟩)) false) true (pickB (notB ((gRef07Peer x0.fKind).getD dflt)) (neI x0.fPeer 0) false)) false ((gRef07Of x0.fKind).isSome = true)) <|
    need (Under (pickB (pickB (pickB (neI x0.fKind 1) (pickB (neS x0.fRoom ⟨#[]⟩) true (neS x0.fName ⟨#[]⟩)) false) true (pickB (notB ((gRef07Peer x0.fKind).getD dflt)) (neI x0.fPeer 0) false)) true (pickB (notB ((gRef07Of x0.fKind).getD dflt)) (neI x0.fOf 0) false)) false ((gRef07Track x0.fKind).isSome = true)) <|
    bif (pickB (pickB (pickB (pickB (neI x0.fKind 1) (pickB (neS x0.fRoom ⟨#[]⟩) true (neS x0.fName ⟨#[]⟩)) false) true (pickB (notB ((gRef07Peer x0.fKind).getD dflt)) (neI x0.fPeer 0) false)) true (pickB (notB ((gRef07Of x0.fKind).getD dflt)) (neI x0.fOf 0) false)) true (pickB (notB ((gRef07Track x0.fKind).getD dflt)) (neI x0.fTrack 0) false)) then (
      some 2
    ) else (
      bif (pickB (pickB (pickB (neI x0.fKind 5) (neI x0.fLayer 0) false) true (pickB (pickB (neI x0.fKind 7) (neI x0.fKind 8) false) x0.fOn false)) true (pickB (neI x0.fKind 3) (pickB x0.fVideo true (ltI 0 (lenL x0.fSsrcs))) false)) then (
        some 2
      ) else (
        ((gRef07Good x0.fPeer)).bind fun r1 =>
        need (Under (notB r1) false ((gRef07Good x0.fOf).isSome = true)) <|
        bif (pickB (pickB (pickB (pickB (pickB (notB r1) true (notB ((gRef07Good x0.fOf).getD dflt))) true (ltI x0.fTrack 0)) true (ltI 3 x0.fTrack)) true (ltI x0.fLayer 0)) true (ltI 2 x0.fLayer)) then (
          some 5
        ) else (
          need (Under (eqI x0.fKind 1) true ((gRef06Good x0.fRoom).isSome = true)) <|
          need (Under (notB ((gRef06Good x0.fRoom).getD dflt)) false (Under (eqI x0.fKind 1) true ((gRef06Good x0.fName).isSome = true))) <|
          bif (pickB (eqI x0.fKind 1) (pickB (notB ((gRef06Good x0.fRoom).getD dflt)) true (notB ((gRef06Good x0.fName).getD dflt))) false) then (
            some 6
          ) else (
            bif (eqI x0.fKind 3) then (
              ((gRef07Sources x0)).bind fun r2 =>
              some r2
            ) else (
              some 0
            )
          )
        )
      )
    )
  )

noncomputable def gRef07Bit (x0 : Bool) : Option ByteArray :=
  bif x0 then (
    some ⟨#[1]⟩
  ) else (
    some ⟨#[0]⟩
  )

noncomputable def gRef07Text.loop6 (x0 : Antiphonref07Command) (s6 : Int × ByteArray) : Option (Fl (Int × ByteArray) (Fl ByteArray (Fl ByteArray ByteArray))) :=
  bif (ltI s6.1 (lenL x0.fSsrcs)) then (
    need (InB s6.1 (lenL x0.fSsrcs)) <|
    ((gRef02Num 4 (cvtI .u64 (nthI x0.fSsrcs s6.1)))).bind fun r13 =>
    need (CatB s6.2 r13) <|
    some (.go ((addI .i64 s6.1 1), (catS s6.2 r13)))
  ) else (
    some (.out (.go s6.2))
  )

noncomputable def gRef07Text (x0 : Antiphonref07Command) : Option ByteArray :=
  ((gRef02Num 1 (cvtI .u64 x0.fKind))).bind fun r1 =>
  bif (eqI x0.fKind 1) then (
    ((gRef02Num 1 (cvtI .u64 (lenS x0.fRoom)))).bind fun r2 =>
    need (CatB r1 r2) <|
    need (CatB (catS r1 r2) x0.fRoom) <|
    ((gRef02Num 1 (cvtI .u64 (lenS x0.fName)))).bind fun r3 =>
    need (CatB (catS (catS r1 r2) x0.fRoom) r3) <|
    need (CatB (catS (catS (catS r1 r2) x0.fRoom) r3) x0.fName) <|
    some (catS (catS (catS (catS r1 r2) x0.fRoom) r3) x0.fName)
  ) else (
    ((gRef02Num 2 (cvtI .u64 x0.fPeer))).bind fun r4 =>
    need (CatB r1 r4) <|
    ((
      ((gRef07Of x0.fKind)).bind fun r5 =>
      bif r5 then (
        ((gRef02Num 2 (cvtI .u64 x0.fOf))).bind fun r6 =>
        need (CatB (catS r1 r4) r6) <|
        some (.go (catS (catS r1 r4) r6))
      ) else (
        some (.go (catS r1 r4))
      )
      : Option (Fl ByteArray ByteArray)).bind fun f => flC f fun (v1 : ByteArray) =>
      ((
        ((gRef07Track x0.fKind)).bind fun r7 =>
        bif r7 then (
          ((gRef02Num 1 (cvtI .u64 x0.fTrack))).bind fun r8 =>
          need (CatB v1 r8) <|
          some (.go (catS v1 r8))
        ) else (
          some (.go v1)
        )
        : Option (Fl ByteArray ByteArray)).bind fun f => flC f fun (v2 : ByteArray) =>
        ((
          bif (eqI x0.fKind 5) then (
            ((gRef02Num 1 (cvtI .u64 x0.fLayer))).bind fun r9 =>
            need (CatB v2 r9) <|
            some (.go (catS v2 r9))
          ) else (
            some (.go v2)
          )
          : Option (Fl ByteArray ByteArray)).bind fun f => flC f fun (v3 : ByteArray) =>
          ((
            bif (leqI 7 x0.fKind) then (
              ((gRef07Bit x0.fOn)).bind fun r10 =>
              need (CatB v3 r10) <|
              some (.go (catS v3 r10))
            ) else (
              some (.go v3)
            )
            : Option (Fl ByteArray ByteArray)).bind fun f => flC f fun (v4 : ByteArray) =>
            ((
              bif (eqI x0.fKind 3) then (
                ((gRef07Bit x0.fVideo)).bind fun r11 =>
                ((gRef02Num 1 (cvtI .u64 (lenL x0.fSsrcs)))).bind fun r12 =>
                need (CatB r11 r12) <|
                need (CatB v4 (catS r11 r12)) <|
                ((loopF (gRef07Text.loop6 x0) (0, (catS v4 (catS r11 r12)))).bind fun f => flC f fun (v6 : ByteArray) =>
                  some (.go v6)
                )
              ) else (
                some (.go v4)
              )
              : Option (Fl ByteArray ByteArray)).bind fun f => flC f fun (v5 : ByteArray) =>
              some v5
            )
          )
        )
      )
    )
  )
end Go.Proofs
end
