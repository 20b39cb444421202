/- What these functions compute, as plain functions. No condition. -/
import Derived.Test.YtijaigjfacfhnaaDoorM10
import Derived.Test.YtijaigjfacfhnaaDoorM05
import Derived.Test.YtijaigjfacfhnaaDoorM09
import Derived.Lib.UnsafeStr
section
namespace Go.Proofs
open Go.Ab
noncomputable def gControlTruth (x0 : OctetReader) : Option (Bool × OctetReader) :=
  ((gOctetReaderU8 x0)).bind fun r1 =>
  ((
    bif (ltI 1 r1.1) then (
      ((gOctetReaderFail r1.2 2)).bind fun r2 =>
      some (.go r2)
    ) else (
      some (.go r1.2)
    )
    : Option (Fl OctetReader (Bool × OctetReader))).bind fun f => flC f fun (v1 : OctetReader) =>
    some ((eqI r1.1 1), v1)
  )

noncomputable def gControlCommandTake.loop1 (r11 : Int × OctetReader) (s1 : Int × List Int × OctetReader) : Option (Fl (Int × List Int × OctetReader) (Fl (List Int × OctetReader) (Antiphonref07Command × Bool × OctetReader))) :=
  bif (ltI s1.1 r11.1) then (
    ((gOctetReaderU32 s1.2.2)).bind fun r12 =>
    need (AppB (lenL s1.2.1) 1 4) <|
    some (.go ((addI .u8 s1.1 1), (appL s1.2.1 [r12.1]), r12.2))
  ) else (
    some (.out (.go (s1.2.1, s1.2.2)))
  )

noncomputable def gControlCommandTake (x0 : Antiphonref07Command) (k0 : Bool) (x1 : OctetReader) (x2 : Int) : Option (Antiphonref07Command × Bool × OctetReader) :=
  bif (eqI x2 114) then (
    ((gOctetReaderU8 x1)).bind fun r1 =>
    ((gOctetReaderBytes r1.2 (cvtI .i64 r1.1))).bind fun r2 =>
    ((gOctetReaderU8 r2.2)).bind fun r3 =>
    ((gOctetReaderBytes r3.2 (cvtI .i64 r3.1))).bind fun r4 =>
    some ((Antiphonref07Command.mk x0.fKind r2.1 r4.1 x0.fPeer x0.fOf x0.fTrack x0.fLayer x0.fOn x0.fVideo x0.fSsrcs), k0, r4.2)
  ) else (
    bif (eqI x2 112) then (
      ((gOctetReaderU16 x1)).bind fun r5 =>
      some ((Antiphonref07Command.mk x0.fKind x0.fRoom x0.fName (cvtI .i64 r5.1) x0.fOf x0.fTrack x0.fLayer x0.fOn x0.fVideo x0.fSsrcs), k0, r5.2)
    ) else (
      bif (eqI x2 111) then (
        ((gOctetReaderU16 x1)).bind fun r6 =>
        some ((Antiphonref07Command.mk x0.fKind x0.fRoom x0.fName x0.fPeer (cvtI .i64 r6.1) x0.fTrack x0.fLayer x0.fOn x0.fVideo x0.fSsrcs), k0, r6.2)
      ) else (
        bif (eqI x2 116) then (
          ((gOctetReaderU8 x1)).bind fun r7 =>
          some ((Antiphonref07Command.mk x0.fKind x0.fRoom x0.fName x0.fPeer x0.fOf (cvtI .i64 r7.1) x0.fLayer x0.fOn x0.fVideo x0.fSsrcs), k0, r7.2)
        ) else (
          bif (eqI x2 108) then (
            ((gOctetReaderU8 x1)).bind fun r8 =>
            some ((Antiphonref07Command.mk x0.fKind x0.fRoom x0.fName x0.fPeer x0.fOf x0.fTrack (cvtI .i64 r8.1) x0.fOn x0.fVideo x0.fSsrcs), k0, r8.2)
          ) else (
            bif (eqI x2 98) then (
              ((gControlTruth x1)).bind fun r9 =>
              some ((Antiphonref07Command.mk x0.fKind x0.fRoom x0.fName x0.fPeer x0.fOf x0.fTrack x0.fLayer r9.1 x0.fVideo x0.fSsrcs), k0, r9.2)
            ) else (
              bif (eqI x2 115) then (
                ((gControlTruth x1)).bind fun r10 =>
                ((gOctetReaderU8 r10.2)).bind fun r11 =>
                need (k0 = true) <|
                ((loopF (gControlCommandTake.loop1 r11) (0, x0.fSsrcs, r11.2)).bind fun f => flC f fun (v1 : List Int × OctetReader) =>
                  some ((Antiphonref07Command.mk x0.fKind x0.fRoom x0.fName x0.fPeer x0.fOf x0.fTrack x0.fLayer x0.fOn r10.1 v1.1), false, v1.2)
                )
              ) else (
                some (x0, k0, x1)
              )
            )
          )
        )
      )
    )
  )

noncomputable def gControlParse.loop2 (r5 : ByteArray) (s2 : OctetReader × Int × ByteArray × ByteArray × Int × Int × Int × Int × Bool × Bool × Bool × List Int × Nat) : Option (Fl (OctetReader × Int × ByteArray × ByteArray × Int × Int × Int × Int × Bool × Bool × Bool × List Int × Nat) (Fl (OctetReader × Int × ByteArray × ByteArray × Int × Int × Int × Int × Bool × Bool × Bool × List Int) (Antiphonref07Command × Int))) :=
  bif (nextB r5 s2.2.2.2.2.2.2.2.2.2.2.2.2) then (
    ((gControlCommandTake (Antiphonref07Command.mk s2.2.1 s2.2.2.1 s2.2.2.2.1 s2.2.2.2.2.1 s2.2.2.2.2.2.1 s2.2.2.2.2.2.2.1 s2.2.2.2.2.2.2.2.1 s2.2.2.2.2.2.2.2.2.1 s2.2.2.2.2.2.2.2.2.2.1 s2.2.2.2.2.2.2.2.2.2.2.2.1) s2.2.2.2.2.2.2.2.2.2.2.1 s2.1 (runeS r5 s2.2.2.2.2.2.2.2.2.2.2.2.2))).bind fun r6 =>
    some (.go (r6.2.2, r6.1.fKind, r6.1.fRoom, r6.1.fName, r6.1.fPeer, r6.1.fOf, r6.1.fTrack, r6.1.fLayer, r6.1.fOn, r6.1.fVideo, r6.2.1, r6.1.fSsrcs, (stepS r5 s2.2.2.2.2.2.2.2.2.2.2.2.2)))
  ) else (
    some (.out (.go (s2.1, s2.2.1, s2.2.2.1, s2.2.2.2.1, s2.2.2.2.2.1, s2.2.2.2.2.2.1, s2.2.2.2.2.2.2.1, s2.2.2.2.2.2.2.2.1, s2.2.2.2.2.2.2.2.2.1, s2.2.2.2.2.2.2.2.2.2.1, s2.2.2.2.2.2.2.2.2.2.2.1, s2.2.2.2.2.2.2.2.2.2.2.2.1)))
  )

noncomputable def gControlParse (x0 : ByteArray) : Option (Antiphonref07Command × Int) :=
  ((gOctetRead x0)).bind fun r1 =>
  ((gOctetReaderU8 r1)).bind fun r2 =>
  ((
    ((gOctetReaderErr r2.2)).bind fun r3 =>
    need (Under (eqI r3 0) true ((gControlHas (cvtI .i64 r2.1)).isSome = true)) <|
    bif (pickB (eqI r3 0) (eqS ((gControlHas (cvtI .i64 r2.1)).getD dflt) ⟨#[]⟩) false) then (
      ((gOctetReaderFail r2.2 3)).bind fun r4 =>
      some (.go r4)
    ) else (
      some (.go r2.2)
    )
    : Option (Fl OctetReader (Antiphonref07Command × Int))).bind fun f => flC f fun (v1 : OctetReader) =>
    ((gControlHas (cvtI .i64 r2.1))).bind fun r5 =>
    ((loopF (gControlParse.loop2 r5) (v1, (cvtI .i64 r2.1), ⟨#[]⟩, ⟨#[]⟩, 0, 0, 0, 0, false, false, true, [], 0)).bind fun f => flC f fun (v2 : OctetReader × Int × ByteArray × ByteArray × Int × Int × Int × Int × Bool × Bool × Bool × List Int) =>
      ((gOctetReaderEnd v2.1)).bind fun r6 =>
      bif (neI r6.1 0) then (
        some ((Antiphonref07Command.mk 0 ⟨#[]⟩ ⟨#[]⟩ 0 0 0 0 false false []), r6.1)
      ) else (
        ((gControlCommandCheck (Antiphonref07Command.mk v2.2.1 v2.2.2.1 v2.2.2.2.1 v2.2.2.2.2.1 v2.2.2.2.2.2.1 v2.2.2.2.2.2.2.1 v2.2.2.2.2.2.2.2.1 v2.2.2.2.2.2.2.2.2.1 v2.2.2.2.2.2.2.2.2.2.1 v2.2.2.2.2.2.2.2.2.2.2.2))).bind fun r7 =>
        bif (neI r7 0) then (
          some ((Antiphonref07Command.mk 0 ⟨#[]⟩ ⟨#[]⟩ 0 0 0 0 false false []), r7)
        ) else (
          some ((Antiphonref07Command.mk v2.2.1 v2.2.2.1 v2.2.2.2.1 v2.2.2.2.2.1 v2.2.2.2.2.2.1 v2.2.2.2.2.2.2.1 v2.2.2.2.2.2.2.2.1 v2.2.2.2.2.2.2.2.2.1 v2.2.2.2.2.2.2.2.2.2.1 v2.2.2.2.2.2.2.2.2.2.2.2), 0)
        )
      )
    )
  )
end Go.Proofs
end
section
namespace Go.Proofs
open Go.Ab
noncomputable def gLaw07Awake : Option Bool :=
  ((gControlParse ⟨#[2, 1, 2]⟩)).bind fun r1 =>
  need (Under (pickB (pickB (eqI r1.2 0) (eqI r1.1.fKind 2) false) (eqI r1.1.fPeer 258) false) true ((gControlCommandText r1.1).isSome = true)) <|
  need (Under (pickB (pickB (pickB (eqI r1.2 0) (eqI r1.1.fKind 2) false) (eqI r1.1.fPeer 258) false) (eqS ((gControlCommandText r1.1).getD dflt) ⟨#[2, 1, 2]⟩) false) true ((gControlCommandCheck (Antiphonref07Command.mk 0 ⟨#[]⟩ ⟨#[]⟩ 0 0 0 0 false false [])).isSome = true)) <|
  some (pickB (pickB (pickB (pickB (eqI r1.2 0) (eqI r1.1.fKind 2) false) (eqI r1.1.fPeer 258) false) (eqS ((gControlCommandText r1.1).getD dflt) ⟨#[2, 1, 2]⟩) false) (eqI ((gControlCommandCheck (Antiphonref07Command.mk 0 ⟨#[]⟩ ⟨#[]⟩ 0 0 0 0 false false [])).getD dflt) 3) false)

noncomputable def gLaw07Few (x0 : Antiphonref07Command) : Option Antiphonref07Command :=
  ((gLaw01Cut x0.fRoom 70)).bind fun r1 =>
  ((gLaw01Cut x0.fName 70)).bind fun r2 =>
  ((
    bif (ltI 5 (lenL x0.fSsrcs)) then (
      need (CutB 0 5 (lenL x0.fSsrcs)) <|
      some (.go (Antiphonref07Command.mk x0.fKind r1 r2 x0.fPeer x0.fOf x0.fTrack x0.fLayer x0.fOn x0.fVideo (cutL x0.fSsrcs 0 5)))
    ) else (
      some (.go (Antiphonref07Command.mk x0.fKind r1 r2 x0.fPeer x0.fOf x0.fTrack x0.fLayer x0.fOn x0.fVideo x0.fSsrcs))
    )
    : Option (Fl Antiphonref07Command Antiphonref07Command)).bind fun f => flC f fun (v1 : Antiphonref07Command) =>
    some v1
  )

noncomputable def gLaw07Told (x0 : Antiphonref07Command) : Option Antiphonref07Command :=
  some x0

noncomputable def gLaw07Same.loop1 (x0 : Antiphonref07Command) (x1 : Antiphonref07Command) (s1 : Int) : Option (Fl Int (Fl Unit Int)) :=
  bif (ltI s1 (lenL x1.fSsrcs)) then (
    need (InB s1 (lenL x0.fSsrcs)) <|
    need (InB s1 (lenL x1.fSsrcs)) <|
    bif (neI (nthI x0.fSsrcs s1) (nthI x1.fSsrcs s1)) then (
      some (.out (.out (-1)))
    ) else (
      some (.go (addI .i64 s1 1))
    )
  ) else (
    some (.out (.go ()))
  )

noncomputable def gLaw07Same (x0 : Antiphonref07Command) (x1 : Antiphonref07Command) : Option Int :=
  bif (neI (lenL x0.fSsrcs) (lenL x1.fSsrcs)) then (
    some (-1)
  ) else (
    ((loopF (gLaw07Same.loop1 x0 x1) 0).bind fun f => flC f fun (_v1 : Unit) =>
      bif (pickB (pickB (pickB (pickB (pickB (pickB (pickB (pickB (neI x0.fKind x1.fKind) true (neS x0.fRoom x1.fRoom)) true (neS x0.fName x1.fName)) true (neI x0.fPeer x1.fPeer)) true (neI x0.fOf x1.fOf)) true (neI x0.fTrack x1.fTrack)) true (neI x0.fLayer x1.fLayer)) true (neB x0.fOn x1.fOn)) true (neB x0.fVideo x1.fVideo)) then (
        some (-1)
      ) else (
        some 0
      )
    )
  )
end Go.Proofs
end
section
namespace Go.Ab
open Go.Proofs

@[simp] theorem bel_opq (m : Nat) (φ : Opq) : (AObj.opq φ).bel m ↔ True := Iff.rfl
@[simp] theorem wrO_bs (T E : TypeId) (bs : List Int) : (wrO T E bs).bs = bs := rfl
/-- The text of all. -/
@[simp] def wrTextS (T E : TypeId) : Sp
  | [.ptr i 0], M => match M[i]? with
    | some (.opq φ) => some { av := .lit (.string (strOfNums φ.bs)), M := some (M.set i (.opq wrX)), obl := φ = wrO T E φ.bs ∧ TextB φ.bs }
    | _ => none
  | _, _ => none

theorem bytes_of {bs : List Int} (h : ∀ x ∈ bs, 0 ≤ x ∧ x < 256) : bs.map (Value.int .u8) = Lib.byteCells (bs.map fun n => n.toNat.toUInt8) := by
  simp only [Lib.byteCells, List.map_map]
  refine List.map_congr_left fun x hx => ?_
  obtain ⟨h1, h2⟩ := h x hx
  simp only [Function.comp, Nat.toUInt8, UInt8.toNat_ofNat']
  congr 1
  omega

theorem textW_ok {P : Program} {f : FuncId} {T E : TypeId} (hent : ∀ args w, (callFunc f args).run P w = .ok (.enter f args) w)
    (hS : ∀ (b g cap : Nat) (w : World) (p : Value) (l : List UInt8) (cur : Array Value), w.heap[b]? = some (.cells #[p, .slice (some ⟨g, 0, none⟩) l.length cap] T (0, 0)) → w.heap[g]? = some (.cells cur E (0, 0)) →
      l.length ≤ cap → cap ≤ maxLen → cur.size = cap → cur.toList.take l.length = Lib.byteCells l → l ≠ [] →
      Calls P f #[.pointer (some ⟨b, 0, none⟩)] w fun e w' => e = .returned (.string ⟨l.toArray⟩) ∧ WrKeep b (some g) w w' ∧ w'.heap.size = w.heap.size) : SpecOk P f (wrTextS T E) := by
  intro l M out h
  unfold wrTextS at h
  split at h
  · rename_i i
    split at h
    · rename_i φ hMi
      cases h
      intro g vs hM sm hr ho
      subst hM
      obtain ⟨hφ, hne, hbb⟩ := ho
      cases hr with | cons hv hr => cases hr with | nil =>
      cases hv with
      | ptr _ _ hi =>
      refine ⟨hent _ _, ?_⟩
      have hq := sm.opq i φ hMi
      rw [hφ] at hq
      obtain ⟨p, v, h1, h2, h3⟩ := hq
      rcases h3 with ⟨_, h, _⟩ | ⟨cap, cur, rfl, h4, h5, h6, h7, h8, h9⟩
      · exact absurd h hne
      generalize hl : φ.bs.map (fun n => n.toNat.toUInt8) = ls
      have hll : ls.length = φ.bs.length := by rw [← hl]; simp
      have hb : φ.bs.map (Value.int .u8) = Lib.byteCells ls := by rw [← hl]; exact bytes_of hbb
      have hstr : (⟨ls.toArray⟩ : ByteArray) = strOfNums φ.bs := by
        rw [← hl]; rfl
      simp only [wrO] at h1 h5 h6 h9
      refine (hS (g.β i) (g.ρ i).b cap g.w p ls cur (by rw [hll]; exact h1) h5 (by omega) h7 h8 (by rw [hll, ← hb]; exact h9) (fun e => hne (List.eq_nil_of_length_eq_zero (by rw [← hll, e]; rfl)))).mono ?_
      rintro e w' ⟨rfl, k1, k2⟩
      obtain ⟨kk, ss⟩ := opq_turn sm hMi (φ' := wrX) (w' := w') (rb := (g.ρ i).b) k1.size ⟨k1.os, k1.output⟩ (fun k q1 q2 q3 => k1.block k q1 q2 (by simpa using q3)) (.inl rfl) trivial
      refine ⟨_, rfl, g.β, _, ss, ?_, kk⟩
      rw [hstr]
      exact .lit _
    · cases h
  · cases h
end Go.Ab
end
