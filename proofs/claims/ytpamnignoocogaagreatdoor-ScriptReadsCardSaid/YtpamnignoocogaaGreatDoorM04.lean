import Derived.Test.YtpamnignoocogaaGreatDoorM16
import Derived.Test.YtpamnignoocogaaGreatDoorM11
import Derived.Test.YtpamnignoocogaaGreatDoorTy
import Derived.Laws.Externs
section
namespace Go.Proofs
def gap : Option Bool := some true
end Go.Proofs
end
section
namespace Go.Proofs
open Go.Ab
noncomputable def gac : Option Bool :=
 (gap).bind fun r1 =>
 some r1
end Go.Proofs
end
section
namespace Go.Proofs
open Go.Ab
noncomputable def gad (x0 : Int) : Option Int :=
 bif (ltI x0 128) then (
  some 1
 ) else (
   bif (ltI x0 2048) then (
    some 2
   ) else (
     bif (ltI x0 65536) then (
      some 3
     ) else (
       some 4
     )
   )
 )
noncomputable def gT (x0 : Int) : Option Int :=
 bif (pickB (pickB (eqI x0 45) true (eqI x0 95)) true (eqI x0 46)) then (
  some 3
 ) else (
   need (I32B x0) <|
   bif (letterR x0) then (
    some 1
   ) else (
     need (I32B x0) <|
     bif (digitR x0) then (
      some 2
     ) else (
       some 0
     )
   )
 )
noncomputable def gG.loop1 (x0 : ByteArray) (s1 : Int × List Int × Nat) : Option (Fl (Int × List Int × Nat) (Fl (List Int) (List Int × Bool))) :=
 bif (nextB x0 s1.2.2) then (
  ((gad (runeS x0 s1.2.2))).bind fun r1 =>
  need (Under (ltI (lenS x0) (addI .i64 s1.1 r1)) false (CutB s1.1 (addI .i64 s1.1 r1) (lenS x0))) <|
  bif (pickB (ltI (lenS x0) (addI .i64 s1.1 r1)) true (neS (runesBytes [(runeS x0 s1.2.2)]) (cutS x0 s1.1 (addI .i64 s1.1 r1)))) then (
   some (.out (.out ([], false)))
  ) else (
    need (AppB (lenL s1.2.1) 1 4) <|
    some (.go ((addI .i64 s1.1 r1), (appL s1.2.1 [(runeS x0 s1.2.2)]), (stepS x0 s1.2.2)))
  )
 ) else (
   some (.out (.go s1.2.1))
 )
noncomputable def gG (x0 : ByteArray) : Option (List Int × Bool) :=
 ((loopF (gG.loop1 x0) (0, [], 0)).bind fun f => flC f fun (v1 : List Int) =>
   some (v1, true)
 )
noncomputable def gF.loop1 (r1 : List Int × Bool) (s1 : Int) : Option (Fl Int (Fl Unit Bool)) :=
 bif (ltI s1 (lenL r1.1)) then (
  need (InB s1 (lenL r1.1)) <|
  ((gT (nthI r1.1 s1))).bind fun r2 =>
  need (Under (pickB (eqI s1 0) true (eqI s1 (subI .i64 (lenL r1.1) 1))) false (Under (eqI r2 3) true (Under (eqI r2 0) false (InB (subI .i64 s1 1) (lenL r1.1))))) <|
  need (Under (pickB (eqI s1 0) true (eqI s1 (subI .i64 (lenL r1.1) 1))) false (Under (eqI r2 3) true (Under (eqI r2 0) false ((gT (nthI r1.1 (subI .i64 s1 1))).isSome = true)))) <|
  bif (pickB (eqI r2 0) true (pickB (eqI r2 3) (pickB (pickB (eqI s1 0) true (eqI s1 (subI .i64 (lenL r1.1) 1))) true (eqI ((gT (nthI r1.1 (subI .i64 s1 1))).getD dflt) 3)) false)) then (
   some (.out (.out false))
  ) else (
    some (.go (addI .i64 s1 1))
  )
 ) else (
   some (.out (.go ()))
 )
noncomputable def gF (x0 : ByteArray) : Option Bool :=
 ((gG x0)).bind fun r1 =>
 bif (pickB (pickB (notB r1.2) true (ltI (lenL r1.1) 1)) true (ltI 16 (lenL r1.1))) then (
  some false
 ) else (
   ((loopF (gF.loop1 r1) 0).bind fun f => flC f fun (_v1 : Unit) =>
     some true
   )
 )
end Go.Proofs
end
section
namespace Go.Proofs
open Go.Ab
noncomputable def gU (x0 : Int) : Option Bool :=
 some (pickB (leqI 2 x0) (leqI x0 8) false)
noncomputable def gab (x0 : Int) : Option Bool :=
 some (pickB (pickB (eqI x0 5) true (eqI x0 6)) true (eqI x0 8))
noncomputable def gQ (x0 : Int) : Option Bool :=
 some (pickB (leqI 3 x0) (leqI x0 8) false)
noncomputable def gX (x0 : Int) : Option Bool :=
 some (pickB (leqI 0 x0) (leqI x0 65535) false)
noncomputable def gc.loop2 (x0 : Ta) (s1 : Int) (s2 : Int) : Option (Fl Int (Fl Unit (Fl Int (Fl Unit Int)))) :=
 bif (ltI s2 s1) then (
  need (InB s1 (lenL x0.fa)) <|
  need (InB s2 (lenL x0.fa)) <|
  bif (eqI (nthI x0.fa s1) (nthI x0.fa s2)) then (
   some (.out (.out (.out (.out 10))))
  ) else (
    some (.go (addI .i64 s2 1))
  )
 ) else (
   some (.out (.go ()))
 )
noncomputable def gc.loop1 (x0 : Ta) (s1 : Int) : Option (Fl Int (Fl Unit Int)) :=
 bif (ltI s1 (lenL x0.fa)) then (
  ((loopF (gc.loop2 x0 s1) 0).bind fun f => flC f fun (_v2 : Unit) =>
    some (.go (addI .i64 s1 1))
  )
 ) else (
   some (.out (.go ()))
 )
noncomputable def gc (x0 : Ta) : Option Int :=
 bif (pickB (pickB (ltI (lenL x0.fa) 1) true (ltI 3 (lenL x0.fa))) true (pickB (ltI 1 (lenL x0.fa)) (notB x0.fe) false)) then (
  some 5
 ) else (
   ((loopF (gc.loop1 x0) 0).bind fun f => flC f fun (_v1 : Unit) =>
     some 0
   )
 )
noncomputable def gP (x0 : Ta) : Option Int :=
 bif (pickB (ltI x0.fb 1) true (ltI 8 x0.fb)) then (
  some 3
 ) else (
   need (Under (pickB (neI x0.fb 1) (pickB (neS x0.fd ⟨#[]⟩) true (neS x0.ff ⟨#[]⟩)) false) false ((gU x0.fb).isSome = true)) <|
   need (Under (pickB (pickB (neI x0.fb 1) (pickB (neS x0.fd ⟨#[]⟩) true (neS x0.ff ⟨#[]⟩)) false) true (pickB (notB ((gU x0.fb).getD dflt)) (neI x0.fc 0) false)) false ((gab x0.fb).isSome = true)) <|
   need (Under (pickB (pickB (pickB (neI x0.fb 1) (pickB (neS x0.fd ⟨#[]⟩) true (neS x0.ff ⟨#[]⟩)) false) true (pickB (notB ((gU x0.fb).getD dflt)) (neI x0.fc 0) false)) true (pickB (notB ((gab x0.fb).getD dflt)) (neI x0.fOf 0) false)) false ((gQ x0.fb).isSome = true)) <|
   bif (pickB (pickB (pickB (pickB (neI x0.fb 1) (pickB (neS x0.fd ⟨#[]⟩) true (neS x0.ff ⟨#[]⟩)) false) true (pickB (notB ((gU x0.fb).getD dflt)) (neI x0.fc 0) false)) true (pickB (notB ((gab x0.fb).getD dflt)) (neI x0.fOf 0) false)) true (pickB (notB ((gQ x0.fb).getD dflt)) (neI x0.fg 0) false)) then (
    some 2
   ) else (
     bif (pickB (pickB (pickB (neI x0.fb 5) (neI x0.fh 0) false) true (pickB (pickB (neI x0.fb 7) (neI x0.fb 8) false) x0.fOn false)) true (pickB (neI x0.fb 3) (pickB x0.fe true (ltI 0 (lenL x0.fa))) false)) then (
      some 2
     ) else (
       ((gX x0.fc)).bind fun r1 =>
       need (Under (notB r1) false ((gX x0.fOf).isSome = true)) <|
       bif (pickB (pickB (pickB (pickB (pickB (notB r1) true (notB ((gX x0.fOf).getD dflt))) true (ltI x0.fg 0)) true (ltI 3 x0.fg)) true (ltI x0.fh 0)) true (ltI 2 x0.fh)) then (
        some 5
       ) else (
         need (Under (eqI x0.fb 1) true ((gF x0.fd).isSome = true)) <|
         need (Under (notB ((gF x0.fd).getD dflt)) false (Under (eqI x0.fb 1) true ((gF x0.ff).isSome = true))) <|
         bif (pickB (eqI x0.fb 1) (pickB (notB ((gF x0.fd).getD dflt)) true (notB ((gF x0.ff).getD dflt))) false) then (
          some 6
         ) else (
           bif (eqI x0.fb 3) then (
            ((gc x0)).bind fun r2 =>
            some r2
           ) else (
             some 0
           )
         )
       )
     )
   )
 )
noncomputable def gag (x0 : Bool) : Option ByteArray :=
 bif x0 then (
  some ⟨#[1]⟩
 ) else (
   some ⟨#[0]⟩
 )
noncomputable def gD.loop6 (x0 : Ta) (s6 : Int × ByteArray) : Option (Fl (Int × ByteArray) (Fl ByteArray (Fl ByteArray ByteArray))) :=
 bif (ltI s6.1 (lenL x0.fa)) then (
  need (InB s6.1 (lenL x0.fa)) <|
  ((gC 4 (cvtI .u64 (nthI x0.fa s6.1)))).bind fun r13 =>
  need (CatB s6.2 r13) <|
  some (.go ((addI .i64 s6.1 1), (catS s6.2 r13)))
 ) else (
   some (.out (.go s6.2))
 )
noncomputable def gD (x0 : Ta) : Option ByteArray :=
 ((gC 1 (cvtI .u64 x0.fb))).bind fun r1 =>
 bif (eqI x0.fb 1) then (
  ((gC 1 (cvtI .u64 (lenS x0.fd)))).bind fun r2 =>
  need (CatB r1 r2) <|
  need (CatB (catS r1 r2) x0.fd) <|
  ((gC 1 (cvtI .u64 (lenS x0.ff)))).bind fun r3 =>
  need (CatB (catS (catS r1 r2) x0.fd) r3) <|
  need (CatB (catS (catS (catS r1 r2) x0.fd) r3) x0.ff) <|
  some (catS (catS (catS (catS r1 r2) x0.fd) r3) x0.ff)
 ) else (
   ((gC 2 (cvtI .u64 x0.fc))).bind fun r4 =>
   need (CatB r1 r4) <|
   ((
    ((gab x0.fb)).bind fun r5 =>
    bif r5 then (
     ((gC 2 (cvtI .u64 x0.fOf))).bind fun r6 =>
     need (CatB (catS r1 r4) r6) <|
     some (.go (catS (catS r1 r4) r6))
    ) else (
      some (.go (catS r1 r4))
    )
    : Option (Fl ByteArray ByteArray)).bind fun f => flC f fun (v1 : ByteArray) =>
    ((
     ((gQ x0.fb)).bind fun r7 =>
     bif r7 then (
      ((gC 1 (cvtI .u64 x0.fg))).bind fun r8 =>
      need (CatB v1 r8) <|
      some (.go (catS v1 r8))
     ) else (
       some (.go v1)
     )
     : Option (Fl ByteArray ByteArray)).bind fun f => flC f fun (v2 : ByteArray) =>
     ((
      bif (eqI x0.fb 5) then (
       ((gC 1 (cvtI .u64 x0.fh))).bind fun r9 =>
       need (CatB v2 r9) <|
       some (.go (catS v2 r9))
      ) else (
        some (.go v2)
      )
      : Option (Fl ByteArray ByteArray)).bind fun f => flC f fun (v3 : ByteArray) =>
      ((
       bif (leqI 7 x0.fb) then (
        ((gag x0.fOn)).bind fun r10 =>
        need (CatB v3 r10) <|
        some (.go (catS v3 r10))
       ) else (
         some (.go v3)
       )
       : Option (Fl ByteArray ByteArray)).bind fun f => flC f fun (v4 : ByteArray) =>
       ((
        bif (eqI x0.fb 3) then (
         ((gag x0.fe)).bind fun r11 =>
         ((gC 1 (cvtI .u64 (lenL x0.fa)))).bind fun r12 =>
         need (CatB r11 r12) <|
         need (CatB v4 (catS r11 r12)) <|
         ((loopF (gD.loop6 x0) (0, (catS v4 (catS r11 r12)))).bind fun f => flC f fun (v6 : ByteArray) =>
           some (.go v6)
         )
        ) else (
          some (.go v4)
        )
        : Option (Fl ByteArray ByteArray)).bind fun f => flC f fun (v5 : ByteArray) =>
        some v5
       )
      )
     )
    )
   )
 )
end Go.Proofs
end
section
namespace Go.Ab
def splitL (c : UInt8) : List UInt8 → List (List UInt8)
 | [] => [[]]
 | b :: l => bif b == c then [] :: splitL c l else (match splitL c l with
   | p :: r => (b :: p) :: r
   | [] => [[b]])
theorem splitL_ne (c : UInt8) : ∀ l, splitL c l ≠ []
 | [], h => by cases h
 | b :: l, h => by
   unfold splitL at h;cases hb : b == c <;> rw [hb] at h
   ·simp only [cond_false] at h;split at h <;> cases h
   ·cases h
theorem splitL_eq_c (c : UInt8) (l : List UInt8) : splitL c (c :: l) = [] :: splitL c l := by simp [splitL]
theorem splitL_ne_c {c a : UInt8} (h : a ≠ c) {l : List UInt8} {p : List UInt8} {r : List (List UInt8)} (e : splitL c l = p :: r) : splitL c (a :: l) = (a :: p) :: r := by
 unfold splitL;rw [beq_eq_false_iff_ne.2 h, e]; rfl
theorem splitL_len (c : UInt8) : ∀ l : List UInt8, (splitL c l).length ≤ l.length + 1
 | [] => by simp [splitL]
 | b :: l => by
   have ih := splitL_len c l;unfold splitL;cases b == c with
   | true => simp only [cond_true, List.length_cons]; omega
   | false =>
     simp only [cond_false];split
     ·rename_i p r h;rw [h] at ih;simp only [List.length_cons] at ih ⊢;omega
     ·simp
theorem splitL_mem (c : UInt8) : ∀ (l p : List UInt8), p ∈ splitL c l → p.length ≤ l.length
 | [], p, h => by simp [splitL] at h; subst h; simp
 | b :: l, p, h => by
   have ih := splitL_mem c l;unfold splitL at h;cases hb : b == c with
   | true =>
     rw [hb] at h;simp only [cond_true] at h;rcases List.mem_cons.1 h with rfl | h
     ·simp
     ·have := ih p h;simp only [List.length_cons]; omega
   | false =>
     rw [hb] at h;simp only [cond_false] at h;split at h
     ·rename_i q r hq;rcases List.mem_cons.1 h with rfl | h
      ·have := ih q (by rw [hq]; exact .head _);simp only [List.length_cons]; omega
      ·have := ih p (by rw [hq]; exact .tail _ h);simp only [List.length_cons]; omega
     ·simp only [List.mem_cons, List.mem_nil_iff, or_false] at h;subst h; simp
def splitT (s : ByteArray) (c : UInt8) : List ByteArray := (splitL c s.data.toList).map fun p => ⟨p.toArray⟩
end Go.Ab
end
section
namespace Go.Ab
def byteI (c : Int) : UInt8 := c.toNat.toUInt8
@[simp] theorem byteI_32 : byteI 32 = 32 := rfl
@[simp] theorem byteI_10 : byteI 10 = 10 := rfl
end Go.Ab
end
section
namespace Go.Proofs
open Go.Ab
noncomputable def gI (x0 : ByteArray) : Option (Tb × Int) :=
 need (lenS x0 ≤ 400) <|
 need (InB 0 (lenL (splitT x0 32))) <|
 ((gK (nthI (splitT x0 32) 0))).bind fun r1 =>
 bif (notB r1) then (
  some ((Tb.mk 0 0 0 ⟨#[]⟩ (Ta.mk 0 ⟨#[]⟩ ⟨#[]⟩ 0 0 0 0 false false [])), 3)
 ) else (
   bif (pickB (pickB (eqS (nthI (splitT x0 32) 0) ⟨#[116, 105, 99, 107]⟩) true (eqS (nthI (splitT x0 32) 0) ⟨#[99, 114, 101, 100, 105, 116]⟩)) true (eqS (nthI (splitT x0 32) 0) ⟨#[100, 97, 116, 97]⟩)) then (
    need (CutB 1 (lenL (splitT x0 32)) (lenL (splitT x0 32))) <|
    ((gV (nthI (splitT x0 32) 0) (cutL (splitT x0 32) 1 (lenL (splitT x0 32))))).bind fun r2 =>
    bif (notB r2.2) then (
     some ((Tb.mk 0 0 0 ⟨#[]⟩ (Ta.mk 0 ⟨#[]⟩ ⟨#[]⟩ 0 0 0 0 false false [])), 2)
    ) else (
      some (r2.1, 0)
    )
   ) else (
     need (CutB 1 (lenL (splitT x0 32)) (lenL (splitT x0 32))) <|
     ((gA (nthI (splitT x0 32) 0) (cutL (splitT x0 32) 1 (lenL (splitT x0 32))))).bind fun r3 =>
     bif (notB r3.2) then (
      some ((Tb.mk 0 0 0 ⟨#[]⟩ (Ta.mk 0 ⟨#[]⟩ ⟨#[]⟩ 0 0 0 0 false false [])), 2)
     ) else (
       ((gP r3.1)).bind fun r4 =>
       bif (neI r4 0) then (
        some ((Tb.mk 0 0 0 ⟨#[]⟩ (Ta.mk 0 ⟨#[]⟩ ⟨#[]⟩ 0 0 0 0 false false [])), r4)
       ) else (
         ((gD r3.1)).bind fun r5 =>
         some ((Tb.mk 2 0 0 r5 (Ta.mk 0 ⟨#[]⟩ ⟨#[]⟩ 0 0 0 0 false false [])), 0)
       )
     )
   )
 )
end Go.Proofs
end
section
namespace Go.Proofs
open Go.Ab
noncomputable def gm (x0 : ByteArray) (x1 : ByteArray) : Option Bool :=
 need (Under (leqI (lenS x1) (lenS x0)) true (CutB 0 (lenS x1) (lenS x0))) <|
 some (pickB (leqI (lenS x1) (lenS x0)) (eqS (cutS x0 0 (lenS x1)) x1) false)
noncomputable def gM (x0 : ByteArray) (x1 : ByteArray) : Option Bool :=
 ((gm x0 x1)).bind fun r1 =>
 some r1
noncomputable def gZ (x0 : Int) : Option Int :=
 bif (pickB (pickB (eqI x0 45) true (eqI x0 95)) true (eqI x0 46)) then (
  some 3
 ) else (
   need (I32B x0) <|
   bif (letterR x0) then (
    some 1
   ) else (
     need (I32B x0) <|
     bif (digitR x0) then (
      some 2
     ) else (
       some 0
     )
   )
 )
noncomputable def gw.loop1 (x0 : ByteArray) (s1 : Int × Int × Nat) : Option (Fl (Int × Int × Nat) (Fl (Int × Int) Int)) :=
 bif (nextB x0 s1.2.2) then (
  ((gZ (runeS x0 s1.2.2))).bind fun r1 =>
  need (Under (eqI (runeS x0 s1.2.2) 65533) true (Under (pickB (eqI r1 0) true (pickB (eqI r1 3) (eqI s1.2.1 3) false)) false (CutB (posI s1.2.2) (lenS x0) (lenS x0)))) <|
  need (Under (eqI (runeS x0 s1.2.2) 65533) true (Under (pickB (eqI r1 0) true (pickB (eqI r1 3) (eqI s1.2.1 3) false)) false ((gM (cutS x0 (posI s1.2.2) (lenS x0)) ⟨#[239, 191, 189]⟩).isSome = true))) <|
  bif (pickB (pickB (eqI r1 0) true (pickB (eqI r1 3) (eqI s1.2.1 3) false)) true (pickB (eqI (runeS x0 s1.2.2) 65533) (notB ((gM (cutS x0 (posI s1.2.2) (lenS x0)) ⟨#[239, 191, 189]⟩).getD dflt)) false)) then (
   some (.out (.out 6))
  ) else (
    some (.go ((addI .i64 s1.1 1), r1, (stepS x0 s1.2.2)))
  )
 ) else (
   some (.out (.go (s1.1, s1.2.1)))
 )
noncomputable def gw (x0 : ByteArray) : Option Int :=
 bif (pickB (eqS x0 ⟨#[]⟩) true (ltI 64 (lenS x0))) then (
  some 6
 ) else (
   ((loopF (gw.loop1 x0) (0, 3, 0)).bind fun f => flC f fun (v1 : Int × Int) =>
     bif (pickB (ltI 16 v1.1) true (eqI v1.2 3)) then (
      some 6
     ) else (
       some 0
     )
   )
 )
end Go.Proofs
end
section
namespace Go.Ab
def TextB (bs : List Int) : Prop := bs ≠ [] ∧ ∀ x ∈ bs, 0 ≤ x ∧ x < 256
instance (bs : List Int) : Decidable (TextB bs) := inferInstanceAs (Decidable (bs ≠ [] ∧ ∀ x ∈ bs, 0 ≤ x ∧ x < 256))
end Go.Ab
end
section

end
section
namespace Go.Ab
def TextE (bs : List Int) : Prop := ∀ x ∈ bs, 0 ≤ x ∧ x < 256
instance (bs : List Int) : Decidable (TextE bs) := inferInstanceAs (Decidable (∀ x ∈ bs, 0 ≤ x ∧ x < 256))
def ixbL (c : UInt8) : List UInt8 → Int → Int
 | [], _ => -1
 | b :: l, k => bif b == c then k else ixbL c l (k + 1)
def ixbS (s : ByteArray) (c : Int) : Int := ixbL c.toNat.toUInt8 s.data.toList 0
end Go.Ab
end
section

end
section
namespace Go.Proofs
open Go.RowKit Go.Ab
theorem Tryz.bcSize : (Tryz.prog.info? 81).map (·.size) = some 2 := by kernel_rfl
theorem Tryz.bcLies : liesAt Tryz.prog Tryz.prog.depth 81 (2 / Tryz.prog.cellsOf 81) 0 81 1 = true := by kernel_rfl
theorem Tryz.bbyteI : (Tryz.prog.info? 5).map (fun i => (i.zero, i.size, i.bytes)) = some (some (.int .u8 0), 1, 1) := by kernel_rfl
set_option maxHeartbeats 1000000 in
set_option maxRecDepth 100000 in
theorem Tryz.bcFresh (b : Nat) (w : World) (v : Value) (hb : w.heap[b]? = some (.cells #[.pointer none, v] 81 (0, 0))) :
  Calls Tryz.prog 57 #[.pointer (some ⟨b, 0, none⟩)] w fun e w' => e = .returned (.tuple #[]) ∧ w' = w.setCell ⟨b, 0, none⟩ (.pointer (some ⟨b, 0, none⟩)) := by
 obtain ⟨j, hj, hjs⟩ := Option.map_eq_some_iff.1 Tryz.bcSize;have h0 : w.cell? ⟨b, 0, none⟩ = some (.pointer none) := by rw [Lib.cell_of_heap hb]; rfl
 have hsh : w.shape? b = some (81, 2) := by simp [World.shape?, hb]
 have hfz : w.frozen? ⟨b, 0, none⟩ = false := Lib.frozen_of_heap hb 0
 go_enter Tryz.func57, Tryz.ntmps57
 go_wp2;rw [Lib.run_to_unsafe w ⟨b, 0, none⟩ Tryz.underlying79 Tryz.underlying163 hj (by rw [hjs]; decide) hsh (Nat.zero_lt_succ 1)];simp only [Result.andThen];rw [Oper.upon_value];go_wp2;rw [run_callFunc_extern Tryz.func93 (by kernel_rfl) (by kernel_rfl) (by kernel_rfl) (e := Extern.AbiNoEscape.same) (by kernel_rfl)];rw [Lib.run_noEscape];simp only [Result.andThen];rw [Oper.upon_value];go_wp2;rw [Lib.run_from_unsafe w ⟨b, 0, none⟩ Tryz.underlying163 Tryz.underlying79 hj hsh Tryz.bcLies];simp only [Result.andThen];rw [Oper.upon_value];go_wp2
 go_end0
 exact ⟨rfl, rfl⟩
set_option maxHeartbeats 1000000 in
set_option maxRecDepth 100000 in
theorem Tryz.bcUsed (b : Nat) (w : World) (v : Value) (hb : w.heap[b]? = some (.cells #[.pointer (some ⟨b, 0, none⟩), v] 81 (0, 0))) :
  Calls Tryz.prog 57 #[.pointer (some ⟨b, 0, none⟩)] w fun e w' => e = .returned (.tuple #[]) ∧ w' = w := by
 obtain ⟨j, hj, hjs⟩ := Option.map_eq_some_iff.1 Tryz.bcSize;have h0 : w.cell? ⟨b, 0, none⟩ = some (.pointer (some ⟨b, 0, none⟩)) := by rw [Lib.cell_of_heap hb]; rfl
 go_enter Tryz.func57, Tryz.ntmps57
 go_wp2;rw [Lib.run_neq_ptr_same w _ Tryz.underlying79 hj];go_wp2
 go_end0
 exact ⟨rfl, rfl⟩
theorem Tryz.bcAny (b : Nat) (w : World) (p v : Value) (n : Nat) (xs : List Value) (hb : w.heap[b]? = some (.cells #[p, v] 81 (0, 0))) (hp : p = .pointer none ∨ p = .pointer (some ⟨b, 0, none⟩))
  (hown : w.ownsRow 0 5 1 v n xs) (hne : v.ownBlock ≠ some b) :
  Calls Tryz.prog 57 #[.pointer (some ⟨b, 0, none⟩)] w fun e w' => e = .returned (.tuple #[]) ∧ w'.heap[b]? = some (.cells #[.pointer (some ⟨b, 0, none⟩), v] 81 (0, 0)) ∧
   w'.ownsRow 0 5 1 v n xs ∧ w'.heap.size = w.heap.size ∧ WrKeep b v.ownBlock w w' ∧ ∀ k, k ≠ b → w'.heap[k]? = w.heap[k]? := by
 rcases hp with rfl | rfl
 ·refine (Tryz.bcFresh b w v hb).mono ?_;rintro e w' ⟨rfl, rfl⟩;refine ⟨rfl, by simp [World.setCell, Array.getElem?_modify, hb], ?_, by simp [World.setCell], WrKeep.setCell _ _ _ _ _, fun k hk => heap_setCell_ne hk⟩;exact hown.kept (row := some b) ⟨rfl, rfl, rfl, by simp [World.setCell], fun k _ hk => heap_setCell_ne (fun e => hk (by simp [e]))⟩ (.inr hne)
 ·refine (Tryz.bcUsed b w v hb).mono ?_;rintro e w' ⟨rfl, rfl⟩;exact ⟨rfl, hb, hown, rfl, WrKeep.refl _ _ _, fun _ _ => rfl⟩
end Go.Proofs
end
section

end
section
namespace Go.Proofs
open Go.Ab
@[simp] def gC.out (_x0 : Int) (_x1 : Int) (r : ByteArray) : Out := { av := .lit (.string r), M := none }
def gC.fin (x0 : Int) (x1 : Int) (r : ByteArray) (σ : St) : Prop := finK (gC.out x0 x1 r) [] σ.M (resA Tryz.ty σ.A σ.M Tryz.f54.results.toList)
set_option maxHeartbeats 4000000 in
set_option maxRecDepth 100000 in
theorem gC.can (x0 : Int) (x1 : Int) (r : ByteArray) (hr : gC x0 x1 = some r) : CallOk Tryz.prog 54 [.lit (.int .i64 x0), .lit (.int .u64 x1)] [] (gC.out x0 x1 r) := by
 unfold gC at hr;have hΓ := gamL_nil (P := Tryz.prog);refine cw Tryz.func54 rfl (by kernel_rfl) rfl rfl (by simp) fun _ _ _ => ?_;refine tq hΓ [] [] ?_;refine tq hΓ [5] [] ?_;refine AWp.seq ?_;refine tq hΓ [6] [] ?_;refine AWp.loopE (fun (s1 : Int × ByteArray × Int) (γ1 : Unit) => ⟨[⟨6, none, .n s1.1⟩, ⟨5, none, .s s1.2.1⟩, ⟨0, none, .n x0⟩, ⟨1, none, .lit (.int .u64 s1.2.2)⟩], []⟩) (fun (v1 : ByteArray) (γ1a : Unit) => ⟨[⟨5, none, .s v1⟩], []⟩) (gC.fin x0 x1) hr () 0 (by simp) (fun s1 f γ1 hr => ?_) (fun v1 γ1a σ1 m1 hr hc => ?_) (fun _ h => h)
 ·unfold gC.loop1 at hr;refine AWp.seq ?_;refine tq hΓ [11] [] ?_;refine AWp.cnd hr (by simp) (fun h5 hr => ?_) (fun h5 hr => ?_)
  ·refine AWp.skip ?_;refine AWp.seq ?_;refine AWp.block ?_;obtain ⟨h6, hr⟩ := Lb hr;obtain ⟨h7, hr⟩ := Lb hr;refine tq hΓ [5] [11] ?_ (by simp [h5, h6, h7]; exact rr);obtain ⟨h8, hr⟩ := Lb hr;refine tl hΓ [1] [] ?_ (by simp [h6]; exact rr);refine tl hΓ [6] [] ?_ (by simp; exact rr);obtain rfl := La hr;exact Lo () 0 (by first | (simp; done) | simp [h5, h6, h7, h8])
  ·refine AWp.exit ?_;obtain rfl := La hr;exact Lp () 0 (by first | (simp; done) | simp [h5])
 ·refine AWp.conv hc ?_;refine tq hΓ [4] [5] ?_;obtain rfl := La hr;exact AWp.ret (Ld (by simp))
@[simp] noncomputable def gC.S : Sp
  | [.lit (.int .i64 x0), .lit (.int .u64 x1)], _ => some { av := .lit (.string ((gC x0 x1).getD dflt)), M := none, obl := (gC x0 x1).isSome = true }
  | _, _ => none
set_option maxHeartbeats 1000000 in
theorem gC.ok : SpecOk Tryz.prog 54 gC.S := by
 intro l M out h;unfold gC.S at h;split at h
 ·rename_i x0 x1;cases h;refine callOk_of fun ho => ?_;have hs := ho;obtain ⟨r, hr⟩ := so1 hs;simp only [hr, gd1];have q := Lg (M := M) [] (gC.can x0 x1 r hr) (by simp) rfl ixn;exact callOk_conv q trivial (by simp) (by simp [frameOut]) (by simp [frameOut])
 ·cases h
end Go.Proofs
end
section
namespace Go.Ab
end Go.Ab
end
