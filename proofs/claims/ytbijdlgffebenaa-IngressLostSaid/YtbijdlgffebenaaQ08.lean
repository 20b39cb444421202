/- What these functions compute, as plain functions. No condition. -/
import Derived.Test.YtbijdlgffebenaaTs
import Derived.Test.YtbijdlgffebenaaQ09
import Derived.Test.YtbijdlgffebenaaQ02
import Derived.Test.YtbijdlgffebenaaQ04
import Derived.Test.YtbijdlgffebenaaJb
section
namespace Go.Proofs
open Go.Ab
noncomputable def ga.loop1 (x2 : List Int) (s1 : Int × (List (Int × Int))) : Option (Fl (Int × (List (Int × Int))) (Fl (List (Int × Int)) Bool)) :=
 bif (pickB (ltI s1.1 (lenL x2)) (ltI s1.1 20) false) then (
  need (InB s1.1 (lenL x2)) <|
  some (.go ((addI .i64 s1.1 1), (setM eqI (addI .i64 1 (bitsOp .and .i64 (nthI x2 s1.1) 63)) (addI .i64 (getM eqI (addI .i64 1 (bitsOp .and .i64 (nthI x2 s1.1) 63)) 0 s1.2) 1) s1.2)))
 ) else (
  some (.out (.go s1.2))
 )

noncomputable def ga.loop2 (r4 : List Tb) (_s2 : Unit) : Option (Fl Unit (Fl Unit Bool)) :=
 bif (ltI 0 (lenL r4)) then (
  need (InB 0 (lenL r4)) <|
  none
 ) else (
  some (.out (.go ()))
 )

noncomputable def ga.loop3 (x2 : List Int) (s3 : Int × (List (Int × Int))) : Option (Fl (Int × (List (Int × Int))) (Fl (List (Int × Int)) Bool)) :=
 bif (pickB (ltI s3.1 (lenL x2)) (ltI s3.1 20) false) then (
  need (InB s3.1 (lenL x2)) <|
  some (.go ((addI .i64 s3.1 1), (setM eqI (addI .i64 1 (bitsOp .and .i64 (nthI x2 s3.1) 63)) (addI .i64 (getM eqI (addI .i64 1 (bitsOp .and .i64 (nthI x2 s3.1) 63)) 0 s3.2) 1) s3.2)))
 ) else (
  some (.out (.go s3.2))
 )

noncomputable def ga.loop4 (r4 : List Tb) (v3 : (List (Int × Int))) (s4 : Int × Int × Int × (List (Int × Ta)) × Tk × Bool × Int × Int × Th × (List (Int × Tb)) × Tv × Tt × Int × Int × (List (Int × Ta)) × Tk × Bool × Int × Int × Th × (List (Int × Tb)) × Tv × Tt × Int × Int) : Option (Fl (Int × Int × Int × (List (Int × Ta)) × Tk × Bool × Int × Int × Th × (List (Int × Tb)) × Tv × Tt × Int × Int × (List (Int × Ta)) × Tk × Bool × Int × Int × Th × (List (Int × Tb)) × Tv × Tt × Int × Int) (Fl (Int × Int × (List (Int × Ta)) × Tk × Bool × Int × Int × Th × (List (Int × Tb)) × Tv × Tt × Int × Int × (List (Int × Ta)) × Tk × Bool × Int × Int × Th × (List (Int × Tb)) × Tv × Tt × Int × Int) Bool)) :=
 bif (ltI s4.1 (lenL r4)) then (
  need (InB s4.1 (lenL r4)) <|
  ((gl (Tf.mk (Tg.mk s4.2.2.2.2.1 s4.2.2.2.2.2.1 s4.2.2.2.2.2.2.1 s4.2.2.2.1 s4.2.2.2.2.2.2.2.1) s4.2.2.2.2.2.2.2.2.1 s4.2.2.2.2.2.2.2.2.2.2.1 s4.2.2.2.2.2.2.2.2.2.2.2.1 s4.2.2.2.2.2.2.2.2.2.1 s4.2.2.2.2.2.2.2.2.2.2.2.2.1 s4.2.2.2.2.2.2.2.2.2.2.2.2.2.1) (nthI r4 s4.1) s4.1)).bind fun r5 =>
  bif (eqI (getM eqI s4.1 0 v3) 0) then (
   ((gl (Tf.mk (Tg.mk s4.2.2.2.2.2.2.2.2.2.2.2.2.2.2.2.1 s4.2.2.2.2.2.2.2.2.2.2.2.2.2.2.2.2.1 s4.2.2.2.2.2.2.2.2.2.2.2.2.2.2.2.2.2.1 s4.2.2.2.2.2.2.2.2.2.2.2.2.2.2.1 s4.2.2.2.2.2.2.2.2.2.2.2.2.2.2.2.2.2.2.1) s4.2.2.2.2.2.2.2.2.2.2.2.2.2.2.2.2.2.2.2.1 s4.2.2.2.2.2.2.2.2.2.2.2.2.2.2.2.2.2.2.2.2.2.1 s4.2.2.2.2.2.2.2.2.2.2.2.2.2.2.2.2.2.2.2.2.2.2.1 s4.2.2.2.2.2.2.2.2.2.2.2.2.2.2.2.2.2.2.2.2.1 s4.2.2.2.2.2.2.2.2.2.2.2.2.2.2.2.2.2.2.2.2.2.2.2.1 s4.2.2.2.2.2.2.2.2.2.2.2.2.2.2.2.2.2.2.2.2.2.2.2.2) (nthI r4 s4.1) s4.1)).bind fun r6 =>
   some (.go ((addI .i64 s4.1 1), (addI .i64 s4.2.1 (lenL r5.1)), (addI .i64 s4.2.2.1 (lenL r6.1)), r5.2.2.fa.fOf, r5.2.2.fa.fb, r5.2.2.fa.fd, r5.2.2.fa.fg, r5.2.2.fa.fe, r5.2.2.fc, r5.2.2.fOf, r5.2.2.ff, r5.2.2.fh, r5.2.2.fp, r5.2.2.fm, r6.2.2.fa.fOf, r6.2.2.fa.fb, r6.2.2.fa.fd, r6.2.2.fa.fg, r6.2.2.fa.fe, r6.2.2.fc, r6.2.2.fOf, r6.2.2.ff, r6.2.2.fh, r6.2.2.fp, r6.2.2.fm))
  ) else (
   some (.go ((addI .i64 s4.1 1), (addI .i64 s4.2.1 (lenL r5.1)), s4.2.2.1, r5.2.2.fa.fOf, r5.2.2.fa.fb, r5.2.2.fa.fd, r5.2.2.fa.fg, r5.2.2.fa.fe, r5.2.2.fc, r5.2.2.fOf, r5.2.2.ff, r5.2.2.fh, r5.2.2.fp, r5.2.2.fm, s4.2.2.2.2.2.2.2.2.2.2.2.2.2.2.1, s4.2.2.2.2.2.2.2.2.2.2.2.2.2.2.2.1, s4.2.2.2.2.2.2.2.2.2.2.2.2.2.2.2.2.1, s4.2.2.2.2.2.2.2.2.2.2.2.2.2.2.2.2.2.1, s4.2.2.2.2.2.2.2.2.2.2.2.2.2.2.2.2.2.2.1, s4.2.2.2.2.2.2.2.2.2.2.2.2.2.2.2.2.2.2.2.1, s4.2.2.2.2.2.2.2.2.2.2.2.2.2.2.2.2.2.2.2.2.1, s4.2.2.2.2.2.2.2.2.2.2.2.2.2.2.2.2.2.2.2.2.2.1, s4.2.2.2.2.2.2.2.2.2.2.2.2.2.2.2.2.2.2.2.2.2.2.1, s4.2.2.2.2.2.2.2.2.2.2.2.2.2.2.2.2.2.2.2.2.2.2.2.1, s4.2.2.2.2.2.2.2.2.2.2.2.2.2.2.2.2.2.2.2.2.2.2.2.2))
  )
 ) else (
  some (.out (.go (s4.2.1, s4.2.2.1, s4.2.2.2.1, s4.2.2.2.2.1, s4.2.2.2.2.2.1, s4.2.2.2.2.2.2.1, s4.2.2.2.2.2.2.2.1, s4.2.2.2.2.2.2.2.2.1, s4.2.2.2.2.2.2.2.2.2.1, s4.2.2.2.2.2.2.2.2.2.2.1, s4.2.2.2.2.2.2.2.2.2.2.2.1, s4.2.2.2.2.2.2.2.2.2.2.2.2.1, s4.2.2.2.2.2.2.2.2.2.2.2.2.2.1, s4.2.2.2.2.2.2.2.2.2.2.2.2.2.2.1, s4.2.2.2.2.2.2.2.2.2.2.2.2.2.2.2.1, s4.2.2.2.2.2.2.2.2.2.2.2.2.2.2.2.2.1, s4.2.2.2.2.2.2.2.2.2.2.2.2.2.2.2.2.2.1, s4.2.2.2.2.2.2.2.2.2.2.2.2.2.2.2.2.2.2.1, s4.2.2.2.2.2.2.2.2.2.2.2.2.2.2.2.2.2.2.2.1, s4.2.2.2.2.2.2.2.2.2.2.2.2.2.2.2.2.2.2.2.2.1, s4.2.2.2.2.2.2.2.2.2.2.2.2.2.2.2.2.2.2.2.2.2.1, s4.2.2.2.2.2.2.2.2.2.2.2.2.2.2.2.2.2.2.2.2.2.2.1, s4.2.2.2.2.2.2.2.2.2.2.2.2.2.2.2.2.2.2.2.2.2.2.2.1, s4.2.2.2.2.2.2.2.2.2.2.2.2.2.2.2.2.2.2.2.2.2.2.2.2)))
 )

noncomputable def ga (x0 : Int) (x1 : List Int) (x2 : List Int) : Option Bool :=
 (gai).bind fun r1 =>
 bif (notB r1) then (
  some false
 ) else (
  ((gU true 5 4 7)).bind fun r2 =>
  ((gad r2)).bind fun r3 =>
  optC r3.1 (
   bif (pickB (notB r3.2.2) true (notB r3.2.2)) then (
    some false
   ) else (
    ((loopF (ga.loop1 x2) (0, [])).bind fun f => flC f fun (_v1 : (List (Int × Int))) =>
     ((gj x0 x1)).bind fun r4 =>
     ((loopF (ga.loop2 r4) ()).bind fun f => flC f fun (_v2 : Unit) =>
      none
     )
    )
   )
  ) fun o1 => (
   bif (pickB (notB r3.2.2) true (notB r3.2.2)) then (
    some false
   ) else (
    ((loopF (ga.loop3 x2) (0, [])).bind fun f => flC f fun (v3 : (List (Int × Int))) =>
     ((gj x0 x1)).bind fun r4 =>
     ((loopF (ga.loop4 r4 v3) (0, 0, 0, o1.fa.fOf, o1.fa.fb, o1.fa.fd, o1.fa.fg, o1.fa.fe, o1.fc, o1.fOf, o1.ff, o1.fh, o1.fp, o1.fm, o1.fa.fOf, o1.fa.fb, o1.fa.fd, o1.fa.fg, o1.fa.fe, o1.fc, o1.fOf, o1.ff, o1.fh, o1.fp, o1.fm)).bind fun f => flC f fun (v4 : Int × Int × (List (Int × Ta)) × Tk × Bool × Int × Int × Th × (List (Int × Tb)) × Tv × Tt × Int × Int × (List (Int × Ta)) × Tk × Bool × Int × Int × Th × (List (Int × Tb)) × Tv × Tt × Int × Int) =>
      ((gD (Tf.mk (Tg.mk v4.2.2.2.2.2.2.2.2.2.2.2.2.2.2.1 v4.2.2.2.2.2.2.2.2.2.2.2.2.2.2.2.1 v4.2.2.2.2.2.2.2.2.2.2.2.2.2.2.2.2.1 v4.2.2.2.2.2.2.2.2.2.2.2.2.2.1 v4.2.2.2.2.2.2.2.2.2.2.2.2.2.2.2.2.2.1) v4.2.2.2.2.2.2.2.2.2.2.2.2.2.2.2.2.2.2.1 v4.2.2.2.2.2.2.2.2.2.2.2.2.2.2.2.2.2.2.2.2.1 v4.2.2.2.2.2.2.2.2.2.2.2.2.2.2.2.2.2.2.2.2.2.1 v4.2.2.2.2.2.2.2.2.2.2.2.2.2.2.2.2.2.2.2.1 v4.2.2.2.2.2.2.2.2.2.2.2.2.2.2.2.2.2.2.2.2.2.2.1 v4.2.2.2.2.2.2.2.2.2.2.2.2.2.2.2.2.2.2.2.2.2.2.2) (addI .i64 (lenL r4) 1000))).bind fun r7 =>
      ((gv (Tf.mk (Tg.mk v4.2.2.2.1 v4.2.2.2.2.1 v4.2.2.2.2.2.1 v4.2.2.1 v4.2.2.2.2.2.2.1) v4.2.2.2.2.2.2.2.1 v4.2.2.2.2.2.2.2.2.2.1 v4.2.2.2.2.2.2.2.2.2.2.1 v4.2.2.2.2.2.2.2.2.1 v4.2.2.2.2.2.2.2.2.2.2.2.1 v4.2.2.2.2.2.2.2.2.2.2.2.2.1))).bind fun r8 =>
      need (Under (pickB (pickB (leqI (addI .i64 v4.2.1 (lenL r7.1)) v4.1) (eqI v4.1 r8.1) false) (eqI r8.2 0) false) true ((gt r7.2.fa).isSome = true)) <|
      need (Under (pickB (pickB (pickB (leqI (addI .i64 v4.2.1 (lenL r7.1)) v4.1) (eqI v4.1 r8.1) false) (eqI r8.2 0) false) (eqI ((gt r7.2.fa).getD dflt) 0) false) true ((gz r7.2.fa).isSome = true)) <|
      some (pickB (pickB (pickB (pickB (leqI (addI .i64 v4.2.1 (lenL r7.1)) v4.1) (eqI v4.1 r8.1) false) (eqI r8.2 0) false) (eqI ((gt r7.2.fa).getD dflt) 0) false) (leqI ((gz r7.2.fa).getD dflt) (lenL v3)) false)
     )
    )
   )
  )
 )
end Go.Proofs
end
section
set_option maxRecDepth 100000
namespace Go.Proofs
open Go.Ab

theorem pb (s : ByteArray) (e : Int) {p : Int → Prop} (h : ∀ n : Fin 256, p (n.val : Int)) : p (u8P s e).1 := byteD h (u8P_r s e).1 (u8P_r s e).2

theorem p64 (s : ByteArray) (e : Int) : cvtI .i64 (u8P s e).1 = (u8P s e).1 := by
  have := u8P_r s e
  exact Lu (by omega) (by omega)
theorem pA32 (s : ByteArray) (e : Int) : eqI (remI (quoI .u64 (u8P s e).1 32) 2) 1 = ltI 0 (bitsOp .and .u8 (u8P s e).1 32) := pb s e (p := fun b => eqI (remI (quoI .u64 b 32) 2) 1 = ltI 0 (bitsOp .and .u8 b 32)) (by decide)
theorem pA16 (s : ByteArray) (e : Int) : eqI (remI (quoI .u64 (u8P s e).1 16) 2) 1 = ltI 0 (bitsOp .and .u8 (u8P s e).1 16) := pb s e (p := fun b => eqI (remI (quoI .u64 b 16) 2) 1 = ltI 0 (bitsOp .and .u8 b 16)) (by decide)
theorem pA8 (s : ByteArray) (e : Int) : cvtI .i64 (remI (u8P s e).1 8) = cvtI .i64 (bitsOp .and .u8 (u8P s e).1 7) := pb s e (p := fun b => cvtI .i64 (remI b 8) = cvtI .i64 (bitsOp .and .u8 b 7)) (by decide)
theorem pB128 (s : ByteArray) (e : Int) : eqI (quoI .i64 (u8P s e).1 128) 1 = ltI 0 (bitsOp .and .u8 (u8P s e).1 128) := pb s e (p := fun b => eqI (quoI .i64 b 128) 1 = ltI 0 (bitsOp .and .u8 b 128)) (by decide)
theorem pB64 (s : ByteArray) (e : Int) : eqI (remI (quoI .i64 (u8P s e).1 64) 2) 1 = ltI 0 (bitsOp .and .u8 (u8P s e).1 64) := pb s e (p := fun b => eqI (remI (quoI .i64 b 64) 2) 1 = ltI 0 (bitsOp .and .u8 b 64)) (by decide)
theorem pB48 (s : ByteArray) (e : Int) : ltI 0 (remI (quoI .i64 (u8P s e).1 16) 4) = ltI 0 (bitsOp .and .u8 (u8P s e).1 48) := pb s e (p := fun b => ltI 0 (remI (quoI .i64 b 16) 4) = ltI 0 (bitsOp .and .u8 b 48)) (by decide)
theorem pB32 (s : ByteArray) (e : Int) : eqI (remI (quoI .i64 (u8P s e).1 32) 2) 1 = ltI 0 (bitsOp .and .u8 (u8P s e).1 32) := pb s e (p := fun b => eqI (remI (quoI .i64 b 32) 2) 1 = ltI 0 (bitsOp .and .u8 b 32)) (by decide)
theorem pB16 (s : ByteArray) (e : Int) : eqI (remI (quoI .i64 (u8P s e).1 16) 2) 1 = ltI 0 (bitsOp .and .u8 (u8P s e).1 16) := pb s e (p := fun b => eqI (remI (quoI .i64 b 16) 2) 1 = ltI 0 (bitsOp .and .u8 b 16)) (by decide)
theorem pC64 (s : ByteArray) (e : Int) : cvtI .i64 (quoI .u64 (u8P s e).1 64) = cvtI .i64 (shrI .u8 (u8P s e).1 6) := pb s e (p := fun b => cvtI .i64 (quoI .u64 b 64) = cvtI .i64 (shrI .u8 b 6)) (by decide)
theorem pC31 (s : ByteArray) (e : Int) : cvtI .i64 (remI (u8P s e).1 32) = cvtI .i64 (bitsOp .and .u8 (u8P s e).1 31) := pb s e (p := fun b => cvtI .i64 (remI b 32) = cvtI .i64 (bitsOp .and .u8 b 31)) (by decide)

theorem picS (s t : ByteArray) (e f : Int) (h : ltI 127 (u8P s e).1 = true) :
    bitsOp .or .i64 (shlI .i64 (bitsOp .and .i64 (u8P s e).1 127) 8) (u8P t f).1 = addI .i64 (mulI .i64 (cvtI .i64 (subI .u64 (u8P s e).1 128)) 256) (u8P t f).1 := by
  have h' : 127 < (u8P s e).1 := by rw [ltI_d] at h; simpa using h
  have r1 := u8P_r s e
  have r2 := u8P_r t f
  generalize (u8P s e).1 = n at *
  generalize (u8P t f).1 = m at *
  have a1 : bitsOp .and .i64 n 127 = n % 128 := and_mask' (j := 7) (by omega) n 127 rfl
  have a2 : shlI .i64 (n % 128) 8 = (n % 128) * 256 := by
    show IntKind.i64.wrap ((n % 128) * 256) = _
    exact Lu (by omega) (by omega)
  have a3 : subI .u64 n 128 = n - 128 := by unfold subI; rw [wrapU64]; omega
  have a4 : cvtI .i64 (n - 128) = n - 128 := Lu (by omega) (by omega)
  have a5 : mulI .i64 (n - 128) 256 = (n - 128) * 256 := mulI_n (by omega) (by omega)
  rw [a1, a2, a3, a4, a5, addI_n (by omega) (by omega)]
  rw [or_add (j := 8) (by omega) (by show _ % 256 = 0; omega) r2.1 (by show m < 256; omega) (by omega)]
  omega

theorem nz {n : Int} (h : n ≠ 0) : NonZ n := h
theorem rbytes_rest (s : ByteArray) : gI ⟨s, 0⟩ = some (cutS s 0 (lenS s), ⟨cutS s (lenS s) (lenS s), 0⟩) := by
  have hl : 0 ≤ lenS s := by unfold lenS; omega
  unfold gI gZ gu
  dsimp only
  rw [Lb, show neI 0 0 = false from rfl, cond_false, ltI_d, ltI_d, decide_eq_false (by omega), cond_false, decide_eq_false (by omega), cond_false, Le ⟨by omega, by omega, by omega⟩, Le ⟨by omega, by omega, by omega⟩]
  rfl
theorem cut_all (s : ByteArray) : cutS s 0 (lenS s) = s := by
  unfold cutS lenS
  simp [ByteArray.extract_zero_size]

theorem fin_eq (t : ByteArray) (e : Int) (d : Td) : ((gW ⟨t, e⟩).bind fun r8 =>
      bif neI r8 0 then some ((Td.mk false false 0 0 false 0 0 false 0), (⟨#[]⟩ : ByteArray), r8)
      else (gI ⟨t, e⟩).bind fun r9 => some (d, r9.1, 0)) =
    bif neI e 0 then some ((Td.mk false false 0 0 false 0 0 false 0), (⟨#[]⟩ : ByteArray), e) else some (d, t, 0) := by
  unfold gW
  rw [Lb]
  by_cases he : e = 0
  · subst he
    rw [rbytes_rest, Lb, cut_all]
  · rw [neI_d, decide_eq_true he]; rfl

theorem z128 : ltI 0 (bitsOp .and .u8 0 128) = false := by decide
theorem z64 : ltI 0 (bitsOp .and .u8 0 64) = false := by decide
theorem z48 : ltI 0 (bitsOp .and .u8 0 48) = false := by decide
theorem y128 : eqI (quoI .i64 0 128) 1 = false := by decide
theorem y64 : eqI (remI (quoI .i64 0 64) 2) 1 = false := by decide
theorem y48 : ltI 0 (remI (quoI .i64 0 16) 4) = false := by decide

set_option maxHeartbeats 4000000 in
theorem parse_eq (s : ByteArray) : gah s = gay s := by
  unfold gah gay gak gac
  simp only [Lb, ou8, rtake, Le (nz (show (32 : Int) ≠ 0 by decide)), Le (nz (show (2 : Int) ≠ 0 by decide)), Le (nz (show (16 : Int) ≠ 0 by decide)), Le (nz (show (8 : Int) ≠ 0 by decide)),
    pA32, pA16, pA8]
  cases h1 : ltI 127 (u8P s 0).1
  all_goals simp only [cond_true, cond_false, Lb, flC_go, p64]
  all_goals unfold gaF gaE
  all_goals simp only [Le (nz (show (128 : Int) ≠ 0 by decide)), Le (nz (show (64 : Int) ≠ 0 by decide)), Le (nz (show (32 : Int) ≠ 0 by decide)), Le (nz (show (2 : Int) ≠ 0 by decide)), Le (nz (show (16 : Int) ≠ 0 by decide)), Le (nz (show (4 : Int) ≠ 0 by decide)),
    Le (show NonN 8 by decide), Le (show NonN 6 by decide), pB128, pB64, pB48, pB32, pB16, gX, Lb, ou8, rtake, p64]
  · simp only [z128, z64, z48, y128, y64, y48, cond_false, Lb, flC_go, fin_eq]
  · generalize (u8P s 0).2.1 = t1
    generalize (u8P s 0).2.2 = e1
    cases h2 : ltI 0 (bitsOp .and .u8 (u8P t1 e1).1 128) <;> cases h3 : ltI 127 (u8P (u8P t1 e1).2.1 (u8P t1 e1).2.2).1
    all_goals try rw [picS _ _ _ _ h3]
    all_goals simp only [cond_true, cond_false, Lb, flC_go, ou8, rtake, p64]
    all_goals (
      cases h4 : ltI 0 (bitsOp .and .u8 (u8P t1 e1).1 64) <;> simp only [cond_true, cond_false, Lb, flC_go, ou8, rtake] <;>
      cases h5 : ltI 0 (bitsOp .and .u8 (u8P t1 e1).1 48) <;> simp only [cond_true, cond_false, Lb, flC_go, fin_eq, pA32, pC64, pC31] <;>
      cases h6 : ltI 0 (bitsOp .and .u8 (u8P t1 e1).1 32) <;> simp only [cond_true, cond_false, Lb, flC_go] <;>
      cases h7 : ltI 0 (bitsOp .and .u8 (u8P t1 e1).1 16) <;> simp only [cond_true, cond_false, Lb, flC_go, fin_eq])
end Go.Proofs
end
