import Derived.Test.YtpamnignoocogaaGreatDoorM15
import Derived.Test.YtpamnignoocogaaGreatDoorM17
import Derived.Test.YtpamnignoocogaaGreatDoorM04
import Derived.Test.YtpamnignoocogaaGreatDoorM14
import Derived.Test.YtpamnignoocogaaGreatDoorM13
import Derived.Lib.AtoiErrMem
import Derived.Test.YtpamnignoocogaaGreatDoorM20
import Derived.Test.YtpamnignoocogaaGreatDoorM06
import Derived.Test.YtpamnignoocogaaGreatDoorM11
import Derived.Laws.Bits64
import Derived.Laws.BitsAllLaws
import Derived.Test.YtpamnignoocogaaGreatDoorM05
import Derived.HandedShaped
section
namespace Go.Proofs
open Go.Ab
noncomputable def gO (x0 : Int) : Option ByteArray :=
 bif (eqI x0 1) then (
  some ⟨#[114]⟩
 ) else (
   bif (eqI x0 2) then (
    some ⟨#[112]⟩
   ) else (
     bif (eqI x0 3) then (
      some ⟨#[112, 116, 115]⟩
     ) else (
       bif (eqI x0 4) then (
        some ⟨#[112, 116]⟩
       ) else (
         bif (eqI x0 5) then (
          some ⟨#[112, 111, 116, 108]⟩
         ) else (
           bif (eqI x0 6) then (
            some ⟨#[112, 111, 116]⟩
           ) else (
             bif (eqI x0 7) then (
              some ⟨#[112, 116, 98]⟩
             ) else (
               bif (eqI x0 8) then (
                some ⟨#[112, 111, 116, 98]⟩
               ) else (
                 some ⟨#[]⟩
               )
             )
           )
         )
       )
     )
   )
 )
noncomputable def gz.loop1 (x1 : Int) (r1 : ByteArray) (s1 : Nat) : Option (Fl Nat (Fl Unit Bool)) :=
 bif (nextB r1 s1) then (
  bif (eqI (runeS r1 s1) x1) then (
   some (.out (.out true))
  ) else (
    some (.go (stepS r1 s1))
  )
 ) else (
   some (.out (.go ()))
 )
noncomputable def gz (x0 : Int) (x1 : Int) : Option Bool :=
 ((gO x0)).bind fun r1 =>
 ((loopF (gz.loop1 x1 r1) 0).bind fun f => flC f fun (_v1 : Unit) =>
   some false
 )
noncomputable def gU (x0 : Int) : Option Bool :=
 some (pickB (leqI 0 x0) (leqI x0 65535) false)
noncomputable def gu (x0 : Ta) : Option Bool :=
 ((
  ((
   ((gz x0.fa 114)).bind fun r1 =>
   need (Under (notB r1) true (CatB x0.fc x0.fe)) <|
   bif (pickB (notB r1) (neS (catS x0.fc x0.fe) ⟨#[]⟩) false) then (
    some (.go true)
   ) else (
     ((gz x0.fa 112)).bind fun r2 =>
     bif (pickB (notB r2) (neI x0.fd 0) false) then (
      some (.go true)
     ) else (
       ((gz x0.fa 111)).bind fun r3 =>
       bif (pickB (notB r3) (neI x0.fOf 0) false) then (
        some (.go true)
       ) else (
         ((gz x0.fa 116)).bind fun r4 =>
         some (.go (pickB (notB r4) (neI x0.fg 0) false))
       )
     )
   )
   : Option (Fl Bool (Fl Unit Bool))).bind fun f => flC f fun (v2 : Bool) =>
   bif v2 then (
    some (.out false)
   ) else (
     ((
      ((gz x0.fa 108)).bind fun r5 =>
      bif (pickB (notB r5) (neI x0.fh 0) false) then (
       some (.go true)
      ) else (
        ((gz x0.fa 98)).bind fun r6 =>
        bif (pickB (notB r6) x0.fOn false) then (
         some (.go true)
        ) else (
          ((gz x0.fa 115)).bind fun r7 =>
          some (.go (pickB (notB r7) (pickB x0.ff true (ltI 0 (lenL x0.fb))) false))
        )
      )
      : Option (Fl Bool (Fl Unit Bool))).bind fun f => flC f fun (v3 : Bool) =>
      bif v3 then (
       some (.out false)
      ) else (
        some (.go ())
      )
     )
   )
  )
  : Option (Fl Unit Bool)).bind fun f => flC f fun (_v1 : Unit) =>
  some true
 )
noncomputable def gc.loop2 (x0 : Ta) (s1 : Int) (s2 : Int) : Option (Fl Int (Fl Unit (Fl Int (Fl Unit Int)))) :=
 bif (ltI s2 (lenL (cutL x0.fb 0 s1))) then (
  need (InB s2 (lenL (cutL x0.fb 0 s1))) <|
  bif (eqI (nthI x0.fb s1) (nthI (cutL x0.fb 0 s1) s2)) then (
   some (.out (.out (.out (.out 10))))
  ) else (
    some (.go (addI .i64 s2 1))
  )
 ) else (
   some (.out (.go ()))
 )
noncomputable def gc.loop1 (x0 : Ta) (s1 : Int) : Option (Fl Int (Fl Unit Int)) :=
 bif (ltI s1 (lenL x0.fb)) then (
  need (InB s1 (lenL x0.fb)) <|
  need (CutB 0 s1 (lenL x0.fb)) <|
  ((loopF (gc.loop2 x0 s1) 0).bind fun f => flC f fun (_v2 : Unit) =>
    some (.go (addI .i64 s1 1))
  )
 ) else (
   some (.out (.go ()))
 )
noncomputable def gc (x0 : Ta) : Option Int :=
 bif (pickB (pickB (ltI (lenL x0.fb) 1) true (ltI 3 (lenL x0.fb))) true (pickB (ltI 1 (lenL x0.fb)) (notB x0.ff) false)) then (
  some 5
 ) else (
   ((loopF (gc.loop1 x0) 0).bind fun f => flC f fun (_v1 : Unit) =>
     some 0
   )
 )
noncomputable def gt (x0 : Ta) : Option Int :=
 ((gO x0.fa)).bind fun r1 =>
 bif (eqS r1 ⟨#[]⟩) then (
  some 3
 ) else (
   ((gu x0)).bind fun r2 =>
   bif (notB r2) then (
    some 2
   ) else (
     ((gU x0.fd)).bind fun r3 =>
     need (Under (notB r3) false ((gU x0.fOf).isSome = true)) <|
     bif (pickB (pickB (pickB (pickB (pickB (notB r3) true (notB ((gU x0.fOf).getD dflt))) true (ltI x0.fg 0)) true (leqI 4 x0.fg)) true (ltI x0.fh 0)) true (leqI 3 x0.fh)) then (
      some 5
     ) else (
       need (Under (eqI x0.fa 1) true ((gC x0.fc).isSome = true)) <|
       need (Under (neI ((gC x0.fc).getD dflt) 0) false (Under (eqI x0.fa 1) true ((gC x0.fe).isSome = true))) <|
       bif (pickB (eqI x0.fa 1) (pickB (neI ((gC x0.fc).getD dflt) 0) true (neI ((gC x0.fe).getD dflt) 0)) false) then (
        some 6
       ) else (
         bif (eqI x0.fa 3) then (
          ((gc x0)).bind fun r4 =>
          some r4
         ) else (
           some 0
         )
       )
     )
   )
 )
noncomputable def gY (x0 : Bool) : Option Int :=
 bif x0 then (
  some 1
 ) else (
   some 0
 )
noncomputable def gi.loop1 (x0 : Ta) (r1 : ByteArray) (s1 : List Int × Nat) : Option (Fl (List Int × Nat) (Fl (List Int) ByteArray)) :=
 bif (nextB r1 s1.2) then (
  bif (eqI (runeS r1 s1.2) 114) then (
   need (AppB (lenL s1.1) 1 1) <|
   ((gn (appL s1.1 [(cvtI .u8 (lenS x0.fc))]) [x0.fc])).bind fun r2 =>
   need (AppB (lenL r2) 1 1) <|
   ((gn (appL r2 [(cvtI .u8 (lenS x0.fe))]) [x0.fe])).bind fun r3 =>
   some (.go (r3, (stepS r1 s1.2)))
  ) else (
    bif (eqI (runeS r1 s1.2) 112) then (
     ((gl s1.1 [(cvtI .u16 x0.fd)])).bind fun r4 =>
     some (.go (r4, (stepS r1 s1.2)))
    ) else (
      bif (eqI (runeS r1 s1.2) 111) then (
       ((gl s1.1 [(cvtI .u16 x0.fOf)])).bind fun r5 =>
       some (.go (r5, (stepS r1 s1.2)))
      ) else (
        bif (eqI (runeS r1 s1.2) 116) then (
         need (AppB (lenL s1.1) 1 1) <|
         some (.go ((appL s1.1 [(cvtI .u8 x0.fg)]), (stepS r1 s1.2)))
        ) else (
          bif (eqI (runeS r1 s1.2) 108) then (
           need (AppB (lenL s1.1) 1 1) <|
           some (.go ((appL s1.1 [(cvtI .u8 x0.fh)]), (stepS r1 s1.2)))
          ) else (
            bif (eqI (runeS r1 s1.2) 98) then (
             ((gY x0.fOn)).bind fun r6 =>
             need (AppB (lenL s1.1) 1 1) <|
             some (.go ((appL s1.1 [r6]), (stepS r1 s1.2)))
            ) else (
              bif (eqI (runeS r1 s1.2) 115) then (
               ((gY x0.ff)).bind fun r7 =>
               need (AppB (lenL s1.1) 2 1) <|
               ((gm (appL s1.1 [r7, (cvtI .u8 (lenL x0.fb))]) x0.fb)).bind fun r8 =>
               some (.go (r8, (stepS r1 s1.2)))
              ) else (
                some (.go (s1.1, (stepS r1 s1.2)))
              )
            )
          )
        )
      )
    )
  )
 ) else (
   some (.out (.go s1.1))
 )
noncomputable def gi (x0 : Ta) : Option ByteArray :=
 need (AppB 0 1 1) <|
 ((gO x0.fa)).bind fun r1 =>
 ((loopF (gi.loop1 x0 r1) ((appL [] [(cvtI .u8 x0.fa)]), 0)).bind fun f => flC f fun (v1 : List Int) =>
   need (TextB v1) <|
   some (strOfNums v1)
 )
end Go.Proofs
end
section
namespace Go.Proofs
open Go.Ab
noncomputable def ga (x0 : ByteArray) : Option (Tc × Int) :=
 need (x0.size < 4294967281) <|
 (gB).bind fun r1 =>
 need (InB 0 (lenL (splitT x0 32))) <|
 need (lenL r1 ≤ 140737488355328) <|
 bif (notB (hasT r1 (nthI (splitT x0 32) 0))) then (
  some ((Tc.mk 0 0 ⟨#[]⟩ 0), 3)
 ) else (
   need (InB 0 (lenL (splitT x0 32))) <|
   need (CutB 1 (lenL (splitT x0 32)) (lenL (splitT x0 32))) <|
   ((gj (nthI (splitT x0 32) 0) (cutL (splitT x0 32) 1 (lenL (splitT x0 32))))).bind fun r2 =>
   bif r2.2 then (
    some ((Tc.mk r2.1.fa r2.1.fd r2.1.fj r2.1.fN), 0)
   ) else (
     need (InB 0 (lenL (splitT x0 32))) <|
     need (CutB 1 (lenL (splitT x0 32)) (lenL (splitT x0 32))) <|
     ((gN (nthI (splitT x0 32) 0) (cutL (splitT x0 32) 1 (lenL (splitT x0 32))))).bind fun r3 =>
     bif (notB r3.2) then (
      some ((Tc.mk 0 0 ⟨#[]⟩ 0), 2)
     ) else (
       ((gt r3.1)).bind fun r4 =>
       bif (neI r4 0) then (
        some ((Tc.mk 0 0 ⟨#[]⟩ 0), r4)
       ) else (
         ((gi r3.1)).bind fun r5 =>
         some ((Tc.mk 2 0 r5 0), 0)
       )
     )
   )
 )
end Go.Proofs
end
section
namespace Go.Proofs
open Go.Ab
noncomputable def gy.loop2 (v1 : List ByteArray) (s2 : Int × List Tc) : Option (Fl (Int × List Tc) (Fl (List Tc) (List Tc × Int × Int))) :=
 bif (ltI s2.1 (lenL v1)) then (
  need (InB s2.1 (lenL v1)) <|
  ((ga (nthI v1 s2.1))).bind fun r1 =>
  bif (neI r1.2 0) then (
   some (.out (.out ([], s2.1, r1.2)))
  ) else (
    need (AppB (lenL s2.2) 1 40) <|
    some (.go ((addI .i64 s2.1 1), (appL s2.2 [(Tc.mk r1.1.fa r1.1.fd r1.1.fj r1.1.fN)])))
  )
 ) else (
   some (.out (.go s2.2))
 )
noncomputable def gy (x0 : ByteArray) : Option (List Tc × Int × Int) :=
 need (x0.size < 4294967281) <|
 ((
  need (InB (subI .i64 (lenL (splitT x0 10)) 1) (lenL (splitT x0 10))) <|
  bif (eqS (nthI (splitT x0 10) (subI .i64 (lenL (splitT x0 10)) 1)) ⟨#[]⟩) then (
   need (CutB 0 (subI .i64 (lenL (splitT x0 10)) 1) (lenL (splitT x0 10))) <|
   some (.go (cutL (splitT x0 10) 0 (subI .i64 (lenL (splitT x0 10)) 1)))
  ) else (
    some (.go (splitT x0 10))
  )
  : Option (Fl (List ByteArray) (List Tc × Int × Int))).bind fun f => flC f fun (v1 : List ByteArray) =>
  bif (ltI 500 (lenL v1)) then (
   some ([], (lenL v1), 4)
  ) else (
    ((loopF (gy.loop2 v1) (0, [])).bind fun f => flC f fun (v2 : List Tc) =>
      some (v2, 0, 0)
    )
  )
 )
end Go.Proofs
end
section
namespace Go.Ab
open Go.Proofs Go.RowKit Go.Shelf
@[simp] def trimA : Sp
  | [.lit (.string s), .lit (.string c)], _ => some { av := .lit (.string (trimB s c)), obl := s.size ≤ 9223372036854775807 ∧ AsciiB c }
  | _, _ => none
@[simp] def atoiA : Sp
  | [.lit (.string s)], _ => some { av := .tup [.lit (.int .i64 ((Lib.atoi s.data.toList).getD 0)), .lit .nilIface], obl := s.size ≤ 18 ∧ (Lib.atoi s.data.toList).isSome = true }
  | _, _ => none
@[simp] def hasA : Sp
  | [.sl els _, .lit (.string x)], _ => some { av := .lit (.bool (hasT (els.map decS) x)), obl := els = (els.map decS).map eTxt ∧ lenL els ≤ 140737488355328 }
  | _, _ => none
end Go.Ab
namespace Go.Proofs
open Go.RowKit Go.Ab Go.Shelf
theorem gTrim.ok : SpecOk Tryz.prog 94 trimA := by
 intro l M out h;unfold trimA at h;split at h
 ·rename_i s c;cases h;intro g vs hM sm hr ho;cases hr with | cons hv hr => cases hr with | cons hc hr => cases hr with | nil =>
  cases hv;cases hc;obtain ⟨h1, h2, h3⟩ := ho;exact ok_below (fun _ _ => by kernel_rfl) sm (Any.strings_Trim_laid Tryz.laysTrim (by kernel_rfl) s c g.w h1 h2 (ascii_of_all h3))
 ·cases h
theorem gAtoi.ok : SpecOk Tryz.prog 95 atoiA := by
 intro l M out h;unfold atoiA at h;split at h
 ·rename_i s;cases h;intro g vs hM sm hr ho;cases hr with | cons hv hr => cases hr with | nil =>
  cases hv;obtain ⟨h1, h2⟩ := ho;obtain ⟨n, hn⟩ := Option.isSome_iff_exists.1 h2;refine ⟨by kernel_rfl, (Any.strconv_Atoi Tryz.laysAtoi s n h1 hn g.w).mono ?_⟩;rintro e w' ⟨rfl, t, rfl⟩;have hb : Below g.w.heap.size g.w (Lib.bytesWorld g.w (Tryz.laysAtoi_ren.t 5) t) := Lib.bytesWorld_below _ _ _;refine ⟨_, rfl, g.β, g.ρ, sim_below hb sm, ?_, keep_below hb⟩;rw [hn];refine .tup _ _ rfl fun j hj => ?_
  match j, hj with
  | 0, _ => exact .lit _
  | 1, _ => exact .lit _
 ·cases h
theorem gHas.ok : SpecOk Tryz.prog 32 hasA := by
 intro l M out h;unfold hasA at h;split at h
 ·rename_i els tok x;cases h;intro g vs hM sm hr ho;cases hr with | cons hv hr => cases hr with | cons hc hr => cases hr with | nil =>
  cases hc;obtain ⟨h1, h2⟩ := ho;refine ⟨enters_of Tryz.func32 (by kernel_rfl) rfl _ _, ?_⟩;cases hv with
  | nil _ _ =>
    refine (Any.slices_Contains_string_empty Tryz.laysHas _ 0 x g.w).mono ?_;rintro e w' ⟨rfl, rfl⟩;exact ⟨_, rfl, Post.same rfl sm (.lit _)⟩
  | sl _ _ b off s cap xs hs k1 _ k3 _ _ _ =>
    have hlen : els.length ≤ 9223372036854775807 := by
     have : lenL els = els.length := rfl;omega
    have hel : ∀ j (hj : j < els.length), els[j] = [.lit (.string (els.map decS)[j]!)] := fun j hj => by
     have := congrArg (fun l => l[j]?) h1;simp only [List.getElem?_map, List.getElem?_eq_getElem hj, Option.map_some] at this;have e : (els.map decS)[j]! = decS els[j] := by simp [hj]
     rw [e];exact Option.some.inj this
    refine (Any.slices_Contains_string Tryz.laysHas b off els.length cap (els.map decS) x g.w (by simp) hlen (fun j hj => ?_)).mono ?_
    ·have hj' : j < els.length := by simpa using hj
     have hs1 : s = 1 := by rw [← hs j hj', hel j hj']; rfl
     subst hs1;have c := k1 j 0 hj' (by omega);have r := k3 j 0 hj' (by rw [hs j hj']; omega);simp only [hel j hj', List.getElem_cons_zero] at r;rw [r.lit_inv] at c;simp only [Nat.mul_one, Nat.add_zero] at c;rw [c];simp [hj']
    ·rintro e w' ⟨rfl, rfl⟩;have e2 : (els.map decS).take els.length = els.map decS := List.take_of_length_le (by simp);rw [e2];exact ⟨_, rfl, Post.same rfl sm (.lit _)⟩
 ·cases h
end Go.Proofs
end
section
namespace Go.Proofs
open Go.Ab
def hexC (n : Nat) : Int := if n < 10 then 48 + n else 87 + n
def hexV (b : UInt8) : Int := if 48 ≤ b.toNat ∧ b.toNat ≤ 57 then b.toNat - 48 else if 97 ≤ b.toNat ∧ b.toNat ≤ 102 then b.toNat - 87 else -1
@[reducible] def hexH : ByteArray := ⟨#[48, 49, 50, 51, 52, 53, 54, 55, 56, 57, 97, 98, 99, 100, 101, 102]⟩
theorem u8_cases {p : UInt8 → Prop} (h : ∀ n : Fin 256, p (UInt8.ofNat n.val)) (b : UInt8) : p b := by
 have := h ⟨b.toNat, b.toNat_lt⟩;simpa using this
def hexT (b : UInt8) : Bool :=
 idxS hexH (shrI .u8 (b.toNat : Int) 4) == hexC (b.toNat / 16) && idxS hexH (bitsOp .and .u8 (b.toNat : Int) 15) == hexC (b.toNat % 16) && decide (InB (shrI .u8 (b.toNat : Int) 4) (lenS hexH)) && decide (InB (bitsOp .and .u8 (b.toNat : Int) 15) (lenS hexH)) &&
 ixbS hexH (b.toNat : Int) == hexV b && gHexR (b.toNat : Int) == hexV b && (hexV b < 0 || (hexC (hexV b).toNat == (b.toNat : Int) && decide (hexV b < 16))) && hexV (hexC (b.toNat / 16)).toNat.toUInt8 == (b.toNat / 16 : Nat) && hexV (hexC (b.toNat % 16)).toNat.toUInt8 == (b.toNat % 16 : Nat)
where gHexR (x : Int) : Int := bif pickB (leqI 48 x) (leqI x 57) false then cvtI .i64 (subI .u8 x 48) else bif pickB (leqI 97 x) (leqI x 102) false then addI .i64 (cvtI .i64 (subI .u8 x 97)) 10 else -1
theorem hexT_all (b : UInt8) : hexT b = true := u8_cases (p := fun b => hexT b = true) (by decide +kernel) b
theorem hex_facts (b : UInt8) : idxS hexH (shrI .u8 (b.toNat : Int) 4) = hexC (b.toNat / 16) ∧ idxS hexH (bitsOp .and .u8 (b.toNat : Int) 15) = hexC (b.toNat % 16) ∧ InB (shrI .u8 (b.toNat : Int) 4) (lenS hexH) ∧ InB (bitsOp .and .u8 (b.toNat : Int) 15) (lenS hexH) ∧
  ixbS hexH (b.toNat : Int) = hexV b ∧ hexT.gHexR (b.toNat : Int) = hexV b ∧ (0 ≤ hexV b → hexC (hexV b).toNat = (b.toNat : Int) ∧ hexV b < 16) ∧ hexV (hexC (b.toNat / 16)).toNat.toUInt8 = (b.toNat / 16 : Nat) ∧ hexV (hexC (b.toNat % 16)).toNat.toUInt8 = (b.toNat % 16 : Nat) := by
 have h := hexT_all b;simp only [hexT, Bool.and_eq_true, beq_iff_eq, decide_eq_true_eq, Bool.or_eq_true] at h;obtain ⟨⟨⟨⟨⟨⟨⟨⟨h1, h2⟩, h3⟩, h4⟩, h5⟩, h6⟩, h7⟩, h8⟩, h9⟩ := h;exact ⟨h1, h2, h3, h4, h5, h6, fun h => h7.resolve_left (by omega), h8, h9⟩
theorem digit_eq (b : UInt8) : gV (b.toNat : Int) = some (hexV b) := by
 have := (hex_facts b).2.2.2.2.1;unfold gV; rw [← this]
theorem eqS_rfl (s : ByteArray) : eqS s s = true := (eqS_iff s s).2 rfl
theorem cut_plain (s : ByteArray) (_hs : s.size ≤ maxLen) (n : Nat) : ∃ t : ByteArray, gX s (n : Int) = some t ∧ (bytesOf t).length ≤ n := by
 unfold gX;by_cases h : (n : Int) < lenS s
 ·rw [ltI_t h, cond_true, Lf (show CutB 0 _ _ from ⟨by omega, by omega, by omega⟩)];refine ⟨_, rfl, ?_⟩;rw [cutS_b];simp;omega
 ·rw [ltI_f h, cond_false];rw [lenS_b] at h;exact ⟨_, rfl, by omega⟩
end Go.Proofs
end
section
namespace Go.Proofs
open Go.Ab
theorem cutS_ofB (l : List UInt8) (a b : Int) : cutS (ofB l) a b = ofB ((l.drop a.toNat).take (b.toNat - a.toNat)) := bytes_ext (by rw [cutS_b, ofB_b, ofB_b])
theorem nil_ofB : (⟨#[]⟩ : ByteArray) = ofB [] := rfl
theorem numsOf_ofB (l : List UInt8) : numsOf (ofB l) = l.map fun b => (b.toNat : Int) := by
 unfold numsOf;rw [show (ofB l).data.toList = l from ofB_b l]
theorem eqS_ofB (l : List UInt8) : eqS (ofB l) ⟨#[]⟩ = l.isEmpty := by
 rw [eqS_b, nil_ofB, ofB_b, ofB_b];cases l <;> simp
theorem wrapU64 {x : Int} (h0 : 0 ≤ x) (h1 : x < 18446744073709551616) : IntKind.u64.wrap x = x := by
 rw [IntKind.wrap_u64]; omega
theorem fail_d (l : List UInt8) (e x : Int) (hx : x ≠ 0) : gq (Tb.mk (ofB l) e) x = some (Tb.mk (ofB (flt x l e).1) (flt x l e).2) := by
 unfold gq flt;by_cases h : e = 0
 ·subst h;have : pickB (eqI 0 0) (neI x 0) false = true := by rw [pickB_and, eqI_t rfl, neI_t hx]; rfl
  simp only [this, cond_true, if_true];rfl
 ·have : pickB (eqI e 0) (neI x 0) false = false := by rw [pickB_and, eqI_f h]; rfl
  simp only [this, cond_false, h, if_false]
theorem bytes_d (n : Nat) (l : List UInt8) (e : Int) : gr (Tb.mk (ofB l) e) (n : Int) = some (ofB (stp n l e).1, Tb.mk (ofB (stp n l e).2.1) (stp n l e).2.2) := by
 unfold gr;by_cases h : e = 0
 ·subst h;rw [neI_f rfl];simp only [cond_false];rw [ltI_f (by omega)];simp only [cond_false, lenS_of];by_cases h1 : l.length < n
  ·rw [ltI_t (by omega), stp_short h1, fail_d l 0 1 (by omega)];rfl
  ·rw [ltI_f (by omega), stp_ok (by omega), Lf (show CutB _ _ _ from ⟨by omega, by omega, by omega⟩), Lf (show CutB _ _ _ from ⟨by omega, by omega, by omega⟩), cutS_ofB, cutS_ofB];simp only [cond_false, Int.toNat_natCast, Int.toNat_zero, List.drop_zero, Nat.sub_zero];congr 3;rw [List.take_of_length_le (by rw [List.length_drop]; omega)]
 ·rw [neI_t h, stp_err h];rfl
theorem orB {x c : Int} (h0 : 0 ≤ x) (h1 : x < 72057594037927936) (c0 : 0 ≤ c) (c1 : c < 256) : bitsOp .or .u64 (shlI .u64 x 8) (cvtI .u64 c) = x * 256 + c := by
 obtain ⟨n, rfl⟩ : ∃ n : Nat, x = n := ⟨x.toNat, by omega⟩;obtain ⟨m, rfl⟩ : ∃ m : Nat, c = m := ⟨c.toNat, by omega⟩
 have e1 : shlI .u64 (n : Int) 8 = ((n * 256 : Nat) : Int) := by
  unfold shlI;rw [show (2 : Int) ^ (min (8 : Int).toNat IntKind.u64.bits) = 256 by decide, wrapU64 (by omega) (by omega)];omega
 have e2 : cvtI .u64 (m : Int) = (m : Int) := by unfold cvtI; exact wrapU64 (by omega) (by omega)
 rw [e1, e2];show IntKind.u64.wrap (((BitVec.ofInt 64 ((n * 256 : Nat) : Int) ||| BitVec.ofInt 64 (m : Int)).toNat : Nat) : Int) = _;rw [BitVec.toNat_or, BitVec.ofInt_natCast, BitVec.ofInt_natCast, BitVec.toNat_ofNat, BitVec.toNat_ofNat, Nat.mod_eq_of_lt (by omega), Nat.mod_eq_of_lt (by omega)]
 have : n * 256 ||| m = n * 256 + m := by
  have := Nat.two_pow_add_eq_or_of_lt (i := 8) (b := m) (by omega) n;rw [Nat.mul_comm n 256];exact this.symm
 rw [this, wrapU64 (by omega) (by omega)];omega
theorem num_loop (b : List UInt8) (R : Tb) (hb : b.length ≤ 8) : ∀ (t p : List UInt8), b = p ++ t →
  loopF (gh.loop1 (ofB b, R)) ((p.length : Int), val p) = some (.go (val b))
 | [], p, h => by
   rw [loopF_eq];rw [List.append_nil] at h;simp only [gh.loop1, numsOf_ofB];rw [ltI_f (by unfold lenL; rw [List.length_map, h]; omega), h];rfl
 | x :: t, p, h => by
   have hL : b.length = p.length + (t.length + 1) := by rw [h]; simp
   have hr := val_rng p.length p rfl;have hx := x.toNat_lt
   have hp : (256 : Int) ^ p.length ≤ 72057594037927936 := by
    have : p.length = 0 ∨ p.length = 1 ∨ p.length = 2 ∨ p.length = 3 ∨ p.length = 4 ∨ p.length = 5 ∨ p.length = 6 ∨ p.length = 7 := by omega
    rcases this with h | h | h | h | h | h | h | h <;> rw [h] <;> decide
   rw [loopF_eq];simp only [gh.loop1, numsOf_ofB];rw [ltI_t (by unfold lenL; rw [List.length_map]; omega), Lf (show InB _ _ from ⟨by omega, by unfold lenL; rw [List.length_map]; omega⟩), Lf (show NonN 8 by unfold NonN; omega)]
   have hn : nthI (b.map fun b => (b.toNat : Int)) (p.length : Int) = (x.toNat : Int) := by
    unfold nthI;rw [h];simp
   rw [hn, orB hr.1 (by omega) (by omega) (by omega), addI_n (by omega) (by omega)];have ih := num_loop b R hb t (p ++ [x]) (by rw [h]; simp);rw [val_snoc] at ih;simp only [cond_true];rw [← ih];congr 2;simp
theorem num_d {n : Nat} (h1 : 1 ≤ n) (h8 : n ≤ 8) (l : List UInt8) (e : Int) : gh (Tb.mk (ofB l) e) (n : Int) = some (val (stp n l e).1, Tb.mk (ofB (stp n l e).2.1) (stp n l e).2.2) := by
 unfold gh;have hm : minI (maxI (n : Int) 1) 8 = (n : Int) := by rw [minI_d, maxI_d]; omega
 rw [hm, bytes_d];simp only [Lg]
 have hl : (stp n l e).1.length ≤ 8 := by
  unfold stp;split
  ·simp
  ·split
   ·simp
   ·simp only [List.length_take]; omega
 have := num_loop (stp n l e).1 (Tb.mk (ofB (stp n l e).2.1) (stp n l e).2.2) hl (stp n l e).1 [] rfl;simp only [List.length_nil, val_nil] at this;rw [show ((0 : Nat) : Int) = 0 from rfl] at this;rw [this];rfl
theorem stp_rng (n : Nat) (l : List UInt8) (e : Int) : 0 ≤ val (stp n l e).1 ∧ val (stp n l e).1 < 256 ^ n := by
 have hp : (0 : Int) < 256 ^ n := Int.pow_pos (by omega);unfold stp;split
 ·exact ⟨by simp [val], by simpa [val] using hp⟩
 ·split
  ·exact ⟨by simp [val], by simpa [val] using hp⟩
  ·exact val_rng n _ (by rw [List.length_take]; omega)
theorem u8_d (l : List UInt8) (e : Int) : gv (Tb.mk (ofB l) e) = some (val (stp 1 l e).1, Tb.mk (ofB (stp 1 l e).2.1) (stp 1 l e).2.2) := by
 unfold gv;have := num_d (n := 1) (by omega) (by omega) l e;rw [show ((1 : Nat) : Int) = 1 from rfl] at this;rw [this];have hr := stp_rng 1 l e;simp only [Lg];unfold cvtI;rw [IntKind.wrap_u8', Int.emod_eq_of_lt hr.1 (by have := hr.2; simpa using this)]
theorem u16_d (l : List UInt8) (e : Int) : gG (Tb.mk (ofB l) e) = some (val (stp 2 l e).1, Tb.mk (ofB (stp 2 l e).2.1) (stp 2 l e).2.2) := by
 unfold gG;have := num_d (n := 2) (by omega) (by omega) l e;rw [show ((2 : Nat) : Int) = 2 from rfl] at this;rw [this];have hr := stp_rng 2 l e;simp only [Lg];unfold cvtI;rw [IntKind.wrap_u16, Int.emod_eq_of_lt hr.1 (by have := hr.2; simpa using this)]
theorem u32_d (l : List UInt8) (e : Int) : gH (Tb.mk (ofB l) e) = some (val (stp 4 l e).1, Tb.mk (ofB (stp 4 l e).2.1) (stp 4 l e).2.2) := by
 unfold gH;have := num_d (n := 4) (by omega) (by omega) l e;rw [show ((4 : Nat) : Int) = 4 from rfl] at this;rw [this];have hr := stp_rng 4 l e;simp only [Lg];unfold cvtI;rw [IntKind.wrap_u32', Int.emod_eq_of_lt hr.1 (by have := hr.2; simpa using this)]
theorem end_d (l : List UInt8) (e : Int) : ∃ R, gA (Tb.mk (ofB l) e) = some ((if l ≠ [] ∧ e = 0 then 2 else e), R) := by
 unfold gA;simp only [neS_b, eqS_ofB];cases l with
 | nil => exact ⟨_, rfl⟩
 | cons a t =>
   simp only [List.isEmpty_cons, Bool.not_false, cond_true, fail_d (a :: t) e 2 (by omega), Lg, flC_go];refine ⟨Tb.mk (ofB (flt 2 (a :: t) e).1) (flt 2 (a :: t) e).2, ?_⟩;congr 2;unfold flt;by_cases h : e = 0 <;> simp [h]
end Go.Proofs
end
section
namespace Go.Ab
open Go.ChangeShapes Go.WideShapes Go.ChangeAt Go.RowKit
variable {H : Type} {enc : TypeId × Value → H}
theorem law_lifted_shaped {C : Checked} {os : Os} {f : FuncId} {fn : Func} {s : ChangeSpec} {conds : List PathCond} {tb : TypeId} {l : List TypeId} {laid : List (String × DataW Unit)}
  (own : ownKnob C.prog.godebug = none) (started : os.Started) (noInit : C.prog.inits.idxOf? f = none) (hfn : C.prog.funcs[f]? = some fn)
  (witness : ∃ (w : World) (tape : Tape) (i : Input), w.os = os ∧ (w.forCall tape i).Shaped C.prog ∧ i.vars = [] ∧ Input.okWide C.prog (w.forCall tape i) .any w.heap.size f i ∧
   ((s.pre enc C.prog fn conds false (w.forCall tape i).memory i.args ∧ laidMetH C.prog laid (w.forCall tape i).memory) ∧ sizedMet enc C.prog fn (OpenSpec.ofChange s) false (w.forCall tape i).memory i.args) ∧ ({} : Assume).holds C.prog (lone (Frame.enter C.prog f i.args .normal) [] (w.forCall tape i)))
  (hvars : s.vars = []) (hres : fn.resultTypes = #[tb]) (htb : C.prog.underlying tb = some .bool)
  (hspec : ∀ ds : List (DataW H), ds.length = fn.params.toList.length → s.fn H ds = { results := [.lit (.bool true)], args := ds })
  (K : Kids C.prog (· < C.prog.types.size)) (hz : ((List.range C.prog.types.size).all fun t => match C.prog.underlying t with | some (.slice e) => decide (0 < C.prog.cellsOf e) | _ => true) = true)
  (hl : flatB C.prog l = true) (hT : topB C.prog l fn.params.toList = true)
  (call : ∀ avl, ShAll C.prog fn.params.toList avl → ∃ o : Prop, o ∧ CallOk C.prog f avl [] { av := .lit (.bool true), obl := o })
  (hF : ∀ w : World, laidMetH C.prog laid w → w.ShapedOpen C.prog → ∀ w' : World, (∀ b, b < w.heap.size → w'.heap[b]? = w.heap[b]?) → fctF w') :
  ReturnsInHanded {} C os f .any (fun w args => (s.pre enc C.prog fn conds false w args ∧ laidMetH C.prog laid w) ∧ sizedMet enc C.prog fn (OpenSpec.ofChange s) false w args) (s.post enc C.prog fn false true false false) := by
 refine returnsInHanded_of_calls own started noInit witness ?_;intro w tape i _ hsh _ hok hpre hholds;obtain ⟨_, _, _, fn', hfn', _, _, _, _, hval⟩ := hok;have e : fn' = fn := Option.some.inj (hfn'.symm.trans hfn);subst e;obtain ⟨⟨⟨ds, gs, before, hw, hc⟩, hx⟩, hz'⟩ := hpre;have hw' := DataW.Whole.of_heap (w' := w.forCall tape i) (by rfl) hw;have hL : laidMetH C.prog laid (w.forCall tape i) := laidMetH.of_heap (w := (w.forCall tape i).memory) (by rfl) hx;refine (law_contract hvars hres htb hspec K hz hl hT call (w.forCall tape i) (hF _ hL hsh) w.heap.size i.args ds gs before hval hw').mono fun e W' ⟨v, he, hp⟩ => ?_;subst he;exact ChangeSpec.post_blind hp
end Go.Ab
end
