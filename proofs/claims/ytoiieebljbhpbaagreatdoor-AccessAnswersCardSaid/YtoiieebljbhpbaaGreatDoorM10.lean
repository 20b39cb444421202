/- What these functions compute, as plain functions. No condition. -/
import Derived.Test.YtoiieebljbhpbaaGreatDoorTs
import Derived.Test.YtoiieebljbhpbaaGreatDoorM06
import Derived.Test.YtoiieebljbhpbaaGreatDoorM16
import Derived.Test.YtoiieebljbhpbaaGreatDoorM15
import Derived.Test.YtoiieebljbhpbaaGreatDoorM03
import Derived.Test.YtoiieebljbhpbaaGreatDoorTy
import Derived.Test.YtoiieebljbhpbaaGreatDoorM02
import Derived.Test.YtoiieebljbhpbaaGreatDoorSh
import Derived.Lib.CaseU
import Derived.Lib.IsU
import Derived.Test.YtoiieebljbhpbaaGreatDoorKl
section
namespace Go.Proofs
open Go.Ab
noncomputable def gN (x0 : Tj) : Option (List ByteArray) :=
 ((gap x0)).bind fun r1 =>
 some r1
end Go.Proofs
end
section
namespace Go.Proofs
open Go.Ab
noncomputable def gY (x0 : Int) : Option ByteArray :=
 bif (eqI x0 1) then (
  some ⟨#[114]⟩
 ) else (
   bif (eqI x0 2) then (
    some ⟨#[112]⟩
   ) else (
     bif (eqI x0 3) then (
      some ⟨#[112, 116, 115]⟩
     ) else (
       bif (eqI x0 4) then (
        some ⟨#[112, 116]⟩
       ) else (
         bif (eqI x0 5) then (
          some ⟨#[112, 111, 116, 108]⟩
         ) else (
           bif (eqI x0 6) then (
            some ⟨#[112, 111, 116]⟩
           ) else (
             bif (eqI x0 7) then (
              some ⟨#[112, 116, 98]⟩
             ) else (
               bif (eqI x0 8) then (
                some ⟨#[112, 111, 116, 98]⟩
               ) else (
                 some ⟨#[]⟩
               )
             )
           )
         )
       )
     )
   )
 )

noncomputable def gD.loop1 (x1 : Int) (r1 : ByteArray) (s1 : Nat) : Option (Fl Nat (Fl Unit Bool)) :=
 bif (nextB r1 s1) then (
  bif (eqI (runeS r1 s1) x1) then (
   some (.out (.out true))
  ) else (
    some (.go (stepS r1 s1))
  )
 ) else (
   some (.out (.go ()))
 )

noncomputable def gD (x0 : Int) (x1 : Int) : Option Bool :=
 ((gY x0)).bind fun r1 =>
 ((loopF (gD.loop1 x1 r1) 0).bind fun f => flC f fun (_v1 : Unit) =>
   some false
 )

noncomputable def gX (x0 : Int) : Option Bool :=
 some (pickB (leqI 0 x0) (leqI x0 65535) false)

noncomputable def gy (x0 : Td) : Option Bool :=
 ((
  ((
   ((gD x0.fk 114)).bind fun r1 =>
   need (Under (notB r1) true (CatB x0.fm x0.fp)) <|
   bif (pickB (notB r1) (neS (catS x0.fm x0.fp) ⟨#[]⟩) false) then (
    some (.go true)
   ) else (
     ((gD x0.fk 112)).bind fun r2 =>
     bif (pickB (notB r2) (neI x0.fd 0) false) then (
      some (.go true)
     ) else (
       ((gD x0.fk 111)).bind fun r3 =>
       bif (pickB (notB r3) (neI x0.fOf 0) false) then (
        some (.go true)
       ) else (
         ((gD x0.fk 116)).bind fun r4 =>
         some (.go (pickB (notB r4) (neI x0.fh 0) false))
       )
     )
   )
   : Option (Fl Bool (Fl Unit Bool))).bind fun f => flC f fun (v2 : Bool) =>
   bif v2 then (
    some (.out false)
   ) else (
     ((
      ((gD x0.fk 108)).bind fun r5 =>
      bif (pickB (notB r5) (neI x0.fo 0) false) then (
       some (.go true)
      ) else (
        ((gD x0.fk 98)).bind fun r6 =>
        bif (pickB (notB r6) x0.fOn false) then (
         some (.go true)
        ) else (
          ((gD x0.fk 115)).bind fun r7 =>
          some (.go (pickB (notB r7) (pickB x0.fq true (ltI 0 (lenL x0.fa))) false))
        )
      )
      : Option (Fl Bool (Fl Unit Bool))).bind fun f => flC f fun (v3 : Bool) =>
      bif v3 then (
       some (.out false)
      ) else (
        some (.go ())
      )
     )
   )
  )
  : Option (Fl Unit Bool)).bind fun f => flC f fun (_v1 : Unit) =>
  some true
 )

noncomputable def gj.loop2 (x0 : Td) (s1 : Int) (s2 : Int) : Option (Fl Int (Fl Unit (Fl Int (Fl Unit Int)))) :=
 bif (ltI s2 (lenL (cutL x0.fa 0 s1))) then (
  need (InB s2 (lenL (cutL x0.fa 0 s1))) <|
  bif (eqI (nthI x0.fa s1) (nthI (cutL x0.fa 0 s1) s2)) then (
   some (.out (.out (.out (.out 10))))
  ) else (
    some (.go (addI .i64 s2 1))
  )
 ) else (
   some (.out (.go ()))
 )

noncomputable def gj.loop1 (x0 : Td) (s1 : Int) : Option (Fl Int (Fl Unit Int)) :=
 bif (ltI s1 (lenL x0.fa)) then (
  need (InB s1 (lenL x0.fa)) <|
  need (CutB 0 s1 (lenL x0.fa)) <|
  ((loopF (gj.loop2 x0 s1) 0).bind fun f => flC f fun (_v2 : Unit) =>
    some (.go (addI .i64 s1 1))
  )
 ) else (
   some (.out (.go ()))
 )

noncomputable def gj (x0 : Td) : Option Int :=
 bif (pickB (pickB (ltI (lenL x0.fa) 1) true (ltI 3 (lenL x0.fa))) true (pickB (ltI 1 (lenL x0.fa)) (notB x0.fq) false)) then (
  some 5
 ) else (
   ((loopF (gj.loop1 x0) 0).bind fun f => flC f fun (_v1 : Unit) =>
     some 0
   )
 )

noncomputable def gK (x0 : Td) : Option Int :=
 ((gY x0.fk)).bind fun r1 =>
 bif (eqS r1 ⟨#[]⟩) then (
  some 3
 ) else (
   ((gy x0)).bind fun r2 =>
   bif (notB r2) then (
    some 2
   ) else (
     ((gX x0.fd)).bind fun r3 =>
     need (Under (notB r3) false ((gX x0.fOf).isSome = true)) <|
     bif (pickB (pickB (pickB (pickB (pickB (notB r3) true (notB ((gX x0.fOf).getD dflt))) true (ltI x0.fh 0)) true (leqI 4 x0.fh)) true (ltI x0.fo 0)) true (leqI 3 x0.fo)) then (
      some 5
     ) else (
       need (Under (eqI x0.fk 1) true ((gC x0.fm).isSome = true)) <|
       need (Under (neI ((gC x0.fm).getD dflt) 0) false (Under (eqI x0.fk 1) true ((gC x0.fp).isSome = true))) <|
       bif (pickB (eqI x0.fk 1) (pickB (neI ((gC x0.fm).getD dflt) 0) true (neI ((gC x0.fp).getD dflt) 0)) false) then (
        some 6
       ) else (
         bif (eqI x0.fk 3) then (
          ((gj x0)).bind fun r4 =>
          some r4
         ) else (
           some 0
         )
       )
     )
   )
 )
end Go.Proofs
end
section
namespace Go.Proofs
open Go.Ab
noncomputable def gaj (x0 : ByteArray) (x1 : Int) : Option ByteArray :=
 bif (ltI x1 (lenS x0)) then (
  need (CutB 0 x1 (lenS x0)) <|
  some (cutS x0 0 x1)
 ) else (
   some x0
 )
end Go.Proofs
end
section
namespace Go.Proofs
open Go.Ab
noncomputable def gZ (x0 : Td) : Option Td :=
 ((gaj x0.fm 70)).bind fun r1 =>
 ((gaj x0.fp 70)).bind fun r2 =>
 ((
  bif (ltI 5 (lenL x0.fa)) then (
   need (CutB 0 5 (lenL x0.fa)) <|
   some (.go (Td.mk x0.fk r1 r2 x0.fd x0.fOf x0.fh x0.fo x0.fOn x0.fq (cutL x0.fa 0 5)))
  ) else (
    some (.go (Td.mk x0.fk r1 r2 x0.fd x0.fOf x0.fh x0.fo x0.fOn x0.fq x0.fa))
  )
  : Option (Fl Td Td)).bind fun f => flC f fun (v1 : Td) =>
  some v1
 )

noncomputable def gLaw07Told (x0 : Td) : Option Td :=
 some x0
end Go.Proofs
end
section
namespace Go.Proofs
open Go.Ab
noncomputable def gaG.loop2 (r6 : List Ta) (r7 : List Ta) (s2 : Int) : Option (Fl Int (Fl Unit (Fl Int (Fl Unit Int)))) :=
 bif (ltI s2 (lenL r7)) then (
  need (InB s2 (lenL r6)) <|
  need (InB s2 (lenL r7)) <|
  bif (notB (pickB (eqI ((nthI r6 s2).fN) ((nthI r7 s2).fN)) (pickB (eqS ((nthI r6 s2).fp) ((nthI r7 s2).fp)) (eqS ((nthI r6 s2).fm) ((nthI r7 s2).fm)) false) false)) then (
   some (.out (.out (.out (.out (-1)))))
  ) else (
    some (.go (addI .i64 s2 1))
  )
 ) else (
   some (.out (.go ()))
 )

noncomputable def gaG.loop1 (x0 : Tj) (x1 : Tn) (r3 : List ByteArray) (s1 : Int) : Option (Fl Int (Fl Unit Int)) :=
 bif (ltI s1 (lenL r3)) then (
  need (InB s1 (lenL r3)) <|
  ((gF x0 (nthI r3 s1))).bind fun r6 =>
  ((gaw x1 (nthI r3 s1))).bind fun r7 =>
  need (Under (ltI 0 s1) true (InB (subI .i64 s1 1) (lenL r3))) <|
  bif (pickB (pickB (pickB (pickB (ltI 0 s1) (notB (ltS (nthI r3 (subI .i64 s1 1)) (nthI r3 s1))) false) true (neI (lenL r6) (lenL r7))) true (eqI (lenL r6) 0)) true (ltI 16 (lenL r6))) then (
   some (.out (.out (-1)))
  ) else (
    ((loopF (gaG.loop2 r6 r7) 0).bind fun f => flC f fun (_v2 : Unit) =>
      some (.go (addI .i64 s1 1))
    )
  )
 ) else (
   some (.out (.go ()))
 )

noncomputable def gaG (x0 : Tj) (x1 : Tn) (x2 : Int) : Option Int :=
 ((gP x0 x2)).bind fun r1 =>
 ((gar x1 x2)).bind fun r2 =>
 ((gN x0)).bind fun r3 =>
 ((gaq x1)).bind fun r4 =>
 ((gI x0)).bind fun r5 =>
 bif (pickB (pickB (pickB (pickB (neI r5 (lenL x1.fL)) true (notB (pickB (eqI r1.1.fN r2.1.fN) (pickB (eqS r1.1.fp r2.1.fp) (eqS r1.1.fm r2.1.fm) false) false))) true (neB r1.2 r2.2)) true (neI (lenL r3) (lenL r4))) true (ltI 8 (lenL r3))) then (
  some (-1)
 ) else (
   ((loopF (gaG.loop1 x0 x1 r3) 0).bind fun f => flC f fun (_v1 : Unit) =>
     some 0
   )
 )
end Go.Proofs
end
section
set_option maxHeartbeats 4000000
namespace Go.Proofs
open Go.Ab
@[simp] def gJ.m (_x0 : Tb) (_x1 : Tg) (x2 : Tc) : List AObj := [.blk x2.enc]
@[simp] def gJ.out (_x0 : Tb) (_x1 : Tg) (_x2 : Tc) (r : Bool) : Out := { av := .lit (.bool r), M := none }
set_option maxRecDepth 100000 in
theorem gJ.can (x0 : Tb) (x1 : Tg) (x2 : Tc) (r : Bool) (hr : gJ x0 x1 x2 = some r) : CallOk Tryz.prog 126 [.agg [.lit (.int .i64 x0.fu), .lit (.int .i64 x0.fOf.fd), .lit (.int .i64 x0.fOf.fh)], .agg [.lit (.int .i64 x1.fo), .lit (.bool x1.fw)], .ptr 0 0] (gJ.m x0 x1 x2) (gJ.out x0 x1 x2 r) := by
 unfold gJ at hr
 have hΓ := gamL_nil (P := Tryz.prog)
 refine cw Tryz.func126 rfl (by kernel_rfl) rfl rfl (by simp) fun _ _ _ => ?_
 refine tq hΓ [3] [0, 1] ?_
 refine tq hΓ [5] [3, 2] ?_
 obtain rfl := La hr
 exact AWp.ret (Le (by simp))

@[simp] noncomputable def gJ.S : Sp
  | [.agg e0, .agg e1, .ptr i0 0], M => (rdB M i0).bind fun c0 => some { av := .lit (.bool ((gJ (Tb.dec e0) (Tg.dec e1) (Tc.dec c0)).getD dflt)), M := none, obl := WeakL e0 (Tb.enc (Tb.dec e0)) ∧ WeakL e1 (Tg.enc (Tg.dec e1)) ∧ c0 = Tc.enc (Tc.dec c0) ∧ (gJ (Tb.dec e0) (Tg.dec e1) (Tc.dec c0)).isSome = true }
  | _, _ => none

theorem gJ.ok : SpecOk Tryz.prog 126 gJ.S := by
 intro l M out h
 unfold gJ.S at h
 split at h
 ·rename_i e0 e1 i0
  obtain ⟨c0, hM0, h⟩ := bB h
  cases h
  refine callOk_of fun ho => ?_
  obtain ⟨ox0, ox1, oc0, hs⟩ := ho
  generalize (Tb.dec e0) = x0 at *
  generalize (Tg.dec e1) = x1 at *
  generalize (Tc.dec c0) = y0 at *
  subst oc0
  obtain ⟨r, hr⟩ := so1 hs
  simp only [hr, gd1]
  have q := Lh (M := M) [i0] (gJ.can x0 x1 y0 r hr) (by simp) rfl (ix (by simp [hM0]) ixn)
  exact callOk_conv q trivial (by simp [into]; exact ⟨ox0, ox1⟩) (by simp [frameOut]) (by simp only [frameOut, gJ.out, Option.getD_some, Option.getD_none]; simp [hM0, set_same])
 ·cases h

@[simp] def gO.m (_x0 : Tb) (_x1 : Tg) (x2 : Int) : List AObj := [.blk [.lit (.int .i64 x2)]]
@[simp] def gO.out (_x0 : Tb) (_x1 : Tg) (_x2 : Int) (r : Bool) : Out := { av := .lit (.bool r), M := none }
set_option maxRecDepth 100000 in
theorem gO.can (x0 : Tb) (x1 : Tg) (x2 : Int) (r : Bool) (hr : gO x0 x1 x2 = some r) : CallOk Tryz.prog 88 [.agg [.lit (.int .i64 x0.fu), .lit (.int .i64 x0.fOf.fd), .lit (.int .i64 x0.fOf.fh)], .agg [.lit (.int .i64 x1.fo), .lit (.bool x1.fw)], .ptr 0 0] (gO.m x0 x1 x2) (gO.out x0 x1 x2 r) := by
 unfold gO at hr
 have hΓ := gamL_nil (P := Tryz.prog)
 refine cw Tryz.func88 rfl (by kernel_rfl) rfl rfl (by simp) fun _ _ _ => ?_
 refine tq hΓ [3] [0, 1] ?_
 refine tq hΓ [5] [3, 2] ?_
 obtain rfl := La hr
 exact AWp.ret (Le (by simp))

@[simp] noncomputable def gO.S : Sp
  | [.agg e0, .agg e1, .ptr i0 0], M => (rdB M i0).bind fun c0 => some { av := .lit (.bool ((gO (Tb.dec e0) (Tg.dec e1) (decI c0)).getD dflt)), M := none, obl := WeakL e0 (Tb.enc (Tb.dec e0)) ∧ WeakL e1 (Tg.enc (Tg.dec e1)) ∧ c0 = (eNum .i64) (decI c0) ∧ (gO (Tb.dec e0) (Tg.dec e1) (decI c0)).isSome = true }
  | _, _ => none

theorem gO.ok : SpecOk Tryz.prog 88 gO.S := by
 intro l M out h
 unfold gO.S at h
 split at h
 ·rename_i e0 e1 i0
  obtain ⟨c0, hM0, h⟩ := bB h
  cases h
  refine callOk_of fun ho => ?_
  obtain ⟨ox0, ox1, oc0, hs⟩ := ho
  generalize (Tb.dec e0) = x0 at *
  generalize (Tg.dec e1) = x1 at *
  generalize (decI c0) = y0 at *
  subst oc0
  obtain ⟨r, hr⟩ := so1 hs
  simp only [hr, gd1]
  have q := Lh (M := M) [i0] (gO.can x0 x1 y0 r hr) (by simp) rfl (ix (by simp [hM0]) ixn)
  exact callOk_conv q trivial (by simp [into]; exact ⟨ox0, ox1⟩) (by simp [frameOut]) (by simp only [frameOut, gO.out, Option.getD_some, Option.getD_none]; simp [hM0, set_same])
 ·cases h
end Go.Proofs
end
section
namespace Go.Proofs
open Go.Ab Go.Shelf
theorem libKeys.gMapsKeysMapIntRoomPeerIntRoomPeer.ok : SpecOk Tryz.prog 122 (keysS 141) :=
 keys_ok Tryz.keysAD rfl rfl (enters_of Tryz.func122 (by kernel_rfl) rfl)
theorem Tryz.sortsD (m : Nat) : AnyZI.SortsIn Tryz.prog Tryz.sortedAD_ren Fence.wide m :=
  ⟨fun blk off cap ss W hH hblk hsz => callsIn_wide.2 (AnyM.slices_Sort_int Tryz.sortAD blk off cap ss W hH hblk hsz),
   fun p cap W => callsIn_wide.2 (AnyM.slices_Sort_int_none Tryz.sortAD p cap W)⟩
theorem libSorted.gSlicesSortedInt.ok : SpecOk Tryz.prog 121 (sortedS 141) :=
 sorted_ok Tryz.sortedAD { Tryz.keysAD with } rfl rfl (enters_of Tryz.func121 (by kernel_rfl) rfl) Tryz.sortsD (enters_of Tryz.func140 (by kernel_rfl) rfl) (enters_of Tryz.func141 (by kernel_rfl) rfl)
theorem libSorted.gSortedMapIntRoomPeerIntRoomPeer1.ok : SpecOk Tryz.prog 121 (sortedS 141) := libSorted.gSlicesSortedInt.ok
theorem libKeys.gMapsKeysMapStringIntStringInt.ok : SpecOk Tryz.prog 125 (keysS 144) :=
 keysS_okZ Tryz.keysAS rfl rfl (enters_of Tryz.func125 (by kernel_rfl) rfl)
theorem Tryz.sortsS (m : Nat) : AnyZ.SortsIn Tryz.prog Tryz.sortedAS_ren Fence.wide m :=
  ⟨fun blk off cap ss W hH hblk hsz => callsIn_wide.2 (AnyM.slices_Sort_string Tryz.sortAS blk off cap ss W hH hblk hsz),
   fun p cap W => callsIn_wide.2 (AnyM.slices_Sort_string_none Tryz.sortAS p cap W)⟩
theorem libSorted.gSlicesSortedString.ok : SpecOk Tryz.prog 124 (sortedSS 144) :=
 sortedS_ok Tryz.sortedAS { Tryz.keysAS with } rfl rfl (enters_of Tryz.func124 (by kernel_rfl) rfl) Tryz.sortsS (enters_of Tryz.func143 (by kernel_rfl) rfl) (enters_of Tryz.func144 (by kernel_rfl) rfl)
end Go.Proofs
end
section
namespace Go.Proofs
open Go.Ab Go.Lib

/-! ### Names, folded -/
theorem blen_le : ∀ l : List Int, (l.flatMap encodeRune).length ≤ 4 * l.length
 | [] => by simp
 | r :: l => by
   have := blen_le l
   have := (enc_len r).2
   simp only [List.flatMap_cons, List.length_append, List.length_cons]
   omega
theorem fold_size (s : ByteArray) : (foldS s).size ≤ 4 * s.size := by
 rw [← bytesOf_len, foldS_b]
 have h1 := blen_le ((scan s 0).map lowerR)
 have h2 := (scan_len s 0).1
 simp only [List.length_map] at h1
 omega
theorem good_ne {s : ByteArray} (h : goodB (scan s 0) = true) : bytesOf s ≠ [] := fun e => by
 have : scan s 0 = [] := scan_f (by rw [restS_0, e])
 rw [this] at h
 simp [goodB] at h
end Go.Proofs
end
section
namespace Go.Proofs
open Go.Ab
variable {V : Type}

theorem hasM_iff {k : Int} : ∀ {m : List (Int × V)}, hasM eqI k m = true ↔ k ∈ keysM m
 | [] => by simp [hasM, keysM]
 | e :: r => by
   have ih := hasM_iff (k := k) (m := r)
   simp only [hasM, keysM, List.map_cons, List.mem_cons]
   by_cases h : k = e.1
   ·rw [eqI_t h]; simp [pickB, h]
   ·rw [eqI_f h]; simp only [pickB, cond_false, h, false_or]; exact ih
theorem getM_of {k : Int} {v z : V} : ∀ {m : List (Int × V)}, (keysM m).Nodup → (k, v) ∈ m → getM eqI k z m = v
 | e :: r, hn, h => by
   simp only [keysM, List.map_cons, List.nodup_cons] at hn
   simp only [getM]
   cases h with
   | head => rw [eqI_t rfl]; rfl
   | tail _ h =>
     have hne : k ≠ e.1 := fun q => hn.1 (List.mem_map.2 ⟨(k, v), h, q⟩)
     rw [eqI_f hne]
     simp only [Bool.false_eq_true, if_false]
     exact getM_of hn.2 h
theorem getM_no {k : Int} {z : V} : ∀ {m : List (Int × V)}, k ∉ keysM m → getM eqI k z m = z
 | [], _ => rfl
 | e :: r, h => by
   simp only [keysM, List.map_cons, List.mem_cons, not_or] at h
   simp only [getM, eqI_f h.1, Bool.false_eq_true, if_false]
   exact getM_no h.2

theorem setM_no {k : Int} {v : V} : ∀ {m : List (Int × V)}, k ∉ keysM m → setM eqI k v m = m ++ [(k, v)]
 | [], _ => rfl
 | e :: r, h => by
   simp only [keysM, List.map_cons, List.mem_cons, not_or] at h
   simp only [setM, eqI_f h.1, Bool.false_eq_true, if_false, List.cons_append]
   rw [setM_no h.2]

theorem sortL_of {l l' : List Int} (h : l.Perm l') (hs : l'.Pairwise (· ≤ ·)) : sortL l = l' := by
 unfold sortL
 refine List.Perm.eq_of_pairwise (le := fun a b => a ≤ b) (fun a b _ _ h1 h2 => Int.le_antisymm h1 h2) ?_ hs ((List.mergeSort_perm l _).trans h)
 have := List.pairwise_mergeSort (le := fun x y : Int => decide (x ≤ y)) (fun a b c h1 h2 => by simp only [decide_eq_true_eq] at *; omega) (fun a b => by simp only [Bool.or_eq_true, decide_eq_true_eq]; omega) l
 exact this.imp fun h => by simpa using h
theorem KeysB_of {l : List Int} (h : ∀ x ∈ l, -9223372036854775808 ≤ x ∧ x ≤ 9223372036854775807) (hl : l.length ≤ 1000000000000) : KeysB l :=
 ⟨fun x hx => by
  obtain ⟨h1, h2⟩ := h x hx
  simp only [Lit.wf, Bool.and_eq_true, decide_eq_true_eq]
  exact ⟨h1, h2⟩, by omega⟩
end Go.Proofs
end
