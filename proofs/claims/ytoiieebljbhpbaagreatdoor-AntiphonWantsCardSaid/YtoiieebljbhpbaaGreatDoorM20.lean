import Derived.Test.YtoiieebljbhpbaaGreatDoorTs
import Derived.Test.YtoiieebljbhpbaaGreatDoorM16
import Derived.Test.YtoiieebljbhpbaaGreatDoorM09
import Derived.Test.YtoiieebljbhpbaaGreatDoorKz
import Derived.Shelf.SlSortCmp.NoneTotal
import Derived.Test.YtoiieebljbhpbaaGreatDoorM07
import Derived.Test.YtoiieebljbhpbaaGreatDoorTy
import Derived.Laws.Externs
import Derived.Test.YtoiieebljbhpbaaGreatDoorAb5
import Derived.Test.YtoiieebljbhpbaaGreatDoorAb8
section
namespace Go.Proofs
open Go.Ab
noncomputable def gw (x0 : ByteArray) (x1 : ByteArray) : Option Bool :=
 need (Under (leqI (lenS x1) (lenS x0)) true (CutB 0 (lenS x1) (lenS x0))) <|
 some (qaf (leqI (lenS x1) (lenS x0)) (eqS (cutS x0 0 (lenS x1)) x1) false)
noncomputable def gac (x0 : ByteArray) (x1 : ByteArray) : Option Bool :=
 ((gw x0 x1)).bind fun r1 =>
 some r1
noncomputable def gaq (x0 : Int) : Option Int :=
 bif (qaf (qaf (eqI x0 45) true (eqI x0 95)) true (eqI x0 46)) then (
  some 3
 ) else (
   need (I32B x0) <|
   bif (letterR x0) then (
    some 1
   ) else (
     need (I32B x0) <|
     bif (digitR x0) then (
      some 2
     ) else (
       some 0
     )
   )
 )
noncomputable def gE.loop1 (x0 : ByteArray) (s1 : Int × Int × Nat) : Option (Fl (Int × Int × Nat) (Fl (Int × Int) Int)) :=
 bif (nextB x0 s1.2.2) then (
  ((gaq (runeS x0 s1.2.2))).bind fun r1 =>
  need (Under (eqI (runeS x0 s1.2.2) 65533) true (Under (qaf (eqI r1 0) true (qaf (eqI r1 3) (eqI s1.2.1 3) false)) false (CutB (posI s1.2.2) (lenS x0) (lenS x0)))) <|
  need (Under (eqI (runeS x0 s1.2.2) 65533) true (Under (qaf (eqI r1 0) true (qaf (eqI r1 3) (eqI s1.2.1 3) false)) false ((gac (cutS x0 (posI s1.2.2) (lenS x0)) ⟨#[239, 191, 189]⟩).isSome = true))) <|
  bif (qaf (qaf (eqI r1 0) true (qaf (eqI r1 3) (eqI s1.2.1 3) false)) true (qaf (eqI (runeS x0 s1.2.2) 65533) (notB ((gac (cutS x0 (posI s1.2.2) (lenS x0)) ⟨#[239, 191, 189]⟩).getD dflt)) false)) then (
   some (.out (.out 6))
  ) else (
    some (.go ((addI .i64 s1.1 1), r1, (stepS x0 s1.2.2)))
  )
 ) else (
   some (.out (.go (s1.1, s1.2.1)))
 )
noncomputable def gE (x0 : ByteArray) : Option Int :=
 bif (qaf (eqS x0 ⟨#[]⟩) true (ltI 64 (lenS x0))) then (
  some 6
 ) else (
   ((loopF (gE.loop1 x0) (0, 3, 0)).bind fun f => flC f fun (v1 : Int × Int) =>
     bif (qaf (ltI 16 v1.1) true (eqI v1.2 3)) then (
      some 6
     ) else (
       some 0
     )
   )
 )
noncomputable def gV.loop1 (x0 : ByteArray) (s1 : List Int × Nat) : Option (Fl (List Int × Nat) (Fl (List Int) ByteArray)) :=
 bif (nextB x0 s1.2) then (
  need (I32B (lowerR (runeS x0 s1.2))) <|
  need (AppB (qat s1.1) 4 1) <|
  some (.go ((appL s1.1 (runeZ (lowerR (runeS x0 s1.2)))), (stepS x0 s1.2)))
 ) else (
   some (.out (.go s1.1))
 )
noncomputable def gV (x0 : ByteArray) : Option ByteArray :=
 ((loopF (gV.loop1 x0) ([], 0)).bind fun f => flC f fun (v1 : List Int) =>
   need (TextB v1) <|
   some (strOfNums v1)
 )
noncomputable def gag (x0 : ByteArray) (x1 : ByteArray) : Option Bool :=
 ((gV x0)).bind fun r1 =>
 ((gV x1)).bind fun r2 =>
 some (eqS r1 r2)
end Go.Proofs
end
section
namespace Go.Proofs
open Go.Ab
open Classical in
noncomputable def nubL {α : Type} : List α → List α
 | [] => []
 | a :: l => if a ∈ l then nubL l else a :: nubL l
theorem mem_nubL {α : Type} {x : α} : ∀ {l : List α}, x ∈ nubL l ↔ x ∈ l
 | [] => by simp [nubL]
 | a :: l => by
   rw [nubL];split
   ·rename_i h;rw [mem_nubL (l := l), List.mem_cons];exact ⟨.inr, fun q => q.elim (fun e => e ▸ h) id⟩
   ·rw [List.mem_cons, List.mem_cons, mem_nubL (l := l)]
theorem nodup_nubL {α : Type} : ∀ (l : List α), (nubL l).Nodup
 | [] => by simp [nubL]
 | a :: l => by
   rw [nubL];split
   ·exact nodup_nubL l
   ·rename_i h;exact List.nodup_cons.2 ⟨fun q => h (mem_nubL.1 q), nodup_nubL l⟩
noncomputable def foldsM (m : List (Int × Ta)) : List ByteArray := m.map fun e => (gV e.2.fm).getD dflt
noncomputable def gaK (x0 : Tp) : Option (List ByteArray) :=
 need (∀ e ∈ x0.fe, (gV e.2.fm).isSome = true) <|
 need (KeysBS (foldsM x0.fe)) <|
 some (sortS (nubL (foldsM x0.fe)))
theorem sortS_perm {l l' : List ByteArray} (h : l.Perm l') : sortS l = sortS l' := by
 unfold sortS;rw [Go.mergeSort_of_perm (h.map kbytesOf)]
end Go.Proofs
end
section
namespace Go.Proofs
open Go.Ab
noncomputable def gaj (x0 : Int) : Option ByteArray :=
 bif (eqI x0 1) then (
  some ⟨#[114]⟩
 ) else (
   bif (eqI x0 2) then (
    some ⟨#[112]⟩
   ) else (
     bif (eqI x0 3) then (
      some ⟨#[112, 116, 115]⟩
     ) else (
       bif (eqI x0 4) then (
        some ⟨#[112, 116]⟩
       ) else (
         bif (eqI x0 5) then (
          some ⟨#[112, 111, 116, 108]⟩
         ) else (
           bif (eqI x0 6) then (
            some ⟨#[112, 111, 116]⟩
           ) else (
             bif (eqI x0 7) then (
              some ⟨#[112, 116, 98]⟩
             ) else (
               bif (eqI x0 8) then (
                some ⟨#[112, 111, 116, 98]⟩
               ) else (
                 some ⟨#[]⟩
               )
             )
           )
         )
       )
     )
   )
 )
noncomputable def gF.loop1 (x1 : Int) (r1 : ByteArray) (s1 : Nat) : Option (Fl Nat (Fl Unit Bool)) :=
 bif (nextB r1 s1) then (
  bif (eqI (runeS r1 s1) x1) then (
   some (.out (.out true))
  ) else (
    some (.go (stepS r1 s1))
  )
 ) else (
   some (.out (.go ()))
 )
noncomputable def gF (x0 : Int) (x1 : Int) : Option Bool :=
 ((gaj x0)).bind fun r1 =>
 ((loopF (gF.loop1 x1 r1) 0).bind fun f => flC f fun (_v1 : Unit) =>
   some false
 )
noncomputable def gai (x0 : Int) : Option Bool :=
 some (qaf (leqI 0 x0) (leqI x0 65535) false)
noncomputable def gz (x0 : Td) : Option Bool :=
 ((
  ((
   ((gF x0.fk 114)).bind fun r1 =>
   need (Under (notB r1) true (CatB x0.fm x0.fp)) <|
   bif (qaf (notB r1) (neS (catS x0.fm x0.fp) ⟨#[]⟩) false) then (
    some (.go true)
   ) else (
     ((gF x0.fk 112)).bind fun r2 =>
     bif (qaf (notB r2) (neI x0.fc 0) false) then (
      some (.go true)
     ) else (
       ((gF x0.fk 111)).bind fun r3 =>
       bif (qaf (notB r3) (neI x0.fOf 0) false) then (
        some (.go true)
       ) else (
         ((gF x0.fk 116)).bind fun r4 =>
         some (.go (qaf (notB r4) (neI x0.ff 0) false))
       )
     )
   )
   : Option (Fl Bool (Fl Unit Bool))).bind fun f => flC f fun (v2 : Bool) =>
   bif v2 then (
    some (.out false)
   ) else (
     ((
      ((gF x0.fk 108)).bind fun r5 =>
      bif (qaf (notB r5) (neI x0.fo 0) false) then (
       some (.go true)
      ) else (
        ((gF x0.fk 98)).bind fun r6 =>
        bif (qaf (notB r6) x0.fOn false) then (
         some (.go true)
        ) else (
          ((gF x0.fk 115)).bind fun r7 =>
          some (.go (qaf (notB r7) (qaf x0.fq true (ltI 0 (qat x0.fa))) false))
        )
      )
      : Option (Fl Bool (Fl Unit Bool))).bind fun f => flC f fun (v3 : Bool) =>
      bif v3 then (
       some (.out false)
      ) else (
        some (.go ())
      )
     )
   )
  )
  : Option (Fl Unit Bool)).bind fun f => flC f fun (_v1 : Unit) =>
  some true
 )
noncomputable def gf.loop2 (x0 : Td) (s1 : Int) (s2 : Int) : Option (Fl Int (Fl Unit (Fl Int (Fl Unit Int)))) :=
 bif (ltI s2 (qat (cutL x0.fa 0 s1))) then (
  need (InB s2 (qat (cutL x0.fa 0 s1))) <|
  bif (eqI (nthI x0.fa s1) (nthI (cutL x0.fa 0 s1) s2)) then (
   some (.out (.out (.out (.out 10))))
  ) else (
    some (.go (addI .i64 s2 1))
  )
 ) else (
   some (.out (.go ()))
 )
noncomputable def gf.loop1 (x0 : Td) (s1 : Int) : Option (Fl Int (Fl Unit Int)) :=
 bif (ltI s1 (qat x0.fa)) then (
  need (InB s1 (qat x0.fa)) <|
  need (CutB 0 s1 (qat x0.fa)) <|
  ((loopF (gf.loop2 x0 s1) 0).bind fun f => flC f fun (_v2 : Unit) =>
    some (.go (addI .i64 s1 1))
  )
 ) else (
   some (.out (.go ()))
 )
noncomputable def gf (x0 : Td) : Option Int :=
 bif (qaf (qaf (ltI (qat x0.fa) 1) true (ltI 3 (qat x0.fa))) true (qaf (ltI 1 (qat x0.fa)) (notB x0.fq) false)) then (
  some 5
 ) else (
   ((loopF (gf.loop1 x0) 0).bind fun f => flC f fun (_v1 : Unit) =>
     some 0
   )
 )
noncomputable def gO (x0 : Td) : Option Int :=
 ((gaj x0.fk)).bind fun r1 =>
 bif (eqS r1 ⟨#[]⟩) then (
  some 3
 ) else (
   ((gz x0)).bind fun r2 =>
   bif (notB r2) then (
    some 2
   ) else (
     ((gai x0.fc)).bind fun r3 =>
     need (Under (notB r3) false ((gai x0.fOf).isSome = true)) <|
     bif (qaf (qaf (qaf (qaf (qaf (notB r3) true (notB ((gai x0.fOf).getD dflt))) true (ltI x0.ff 0)) true (leqI 4 x0.ff)) true (ltI x0.fo 0)) true (leqI 3 x0.fo)) then (
      some 5
     ) else (
       need (Under (eqI x0.fk 1) true ((gE x0.fm).isSome = true)) <|
       need (Under (neI ((gE x0.fm).getD dflt) 0) false (Under (eqI x0.fk 1) true ((gE x0.fp).isSome = true))) <|
       bif (qaf (eqI x0.fk 1) (qaf (neI ((gE x0.fm).getD dflt) 0) true (neI ((gE x0.fp).getD dflt) 0)) false) then (
        some 6
       ) else (
         bif (eqI x0.fk 3) then (
          ((gf x0)).bind fun r4 =>
          some r4
         ) else (
           some 0
         )
       )
     )
   )
 )
end Go.Proofs
end
section
set_option maxRecDepth 100000
set_option maxHeartbeats 2000000
namespace Go.Proofs
open Go.Shelf
def Tryz.sortL_ren : Go.Shelf.Ren := ⟨fun | 6 => 92 | 15 => 131 | 14 => 130 | 28 => 155 | 29 => 156 | 20 => 147 | 21 => 148 | 22 => 149 | 23 => 150 | 24 => 151 | 25 => 152 | 26 => 153 | 27 => 154 | 46 => 166 | 47 => 167 | 48 => 168 | 49 => 169 | 50 => 170 | 57 => 193 | n => n, fun | 22 => 48 | 24 => 51 | 25 => 115 | 3 => 3 | 39 => 132 | 0 => 0 | 53 => 54 | 55 => 186 | 4 => 4 | 46 => 229 | 45 => 228 | 50 => 233 | 5 => 5 | 9 => 9 | 66 => 249 | 70 => 253 | 76 => 278 | 77 => 179 | n => n, fun | n => n⟩
theorem Tryz.sortL : Go.Proofs.SlLaysF0.n6 Tryz.prog Tryz.sortL_ren := {
 mixed := by kernel_rfl
 f6 := ⟨Tryz.f92.name, by decide, Tryz.func92.trans (congrArg some (by kernel_rfl))⟩
 f14 := ⟨Tryz.f130.name, by decide, Tryz.func130.trans (congrArg some (by kernel_rfl))⟩
 f15 := Tryz.func131.trans (congrArg some (by kernel_rfl))
 f20 := ⟨Tryz.f147.name, by decide, Tryz.func147.trans (congrArg some (by kernel_rfl))⟩
 f21 := ⟨Tryz.f148.name, by decide, Tryz.func148.trans (congrArg some (by kernel_rfl))⟩
 f22 := ⟨Tryz.f149.name, by decide, Tryz.func149.trans (congrArg some (by kernel_rfl))⟩
 f23 := ⟨Tryz.f150.name, by decide, Tryz.func150.trans (congrArg some (by kernel_rfl))⟩
 f24 := ⟨Tryz.f151.name, by decide, Tryz.func151.trans (congrArg some (by kernel_rfl))⟩
 f25 := ⟨Tryz.f152.name, by decide, Tryz.func152.trans (congrArg some (by kernel_rfl))⟩
 f26 := ⟨Tryz.f153.name, by decide, Tryz.func153.trans (congrArg some (by kernel_rfl))⟩
 f27 := ⟨Tryz.f154.name, by decide, Tryz.func154.trans (congrArg some (by kernel_rfl))⟩
 f28 := Tryz.func155.trans (congrArg some (by kernel_rfl))
 f29 := Tryz.func156.trans (congrArg some (by kernel_rfl))
 f46 := ⟨Tryz.f166.name, by decide, Tryz.func166.trans (congrArg some (by kernel_rfl))⟩
 f47 := Tryz.func167.trans (congrArg some (by kernel_rfl))
 f48 := Tryz.func168.trans (congrArg some (by kernel_rfl))
 f49 := ⟨Tryz.f169.name, by decide, Tryz.func169.trans (congrArg some (by kernel_rfl))⟩
 f50 := ⟨Tryz.f170.name, by decide, Tryz.func170.trans (congrArg some (by kernel_rfl))⟩
 f57 := ⟨Tryz.f193.name, by decide, Tryz.func193.trans (congrArg some (by kernel_rfl))⟩
 t0 := Tryz.underlying0
 a0 := Tryz.isAgg0
 z0 := Tryz.sizeOf0
 v0 := Tryz.zeroValue0
 t3 := Tryz.underlying3
 a3 := Tryz.isAgg3
 z3 := Tryz.sizeOf3
 v3 := Tryz.zeroValue3
 t4 := Tryz.underlying4
 a4 := Tryz.isAgg4
 z4 := Tryz.sizeOf4
 v4 := Tryz.zeroValue4
 t5 := Tryz.underlying5
 a5 := Tryz.isAgg5
 z5 := Tryz.sizeOf5
 v5 := Tryz.zeroValue5
 t9 := Tryz.underlying9
 a9 := Tryz.isAgg9
 z9 := Tryz.sizeOf9
 v9 := Tryz.zeroValue9
 t22 := Tryz.underlying48
 a22 := Tryz.isAgg48
 z22 := Tryz.sizeOf48
 v22 := Tryz.zeroValue48
 t25 := Tryz.underlying115
 a25 := Tryz.isAgg115
 z25 := Tryz.sizeOf115
 v25 := Tryz.zeroValue115
 t39 := Tryz.underlying132
 a39 := Tryz.isAgg132
 z39 := Tryz.sizeOf132
 v39 := Tryz.zeroValue132
 t45 := Tryz.underlying228
 a45 := Tryz.isAgg228
 z45 := Tryz.sizeOf228
 v45 := Tryz.zeroValue228
 t46 := Tryz.underlying229
 a46 := Tryz.isAgg229
 z46 := Tryz.sizeOf229
 v46 := Tryz.zeroValue229
 t50 := Tryz.underlying233
 a50 := Tryz.isAgg233
 z50 := Tryz.sizeOf233
 v50 := Tryz.zeroValue233
 t53 := Tryz.underlying54
 a53 := Tryz.isAgg54
 z53 := Tryz.sizeOf54
 v53 := Tryz.zeroValue54
 t55 := Tryz.underlying186
 a55 := Tryz.isAgg186
 z55 := Tryz.sizeOf186
 v55 := Tryz.zeroValue186
 t66 := Tryz.underlying249
 a66 := Tryz.isAgg249
 z66 := Tryz.sizeOf249
 v66 := Tryz.zeroValue249
 t70 := Tryz.underlying253
 a70 := Tryz.isAgg253
 z70 := Tryz.sizeOf253
 v70 := Tryz.zeroValue253
 t76 := Tryz.underlying278
 a76 := Tryz.isAgg278
 z76 := Tryz.sizeOf278
 v76 := Tryz.zeroValue278
 t77 := Tryz.underlying179
 a77 := Tryz.isAgg179
 z77 := Tryz.sizeOf179
 v77 := Tryz.zeroValue179 }
end Go.Proofs
namespace Go.Ab
open Go.Proofs Go.Maps Go.RowKit Go.Sort Go.Shelf Go.Lib ChangeMaps
def le3 (x y : L3) : Bool := !(ltOf cf3) y x
def srt3 (l : List L3) : List L3 := l.mergeSort le3
theorem lt3 (x y : L3) : ltOf cf3 x y = decide (x.1 < y.1 ∨ (x.1 = y.1 ∧ (x.2.1 < y.2.1 ∨ (x.2.1 = y.2.1 ∧ x.2.2 < y.2.2)))) := by
 obtain ⟨a, b, c⟩ := x;obtain ⟨a', b', c'⟩ := y;simp only [ltOf, cf3, or3, Lib.compareInt];rcases Int.lt_trichotomy a a' with h | h | h <;> rcases Int.lt_trichotomy b b' with h' | h' | h' <;> rcases Int.lt_trichotomy c c' with h'' | h'' | h'' <;> (congr 1; apply propext; constructor <;> intro q <;> (repeat' split at *) <;> omega)
theorem swo3 : SWO (ltOf cf3) where
 irrefl x := by rw [lt3]; simp
 trans x y z h1 h2 := by rw [lt3] at *; simp only [decide_eq_true_eq] at *; omega
 ntrans x y z h1 h2 := by rw [lt3] at *; simp only [decide_eq_false_iff_not] at *; omega
theorem tot3 (x y : L3) (h1 : ltOf cf3 x y = false) (h2 : ltOf cf3 y x = false) : x = y := by
 rw [lt3] at h1 h2;simp only [decide_eq_false_iff_not] at h1 h2;obtain ⟨a, b, c⟩ := x;obtain ⟨a', b', c'⟩ := y;simp only at h1 h2;have q1 : a = a' := by omega
 have q2 : b = b' := by omega
 have q3 : c = c' := by omega
 rw [q1, q2, q3]
theorem srt3_perm {l l' : List L3} (h : l.Perm l') : srt3 l = srt3 l' := by
 have ht : ∀ a b c : L3, le3 a b = true → le3 b c = true → le3 a c = true := fun a b c h1 h2 => by
  simp only [le3, Bool.not_eq_true'] at *
  exact swo3.ntrans c b a h2 h1
 have hto : ∀ a b : L3, (le3 a b || le3 b a) = true := fun a b => by
  simp only [le3, lt3, Bool.or_eq_true, Bool.not_eq_true', decide_eq_false_iff_not]; omega
 refine List.Perm.eq_of_pairwise (le := fun a b => le3 a b = true) (fun a b _ _ h1 h2 => ?_) (List.pairwise_mergeSort ht hto l) (List.pairwise_mergeSort ht hto l') (((List.mergeSort_perm l le3).trans h).trans (List.mergeSort_perm l' le3).symm);simp only [le3, Bool.not_eq_true'] at h1 h2;exact tot3 a b h2 h1
theorem grownBy_sortedK {w : World} {g n : Nat} {os : Array Obj} (d : Array L3) : w.grownBy (sortWorldK cs3 3 w g 0 n d os) (some g) := by
 refine ⟨rfl, rfl, rfl, by simp [sortWorldK, putRowK, putRow, mapBlock, Sort.ahead], fun k hk hne => ?_⟩;unfold sortWorldK;rw [heap_grow_old _ _ (by simpa [putRowK, putRow, mapBlock, Sort.ahead] using hk)];have : g ≠ k := fun e => hne (by rw [e]);simp [putRowK, putRow, mapBlock, Sort.ahead, Array.getElem?_modify, this]
theorem flat3 : ∀ (ss : List L3) (j : Nat), j < ss.length * 3 → (ss.flatMap cs3)[j]? = some ((cs3 ss[j / 3]!)[j % 3]!)
 | [], j, h => by simp at h
 | a :: r, 0, _ => rfl
 | a :: r, 1, _ => rfl
 | a :: r, 2, _ => rfl
 | a :: r, j + 3, h => by
   have h1 : (j + 3) / 3 = j / 3 + 1 := by omega
   have h2 : (j + 3) % 3 = j % 3 := by omega
   rw [h1, h2, List.flatMap_cons, List.getElem?_append_right (by simp [cs3])];have := flat3 r j (by simp only [List.length_cons] at h; omega);simpa [cs3] using this
theorem holdsK_of_block {w : World} {g : Nat} {cur : Array Value} {e : TypeId} {ss : List L3} (hb : w.heap[g]? = some (.cells cur e (0, 0))) (ht : cur.toList.take (ss.length * 3) = ss.flatMap cs3) : HoldsK cs3 3 w g 0 ss.toArray := by
 intro j hj;have hj' : j < ss.length * 3 := by simpa using hj
 refine ⟨?_, by simp [World.frozen?, hb]⟩;have h1 : (cur.toList.take (ss.length * 3))[j]? = (ss.flatMap cs3)[j]? := by rw [ht]
 rw [List.getElem?_take_of_lt hj', flat3 ss j hj'] at h1;simp only [World.cell?, hb, Nat.zero_add, Option.isSome_none, Bool.false_eq_true, if_false];rw [get_flatK _ _ _ j (by simpa using hj')];simpa using h1
theorem sorted3 (Bm b : Nat) (ents : Array MapEntry) (clock : Nat) (K : List L3) (hold : ∀ x ∈ ents.toList, x.born < clock) (hnd : (ents.toList.map (·.born)).Nodup) (hK : ents.toList.map (·.key) = K.map kv3) (hN : K.length * 24 ≤ 140737488355328)
  (w : World) (hm : w.cell? ⟨Bm, 0, none⟩ = some (.map (some b))) (hb : w.heap[b]? = some (.map ents clock)) :
  Calls Tryz.prog 42 #[.func (.func 93) #[] #[.pointer (some ⟨Bm, 0, none⟩)], .func (.func 44) #[] #[]] w fun e w' =>
   ∃ v, e = .returned v ∧ Below w.heap.size w w' ∧ ((v = .slice none 0 0 ∧ K = []) ∨ ∃ gb cap, v = .slice (some ⟨gb, 0, none⟩) K.length cap ∧ w.heap.size ≤ gb ∧ K.length ≤ cap ∧ cap ≤ maxLen ∧ HoldsK cs3 3 w' gb 0 (srt3 K).toArray) := by
 have hlen : ents.size = K.length := by have := congrArg List.length hK; simpa using this
 have hkey : ∀ x ∈ ents.toList, ∃ k, x.key = kv3 k := fun x hx => by
  have : x.key ∈ ents.toList.map (·.key) := List.mem_map.2 ⟨x, hx, rfl⟩;rw [hK] at this;obtain ⟨k, _, e⟩ := List.mem_map.1 this;exact ⟨k, e.symm⟩
 have hseq := keys3_gives Fence.wide (5 - 1 - 1) trivial rfl (by omega) Bm b ents clock hold hnd hkey w (cell_lt hm) hm hb
 have hcol := (callsIn_wide (n := 5)).1 (collect3 Fence.wide 5 trivial trivial rfl (by omega) 93 #[.pointer (some ⟨Bm, 0, none⟩)] trivial
  (enters_of Tryz.func93 (by kernel_rfl) rfl) _ ents.size (by simp only [maxLen]; omega) (by omega) w hseq)
 have hsf := fun blk off cap (d : Array L3) W hH hblk hsz => AnyQ.slices_SortFunc_total Tryz.sortL 3 Tryz.isAgg51 Tryz.sizeOf51 cs3 (fun _ => rfl) (fun x v hv => by simp [cs3] at hv; rcases hv with rfl | rfl | rfl <;> rfl) cf3 swo3 44 #[] blk off cap d W
  (enters_of Tryz.func44 (by kernel_rfl) rfl) (fun _ _ _ _ x y => linksCmp x y _) hH hblk hsz tot3
 have hsn := fun p cap fv W => AnyF.slices_SortFunc_none Tryz.sortL p cap fv W;change ∀ (blk off cap : Nat) (d : Array L3) W _ _ _, Calls Tryz.prog 92 _ _ _ at hsf;change ∀ (p : Option Addr) (cap : Nat) fv W, Calls Tryz.prog 92 _ _ _ at hsn
 go_enter Tryz.func42, Tryz.ntmps42
 go_wp2_with (go_at_call 91; refine hcol.mono ?_; rintro e W ⟨v, ss, rfl, hS, hrow, hnil, hbl⟩)
 have hSS : ss.Perm K := by
  rw [hK] at hS;obtain ⟨l', q1, q2⟩ := perm_of_map kv3 hS;rw [← (List.map_inj_right (fun x y => kv3_inj)).1 q2]; exact q1
 have hl : ss.length = K.length := hSS.length_eq;rcases hrow.2 with ⟨rfl, hz⟩ | ⟨gb, cap, cur, rfl, hbase, hgb, r1, r2, r3, r4⟩
 ·refine (hsn none 0 _ W).mono ?_;rintro e w' ⟨rfl, rfl⟩;go_wp2;go_ret;exact ⟨_, rfl, hbl, .inl ⟨rfl, List.eq_nil_of_length_eq_zero (by omega)⟩⟩
 ·have hH := holdsK_of_block hgb r4;have hgl : gb < W.heap.size := (Array.getElem?_eq_some_iff.1 hgb).1;have cS := hsf gb 0 cap ss.toArray W hH hgl (by simp only [List.size_toArray]; omega);have hw := fun n os => holdsK_sortWorldK_c cs3 3 W gb 0 ss.toArray (srt3 ss).toArray n os hH hgl (by simp [srt3]);have hg := fun n os => grownBy_sortedK (w := W) (g := gb) (n := n) (os := os) (srt3 ss).toArray;have hT : (ss.toArray.toList.mergeSort fun x y => !(ltOf cf3) y x).toArray = (srt3 ss).toArray := rfl;rw [hT] at cS;rw [srt3_perm hSS] at cS hw hg;simp only [List.size_toArray] at cS;refine cS.mono ?_;rintro e w' ⟨rfl, nn, os, rfl⟩;have hw := hw nn os;have hg := hg nn os;generalize sortWorldK cs3 3 W gb 0 nn (srt3 K).toArray os = W5 at hw hg;go_wp2;go_ret;exact ⟨_, rfl, hbl.grown hg hbl.size (fun j hj => by cases hj; exact hbase), .inr ⟨gb, cap, by rw [← hl]; rfl, hbase, by omega, r2, hw⟩⟩
end Go.Ab
end
section
namespace Go.Proofs
open Go.RowKit Go.Ab
theorem Tryz.bcSize : (Tryz.prog.info? 141).map (·.size) = some 2 := by kernel_rfl
theorem Tryz.bcLies : liesAt Tryz.prog Tryz.prog.depth 141 (2 / Tryz.prog.cellsOf 141) 0 141 1 = true := by kernel_rfl
theorem Tryz.bbyteI : (Tryz.prog.info? 5).map (fun i => (i.zero, i.size, i.bytes)) = some (some (.int .u8 0), 1, 1) := by kernel_rfl
set_option maxHeartbeats 1000000 in
set_option maxRecDepth 100000 in
theorem Tryz.bcFresh (b : Nat) (w : World) (v : Value) (hb : w.heap[b]? = some (.cells #[.pointer none, v] 141 (0, 0))) :
  Calls Tryz.prog 135 #[.pointer (some ⟨b, 0, none⟩)] w fun e w' => e = .returned (.tuple #[]) ∧ w' = w.setCell ⟨b, 0, none⟩ (.pointer (some ⟨b, 0, none⟩)) := by
 obtain ⟨j, hj, hjs⟩ := Option.map_eq_some_iff.1 Tryz.bcSize;have h0 : w.cell? ⟨b, 0, none⟩ = some (.pointer none) := by rw [Lib.cell_of_heap hb]; rfl
 have hsh : w.shape? b = some (141, 2) := by simp [World.shape?, hb]
 have hfz : w.frozen? ⟨b, 0, none⟩ = false := Lib.frozen_of_heap hb 0
 go_enter Tryz.func135, Tryz.ntmps135
 go_wp2;rw [Lib.run_to_unsafe w ⟨b, 0, none⟩ Tryz.underlying138 Tryz.underlying237 hj (by rw [hjs]; decide) hsh (Nat.zero_lt_succ 1)];simp only [Result.andThen];rw [Oper.upon_value];go_wp2;rw [run_callFunc_extern Tryz.func158 (by kernel_rfl) (by kernel_rfl) (by kernel_rfl) (e := Extern.AbiNoEscape.same) (by kernel_rfl)];rw [Lib.run_noEscape];simp only [Result.andThen];rw [Oper.upon_value];go_wp2;rw [Lib.run_from_unsafe w ⟨b, 0, none⟩ Tryz.underlying237 Tryz.underlying138 hj hsh Tryz.bcLies];simp only [Result.andThen];rw [Oper.upon_value];go_wp2
 go_end0
 exact ⟨rfl, rfl⟩
set_option maxHeartbeats 1000000 in
set_option maxRecDepth 100000 in
theorem Tryz.bcUsed (b : Nat) (w : World) (v : Value) (hb : w.heap[b]? = some (.cells #[.pointer (some ⟨b, 0, none⟩), v] 141 (0, 0))) :
  Calls Tryz.prog 135 #[.pointer (some ⟨b, 0, none⟩)] w fun e w' => e = .returned (.tuple #[]) ∧ w' = w := by
 obtain ⟨j, hj, hjs⟩ := Option.map_eq_some_iff.1 Tryz.bcSize;have h0 : w.cell? ⟨b, 0, none⟩ = some (.pointer (some ⟨b, 0, none⟩)) := by rw [Lib.cell_of_heap hb]; rfl
 go_enter Tryz.func135, Tryz.ntmps135
 go_wp2;rw [Lib.run_neq_ptr_same w _ Tryz.underlying138 hj];go_wp2
 go_end0
 exact ⟨rfl, rfl⟩
theorem Tryz.bcAny (b : Nat) (w : World) (p v : Value) (n : Nat) (xs : List Value) (hb : w.heap[b]? = some (.cells #[p, v] 141 (0, 0))) (hp : p = .pointer none ∨ p = .pointer (some ⟨b, 0, none⟩))
  (hown : w.ownsRow 0 5 1 v n xs) (hne : v.ownBlock ≠ some b) :
  Calls Tryz.prog 135 #[.pointer (some ⟨b, 0, none⟩)] w fun e w' => e = .returned (.tuple #[]) ∧ w'.heap[b]? = some (.cells #[.pointer (some ⟨b, 0, none⟩), v] 141 (0, 0)) ∧
   w'.ownsRow 0 5 1 v n xs ∧ w'.heap.size = w.heap.size ∧ WrKeep b v.ownBlock w w' ∧ ∀ k, k ≠ b → w'.heap[k]? = w.heap[k]? := by
 rcases hp with rfl | rfl
 ·refine (Tryz.bcFresh b w v hb).mono ?_;rintro e w' ⟨rfl, rfl⟩;refine ⟨rfl, by simp [World.setCell, Array.getElem?_modify, hb], ?_, by simp [World.setCell], WrKeep.setCell _ _ _ _ _, fun k hk => heap_setCell_ne hk⟩;exact hown.kept (row := some b) ⟨rfl, rfl, rfl, by simp [World.setCell], fun k _ hk => heap_setCell_ne (fun e => hk (by simp [e]))⟩ (.inr hne)
 ·refine (Tryz.bcUsed b w v hb).mono ?_;rintro e w' ⟨rfl, rfl⟩;exact ⟨rfl, hb, hown, rfl, WrKeep.refl _ _ _, fun _ _ => rfl⟩
end Go.Proofs
end
section
namespace Go.Ab
theorem wrap64_of {n : Int} (h0 : -9223372036854775808 ≤ n) (h1 : n < 9223372036854775808) : IntKind.i64.wrap n = n := by
 rw [IntKind.wrap_i64]; omega
theorem and_mask {j : Nat} (hj : j ≤ 62) (a m : Int) (hm : m = 2 ^ j - 1) : IntKind.i64.wrap ((BitVec.ofInt IntKind.i64.bits a &&& BitVec.ofInt IntKind.i64.bits m).toNat : Nat) = a % 2 ^ j := by
 have hb : IntKind.i64.bits = 64 := rfl
 have hp : (2 : Int) ^ j ≤ 2 ^ 62 := by
  have : (2 : Nat) ^ j ≤ 2 ^ 62 := Nat.pow_le_pow_right (by omega) hj
  exact_mod_cast this
 have h0 : (0 : Int) < 2 ^ j := Int.pow_pos (by omega)
 have hm' : (BitVec.ofInt 64 m).toNat = 2 ^ j - 1 := by
  rw [BitVec.toNat_ofInt]
  have e : m % ((2 ^ 64 : Nat) : Int) = m := Int.emod_eq_of_lt (by omega) (by
   rw [hm];have : (2 : Int) ^ 62 < ((2 ^ 64 : Nat) : Int) := by decide
   omega)
  rw [e, hm];have : ((2 ^ j : Nat) : Int) = (2 : Int) ^ j := by push_cast; rfl
  rw [← this]; omega
 rw [hb, BitVec.toNat_and, hm', Nat.and_two_pow_sub_one_eq_mod, BitVec.toNat_ofInt]
 have e1 : (((a % ((2 ^ 64 : Nat) : Int)).toNat % 2 ^ j : Nat) : Int) = a % 2 ^ j := by
  rw [Int.natCast_emod, Int.toNat_of_nonneg (Int.emod_nonneg _ (by decide)), Int.natCast_pow];refine Int.emod_emod_of_dvd _ ?_;have : ((2 ^ j : Nat) : Int) ∣ ((2 ^ 64 : Nat) : Int) := Int.natCast_dvd_natCast.2 (Nat.pow_dvd_pow 2 (by omega));simpa only [Int.natCast_pow] using this
 rw [e1];have h2 := Int.emod_nonneg a (b := (2 : Int) ^ j) (by omega);have h3 := Int.emod_lt_of_pos a h0;exact wrap64_of (by omega) (by omega)
theorem and_mask' {j : Nat} (hj : j ≤ 62) (a m : Int) (hm : m = 2 ^ j - 1) : qaq .and .i64 a m = a % 2 ^ j := and_mask hj a m hm
end Go.Ab
end
section
namespace Go.Ab
theorem eqI_d (a b : Int) : eqI a b = decide (a = b) := by
 unfold eqI; by_cases h : a = b <;> simp [h]
theorem neI_d (a b : Int) : neI a b = decide (a ≠ b) := by
 unfold neI; by_cases h : a = b <;> simp [h]
theorem ltI_d (a b : Int) : ltI a b = decide (a < b) := rfl
theorem leI_d (a b : Int) : leqI a b = decide (a ≤ b) := rfl
theorem eqI_t {a b : Int} (h : a = b) : eqI a b = true := by rw [eqI_d]; exact decide_eq_true h
theorem eqI_f {a b : Int} (h : a ≠ b) : eqI a b = false := by rw [eqI_d]; exact decide_eq_false h
theorem neI_t {a b : Int} (h : a ≠ b) : neI a b = true := by rw [neI_d]; exact decide_eq_true h
theorem neI_f {a b : Int} (h : a = b) : neI a b = false := by rw [neI_d]; exact decide_eq_false (fun q => q h)
theorem ltI_t {a b : Int} (h : a < b) : ltI a b = true := decide_eq_true h
theorem ltI_f {a b : Int} (h : ¬ a < b) : ltI a b = false := decide_eq_false h
theorem leI_t {a b : Int} (h : a ≤ b) : leqI a b = true := decide_eq_true h
theorem leI_f {a b : Int} (h : ¬ a ≤ b) : leqI a b = false := decide_eq_false h
theorem notB_d (a : Bool) : notB a = !a := rfl
theorem qai (x y : Bool) : qaf x y false = (x && y) := by cases x <;> rfl
theorem qaj (x y : Bool) : qaf x true y = (x || y) := by cases x <;> rfl
theorem minI_d (a b : Int) : minI a b = min a b := rfl
theorem maxI_d (a b : Int) : maxI a b = max a b := rfl
theorem addI_n {a b : Int} (h0 : -9223372036854775808 ≤ a + b) (h1 : a + b < 9223372036854775808) : addI .i64 a b = a + b := wrap64_of h0 h1
theorem subI_n {a b : Int} (h0 : -9223372036854775808 ≤ a - b) (h1 : a - b < 9223372036854775808) : subI .i64 a b = a - b := wrap64_of h0 h1
theorem mulI_n {a b : Int} (h0 : -9223372036854775808 ≤ a * b) (h1 : a * b < 9223372036854775808) : mulI .i64 a b = a * b := wrap64_of h0 h1
theorem Lh {α : Type} {p : Prop} {x : Option α} (h : p) : need p x = x := by unfold need; rw [if_pos h]
@[simp] theorem qal {V X : Type} (v : V) (k : V → Option X) : flC (.go v) k = k v := rfl
@[simp] theorem flC_out {V X : Type} (x : X) (k : V → Option X) : flC (.out x) k = some x := rfl
@[simp] theorem Le {α β : Type} (x : α) (k : α → Option β) : (some x).bind k = k x := rfl
@[simp] theorem qax {α : Type} (x y : α) : (some x).getD y = x := rfl
theorem notB_t' : notB false = true := rfl
theorem notB_f' : notB true = false := rfl
def RoundP {S T : Type} (I : S → Prop) (Q : T → Prop) (μ : S → Nat) (s : S) : Option (Fl S T) → Prop
 | some (.go s') => I s' ∧ μ s' < μ s
 | some (.out t) => Q t
 | none => False
theorem loop_ends {S T : Type} {body : S → Option (Fl S T)} (I : S → Prop) (Q : T → Prop) (μ : S → Nat) (h : ∀ s, I s → RoundP I Q μ s (body s)) (s : S) (hs : I s) : ∃ t, loopF body s = some t ∧ Q t :=
 loopF_ends I Q μ (fun s hI => by
  have q := h s hI;cases hb : body s with
  | none => rw [hb] at q; exact q.elim
  | some f =>
    rw [hb] at q;refine ⟨f, rfl, ?_⟩;cases f <;> exact q) s hs
end Go.Ab
end
