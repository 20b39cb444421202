/- What these functions compute, as plain functions. No condition. -/
import Derived.Test.YtpjplfnapgpfmaaGreatTs
import Derived.Test.YtpjplfnapgpfmaaGreatM03
import Derived.Test.YtpjplfnapgpfmaaGreatM02
import Derived.Lib.UnsafeStr
import Derived.Shelf.RegionOpenPlain
section
namespace Go.Proofs
open Go.Ab
noncomputable def gaD (x0 : Int) : Option Bool :=
 some (neI x0 x0)

noncomputable def gaN (x0 : Int) (x1 : Int) : Option Bool :=
 ((gaD x0)).bind fun r1 =>
 need (Under r1 true ((gaD x1).isSome = true)) <|
 some (pickB (pickB r1 (notB ((gaD x1).getD dflt)) false) true (ltI x0 x1))

noncomputable def gZ (x0 : Int) : Option Bool :=
 some (neI x0 x0)

noncomputable def gc.loop1 (x0 : List Int) (x1 : Int) (s1 : Int × Int) : Option (Fl (Int × Int) (Fl Int (Int × Bool))) :=
 bif (ltI s1.1 s1.2) then (
  need (NonN 1) <|
  need (InB (cvtI .i64 (shrI .u64 (cvtI .u64 (addI .i64 s1.1 s1.2)) 1)) (lenL x0)) <|
  ((gaN (nthI x0 (cvtI .i64 (shrI .u64 (cvtI .u64 (addI .i64 s1.1 s1.2)) 1))) x1)).bind fun r1 =>
  bif r1 then (
   some (.go ((addI .i64 (cvtI .i64 (shrI .u64 (cvtI .u64 (addI .i64 s1.1 s1.2)) 1)) 1), s1.2))
  ) else (
    some (.go (s1.1, (cvtI .i64 (shrI .u64 (cvtI .u64 (addI .i64 s1.1 s1.2)) 1))))
  )
 ) else (
   some (.out (.go s1.1))
 )

noncomputable def gc (x0 : List Int) (x1 : Int) : Option (Int × Bool) :=
 ((loopF (gc.loop1 x0 x1) (0, (lenL x0))).bind fun f => flC f fun (v1 : Int) =>
   need (Under (ltI v1 (lenL x0)) true (InB v1 (lenL x0))) <|
   need (Under (eqI (nthI x0 v1) x1) false (Under (ltI v1 (lenL x0)) true (InB v1 (lenL x0)))) <|
   need (Under (eqI (nthI x0 v1) x1) false (Under (ltI v1 (lenL x0)) true ((gZ (nthI x0 v1)).isSome = true))) <|
   need (Under ((gZ (nthI x0 v1)).getD dflt) true (Under (eqI (nthI x0 v1) x1) false (Under (ltI v1 (lenL x0)) true ((gZ x1).isSome = true)))) <|
   some (v1, (pickB (ltI v1 (lenL x0)) (pickB (eqI (nthI x0 v1) x1) true (pickB ((gZ (nthI x0 v1)).getD dflt) ((gZ x1).getD dflt) false)) false))
 )
end Go.Proofs
end
section
namespace Go.Proofs
open Go.Ab
noncomputable def gaX (x0 : Int) : Option (Option Tp × Int) :=
 bif (pickB (ltI x0 1) true (ltI 16777216 x0)) then (
  some (none, 5)
 ) else (
   some ((some (Tp.mk x0 [] [] 0 false)), 0)
 )

noncomputable def gaq (x0 : Tp) (x1 : Int) (x2 : Int) : Option (Int × Tp) :=
 bif (pickB (ltI x2 x0.fb) true (ltI 16777216 x2)) then (
  some (5, x0)
 ) else (
   bif (ltI 0 (getM eqI x1 0 x0.fm)) then (
    some (10, x0)
   ) else (
     some (0, (Tp.mk x0.fb (setM eqI x1 x2 x0.fm) x0.fp x0.fAt x0.fg))
   )
 )

noncomputable def gF (x0 : Tp) (x1 : Int) : Option (Int × Tp) :=
 bif (eqI (getM eqI x1 0 x0.fm) 0) then (
  some (12, x0)
 ) else (
   ((
    bif (eqI x0.fAt x1) then (
     some (.go false)
    ) else (
      some (.go x0.fg)
    )
    : Option (Fl Bool (Int × Tp))).bind fun f => flC f fun (v1 : Bool) =>
    some (0, (Tp.mk x0.fb (delM eqI x1 x0.fm) (delM eqI x1 x0.fp) x0.fAt v1))
   )
 )

noncomputable def gB.loop1 (x0 : Tp) (x1 : List Tg) (s1 : Int × (List (Int × Int))) : Option (Fl (Int × (List (Int × Int))) (Fl (List (Int × Int)) (List (Int × Int)))) :=
 bif (ltI s1.1 (lenL x1)) then (
  need (InB s1.1 (lenL x1)) <|
  bif (pickB (pickB (ltI 0 (getM eqI ((nthI x1 s1.1).fId) 0 x0.fm)) (leqI 0 ((nthI x1 s1.1).fj)) false) (leqI ((nthI x1 s1.1).fj) x0.fb) false) then (
   some (.go ((addI .i64 s1.1 1), (setM eqI ((nthI x1 s1.1).fId) ((nthI x1 s1.1).fj) s1.2)))
  ) else (
    some (.go ((addI .i64 s1.1 1), s1.2))
  )
 ) else (
   some (.out (.go s1.2))
 )

noncomputable def gB (x0 : Tp) (x1 : List Tg) : Option (List (Int × Int)) :=
 ((loopF (gB.loop1 x0 x1) (0, [])).bind fun f => flC f fun (v1 : (List (Int × Int))) =>
   some v1
 )

noncomputable def gaH (x0 : List Int) (x1 : Int) : Option Int :=
 ((gc x0 x1)).bind fun r1 =>
 ((
  bif r1.2 then (
   some (.go (addI .i64 r1.1 1))
  ) else (
    some (.go r1.1)
  )
  : Option (Fl Int Int)).bind fun f => flC f fun (v1 : Int) =>
  need (NonZ (lenL x0)) <|
  need (InB (remI v1 (lenL x0)) (lenL x0)) <|
  some (nthI x0 (remI v1 (lenL x0)))
 )

noncomputable def gf.loop3 (x0 : Tp) (r1 : (List (Int × Int))) (s3 : Int × Bool × (List (Int × Int))) : Option (Fl (Int × Bool × (List (Int × Int))) (Fl Unit (Int × Bool × Tp))) :=
 ((
  bif (notB s3.2.1) then (
   some (.go (true, (setM eqI s3.1 (addI .i64 (getM eqI s3.1 0 s3.2.2) (getM eqI s3.1 0 x0.fm)) s3.2.2)))
  ) else (
    some (.go (s3.2.1, s3.2.2))
  )
  : Option (Fl (Bool × (List (Int × Int))) (Fl (Int × Bool × (List (Int × Int))) (Fl Unit (Int × Bool × Tp))))).bind fun f => flC f fun (v4 : Bool × (List (Int × Int))) =>
  bif (leqI (getM eqI s3.1 0 r1) (getM eqI s3.1 0 v4.2)) then (
   some (.out (.out (s3.1, true, (Tp.mk x0.fb x0.fm v4.2 s3.1 v4.1))))
  ) else (
    ((gaH (sortL (keysM r1)) s3.1)).bind fun r3 =>
    some (.go (r3, false, v4.2))
  )
 )

noncomputable def gf (x0 : Tp) (x1 : List Tg) : Option (Int × Bool × Tp) :=
 ((gB x0 x1)).bind fun r1 =>
 need (KeysB (keysM r1)) <|
 bif (eqI (lenL (sortL (keysM r1))) 0) then (
  some (0, false, (Tp.mk x0.fb x0.fm (keepM (fun k1 => (bif (notB (hasM eqI k1 r1)) then false else true)) x0.fp) x0.fAt false))
 ) else (
   ((
    bif (notB (hasM eqI x0.fAt r1)) then (
     ((gaH (sortL (keysM r1)) x0.fAt)).bind fun r2 =>
     some (.go (r2, false))
    ) else (
      some (.go (x0.fAt, x0.fg))
    )
    : Option (Fl (Int × Bool) (Int × Bool × Tp))).bind fun f => flC f fun (v2 : Int × Bool) =>
    ((loopF (gf.loop3 x0 r1) (v2.1, v2.2, (keepM (fun k1 => (bif (notB (hasM eqI k1 r1)) then false else true)) x0.fp))).bind fun f => flC f fun (_v3 : Unit) =>
      none
    )
   )
 )

noncomputable def gam (x0 : Tp) (x1 : Int) : Option Tp :=
 bif (pickB (pickB x0.fg (leqI 0 x1) false) (leqI x1 (getM eqI x0.fAt 0 x0.fp)) false) then (
  some (Tp.mk x0.fb x0.fm (setM eqI x0.fAt (subI .i64 (getM eqI x0.fAt 0 x0.fp) x1) x0.fp) x0.fAt x0.fg)
 ) else (
   some x0
 )
end Go.Proofs
end
section
namespace Go.Proofs
open Go.Ab
noncomputable def gaR (x0 : ByteArray) : Option Tk :=
 some (Tk.mk x0 0)

noncomputable def gaa (x0 : Tk) : Option Int :=
 some x0.fE

noncomputable def gJ (x0 : Tk) (x1 : Int) : Option Tk :=
 bif (pickB (eqI x0.fE 0) (neI x1 0) false) then (
  some (Tk.mk ⟨#[]⟩ x1)
 ) else (
   some x0
 )

noncomputable def gak (x0 : Tk) : Option Int :=
 some (lenS x0.fS)

noncomputable def gz (x0 : Tk) (x1 : Int) : Option (ByteArray × Tk) :=
 bif (neI x0.fE 0) then (
  some (⟨#[]⟩, x0)
 ) else (
   bif (ltI x1 0) then (
    ((gJ x0 5)).bind fun r1 =>
    some (⟨#[]⟩, r1)
   ) else (
     bif (ltI (lenS x0.fS) x1) then (
      ((gJ x0 1)).bind fun r2 =>
      some (⟨#[]⟩, r2)
     ) else (
       need (CutB 0 x1 (lenS x0.fS)) <|
       need (CutB x1 (lenS x0.fS) (lenS x0.fS)) <|
       some ((cutS x0.fS 0 x1), (Tk.mk (cutS x0.fS x1 (lenS x0.fS)) x0.fE))
     )
   )
 )

noncomputable def gk.loop1 (r1 : ByteArray × Tk) (s1 : Int × Int) : Option (Fl (Int × Int) (Fl Int (Int × Tk))) :=
 bif (ltI s1.1 (lenL (numsOf r1.1))) then (
  need (InB s1.1 (lenL (numsOf r1.1))) <|
  need (NonN 8) <|
  some (.go ((addI .i64 s1.1 1), (bitsOp .or .u64 (shlI .u64 s1.2 8) (cvtI .u64 (nthI (numsOf r1.1) s1.1)))))
 ) else (
   some (.out (.go s1.2))
 )

noncomputable def gk (x0 : Tk) (x1 : Int) : Option (Int × Tk) :=
 ((gz x0 (minI (maxI x1 1) 8))).bind fun r1 =>
 ((loopF (gk.loop1 r1) (0, 0)).bind fun f => flC f fun (v1 : Int) =>
   some (v1, r1.2)
 )

noncomputable def gad (x0 : Tk) : Option (Int × Tk) :=
 ((gk x0 1)).bind fun r1 =>
 some ((cvtI .u8 r1.1), r1.2)

noncomputable def gN (x0 : Tk) : Option (Int × Tk) :=
 ((gk x0 2)).bind fun r1 =>
 some ((cvtI .u16 r1.1), r1.2)

noncomputable def gO (x0 : Tk) : Option (Int × Tk) :=
 ((gk x0 4)).bind fun r1 =>
 some ((cvtI .u32 r1.1), r1.2)

noncomputable def gQ (x0 : Tk) : Option (ByteArray × Tk) :=
 ((gak x0)).bind fun r1 =>
 ((gz x0 r1)).bind fun r2 =>
 some (r2.1, r2.2)
end Go.Proofs
end
section
namespace Go.Proofs
open Go.RowKit Go.Ab

theorem hidW {p : Prop} (h : p) : Hid p := h

set_option maxHeartbeats 2000000 in
set_option maxRecDepth 100000 in
theorem Tryz.writeW (b : Nat) (w : World) (p v : Value) (n : Nat) (xs : List Value) (hb : w.heap[b]? = some (.cells #[p, v] 119 (0, 0))) (hp : p = .pointer none ∨ p = .pointer (some ⟨b, 0, none⟩))
  (hown : w.ownsRow 0 5 1 v n xs) (hne : v.ownBlock ≠ some b) (ad : Addr) (m c : Nat) (news : List Value) (hl : news.length = m) (hm : 0 < m) (hnews : ∀ j u, news[j]? = some u → w.cell? (ad.add j) = some u)
  (h1 : ∀ u ∈ news, u.oneCell' = true) (hap : ∀ j, (ad.add j).block ≠ b) (hbytes : n + m ≤ 140737488355328) :
  Calls Tryz.prog 78 #[.pointer (some ⟨b, 0, none⟩), .slice (some ad) m c] w fun e w' => e = .returned (.tuple #[.int .i64 m, .nilIface]) ∧
   ∃ v', w'.heap[b]? = some (.cells #[.pointer (some ⟨b, 0, none⟩), v'] 119 (0, 0)) ∧ w'.ownsRow 0 5 1 v' (n + m) (xs ++ news) ∧ v'.ownBlock ≠ some b ∧ WrKeep b v.ownBlock w w' ∧
     (v'.ownBlock = v.ownBlock ∨ v'.ownBlock = some w.heap.size) ∧ ∀ g, v'.ownBlock = some g → g < w'.heap.size := by
 have hbl : b < w.heap.size := by
  rcases Nat.lt_or_ge b w.heap.size with h | h
  ·exact h
  ·simp [Array.getElem?_eq_none h] at hb
 have H1 := hidW (Tryz.ccAny b w p v n xs hb hp hown hne)
 have H2 := hidW (show _ ∧ _ ∧ _ ∧ _ ∧ _ ∧ _ from ⟨hbl, hne, hnews, h1, hap, hl⟩)
 clear hb hp hown hne hnews h1 hap hbl hl
 go_enter Tryz.func78, Tryz.ntmps78
 go_wp2_with (go_at_call 103; refine H1.out.mono ?_)
 rintro e w1 ⟨rfl, hb1, hown1, hsz1, hk1, hall1⟩
 obtain ⟨hbl, hne, hnews, h1, hap, hl⟩ := H2.out
 obtain ⟨i0, hi, hz⟩ := Option.map_eq_some_iff.1 Tryz.byteI
 simp only [Prod.mk.injEq] at hz
 obtain ⟨hz0, hz1, hz2⟩ := hz
 have hnews1 : ∀ j u, news[j]? = some u → w1.cell? (ad.add j) = some u := fun j u hj => by
  rw [← hnews j u hj]; simp only [World.cell?]; rw [hall1 _ (hap j)]
 have hsrc : Src Tryz.prog 1 115 (.slice (some ad) m c) m news w1 := Src.ofSlice w1 Tryz.underlying115 ad m c news (by omega) hnews1 h1
 have Hs := hidW hsrc
 have Hi := hidW (show _ ∧ _ ∧ _ ∧ _ from ⟨hi, hz0, hz1, hz2⟩)
 have Hk := hidW (show _ ∧ _ from ⟨hk1, hsz1⟩)
 have Ho := hidW hown1
 have Hn := hidW hne
 have Hb := hidW hb1
 have Hl := hidW hbl
 have c0 : w1.cell? ⟨b, 0, none⟩ = some (.pointer (some ⟨b, 0, none⟩)) := by rw [Lib.cell_of_heap hb1]; rfl
 have c1 : w1.cell? ⟨b, 1, none⟩ = some v := by rw [Lib.cell_of_heap hb1]; rfl
 clear hall1 hk1 hsz1 hown1 hne hb1 hsrc hnews1 hnews h1 hap hi hz0 hz1 hz2 hbl hl H1 H2
 go_wp2_with (at_builtin; refine wpList_append_w rfl _ _ 115 115 rfl 5 i0 _ Tryz.underlying115 Hi.out.1 Hi.out.2.1 Hi.out.2.2.1 Hi.out.2.2.2 rfl _ _ _ rfl Ho.out _ rfl m news Hs.out hm hbytes ?_)
 intro v' w2 hown' hgrow hblk' hnn
 obtain ⟨hk1, hsz1⟩ := Hk.out
 have hne := Hn.out
 have hb1 := Hb.out
 have hbl := Hl.out
 have hlt : b < w1.heap.size := by omega
 have hne' : v'.ownBlock ≠ some b := by
  rcases hblk' with h | h
  ·rw [h]; exact hne
  ·rw [h]; intro e; simp only [Option.some.injEq] at e; omega
 have hb2 : w2.heap[b]? = some (.cells #[.pointer (some ⟨b, 0, none⟩), v] 119 (0, 0)) := by
  rw [hgrow.block b hlt (fun e => hne e.symm)]
  exact hb1
 have fin : ∀ w3, w3 = w2.setCell ⟨b, 1, none⟩ v' → w3.heap[b]? = some (.cells #[.pointer (some ⟨b, 0, none⟩), v'] 119 (0, 0)) ∧ w3.ownsRow 0 5 1 v' (n + m) (xs ++ news) ∧ v'.ownBlock ≠ some b ∧ WrKeep b v.ownBlock w w3 ∧
    (v'.ownBlock = v.ownBlock ∨ v'.ownBlock = some w.heap.size) ∧ ∀ g, v'.ownBlock = some g → g < w3.heap.size := by
  rintro w3 rfl
  refine ⟨by simp [World.setCell, Array.getElem?_modify, hb2], ?_, hne', (hk1.trans (WrKeep.grown hgrow)).trans (WrKeep.setCell _ _ _ _ _), by rw [hsz1] at hblk'; exact hblk', fun q hq => ?_⟩
  ·exact hown'.kept (row := some b) ⟨rfl, rfl, rfl, by simp [World.setCell], fun k _ hk => heap_setCell_ne (fun e => hk (by simp [e]))⟩ (.inr hne')
  ·rcases hown'.2 with ⟨_, h⟩ | ⟨g', cap', cur, hv, _, ho, _⟩
   ·omega
   ·subst hv
    simp only [Value.ownBlock, Option.some.injEq] at hq
    subst hq
    simp only [World.setCell, Array.size_modify]
    rcases Nat.lt_or_ge g' w2.heap.size with h | h
    ·exact h
    ·simp [Array.getElem?_eq_none h] at ho
 have Hf := hidW fin
 have d0 : w2.cell? ⟨b, 0, none⟩ = some (.pointer (some ⟨b, 0, none⟩)) := by rw [Lib.cell_of_heap hb2]; rfl
 have d1 : w2.cell? ⟨b, 1, none⟩ = some v := by rw [Lib.cell_of_heap hb2]; rfl
 have f1 : w2.frozen? ⟨b, 1, none⟩ = false := Lib.frozen_of_heap hb2 1
 obtain ⟨g, cap, hv'⟩ : ∃ g cap, v' = .slice (some ⟨g, 0, none⟩) (n + m) cap := by
  rcases hown'.2 with ⟨_, h⟩ | ⟨g, cap, cur, hv, _⟩
  ·omega
  ·exact ⟨_, _, hv⟩
 subst hv'
 clear hown' hgrow hblk' hnn hne' hk1 hsz1 hne hb1 hbl hlt hb2 fin
 go_wp2
 go_ret2
 exact ⟨rfl, _, Hf.out _ rfl⟩

theorem Tryz.byteC : Tryz.prog.cellsOf 5 = 1 := by kernel_rfl

set_option maxHeartbeats 1000000 in
set_option maxRecDepth 100000 in
theorem Tryz.stringW (b g cap : Nat) (w : World) (p : Value) (l : List UInt8) (cur : Array Value) (hb : w.heap[b]? = some (.cells #[p, .slice (some ⟨g, 0, none⟩) l.length cap] 119 (0, 0)))
  (hg : w.heap[g]? = some (.cells cur 5 (0, 0))) (hnc : l.length ≤ cap) (hcm : cap ≤ maxLen) (hcs : cur.size = cap) (ht : cur.toList.take l.length = Lib.byteCells l) (h0 : l ≠ []) :
  Calls Tryz.prog 81 #[.pointer (some ⟨b, 0, none⟩)] w fun e w' => e = .returned (.string ⟨l.toArray⟩) ∧ WrKeep b (some g) w w' ∧ w'.heap.size = w.heap.size := by
 have hl0 : l.length ≠ 0 := by simpa using h0
 have c1 : w.drew.cell? ⟨b, 1, none⟩ = some (.slice (some ⟨g, 0, none⟩) l.length cap) := by
  have : w.drew.heap[b]? = some (.cells #[p, .slice (some ⟨g, 0, none⟩) l.length cap] 119 (0, 0)) := hb
  rw [Lib.cell_of_heap this]; rfl
 have hSD : (Builtin.unsafeSliceData_ #[115] 212 #[.slice (some ⟨g, 0, none⟩) l.length cap]).run Tryz.prog w.drew = .ok (.pointer (some ⟨g, 0, none⟩)) w.drew :=
  Lib.run_unsafeSliceData_row _ _ _ _ _ _ (by omega)
 have hUS : (Builtin.unsafeString_ #[212, 3] 9 #[.pointer (some ⟨g, 0, none⟩), .int .i64 l.length]).run Tryz.prog w.drew = .ok (.string ⟨l.toArray⟩) (w.drew.freeze ⟨g, 0, none⟩ l.length) := by
  refine Lib.run_unsafeString_row w.drew 212 3 9 5 Tryz.underlying212 Tryz.byteC g cur.size (by have hg' : w.drew.heap[g]? = some (.cells cur 5 (0, 0)) := hg; simp [World.shape?, hg']) l h0 (by omega) (by unfold maxLen at hcm; omega) ?_
  intro j x hx
  have hadd : (⟨g, 0, none⟩ : Addr).add j = ⟨g, j, none⟩ := by unfold Addr.add; split <;> simp_all
  have hj : (cur.toList.take l.length)[j]? = some (.int .u8 x.toNat) := by rw [ht]; simp [Lib.byteCells, hx]
  rw [List.getElem?_take] at hj
  split at hj
  ·show w.cell? _ = _
   rw [hadd]
   simp only [World.cell?, hg]
   simpa using hj
  ·cases hj
 have Hf := hidW (show WrKeep b (some g) w (w.drew.freeze ⟨g, 0, none⟩ l.length) ∧ (w.drew.freeze ⟨g, 0, none⟩ l.length).heap.size = w.heap.size from by
  unfold World.freeze
  rw [if_neg hl0]
  refine ⟨⟨by simp, rfl, rfl, fun k _ _ hk => ?_⟩, by simp⟩
  simp only [Array.getElem?_modify]
  rw [if_neg (fun e => hk (by rw [e]))]
  rfl)
 clear hb hg hnc hcm hcs ht h0 hl0
 go_enter Tryz.func81, Tryz.ntmps81
 go_wp2
 go_region
 all_goals (go_wp2; go_ret; exact ⟨rfl, Hf.out⟩)
end Go.Proofs
end
