/- What these functions compute, as plain functions. No condition. -/
import Derived.Test.YtjjjeolcapebbaaGreatDoorM07
import Derived.Test.YtjjjeolcapebbaaGreatDoorM05
import Derived.Test.YtjjjeolcapebbaaGreatDoorM04
import Derived.Test.YtjjjeolcapebbaaGreatDoorProg
import Derived.StillTailTactics
import Derived.Sort.Grow
import Derived.Lib.Small
import Derived.Lib.Walk
import Derived.BigRegion
import Derived.Deep.Draws
import Derived.Sort.CutIn
import Derived.Test.YtjjjeolcapebbaaGreatDoorKz
import Derived.Shelf.SlSortCmp.NoneTotal
import Derived.Test.YtjjjeolcapebbaaGreatDoorM01
import Derived.Test.YtjjjeolcapebbaaGreatDoorKz2
import Derived.Test.YtjjjeolcapebbaaGreatDoorM06
section
namespace Go.Proofs
open Go.Ab
noncomputable def gSfuConfigCheck.loop1 (r1 : Int) (r2 : Int) (r3 : Int) (r4 : Int) (r5 : Int) (s1 : Int) : Option (Fl Int (Fl Unit Int)) :=
  bif (ltI s1 5) then (
    need (InB s1 5) <|
    bif (neI (nthI [r1, r2, r3, r4, r5] s1) 0) then (
      some (.out (.out (nthI [r1, r2, r3, r4, r5] s1)))
    ) else (
      some (.go (addI .i64 s1 1))
    )
  ) else (
    some (.out (.go ()))
  )

noncomputable def gSfuConfigCheck (x0 : SfuConfig) : Option Int :=
  ((gIngressConfigCheck (IngressConfig.mk (ReorderConfig.mk x0.fIngress.fOrder.fMost x0.fIngress.fOrder.fWait) x0.fIngress.fFrame))).bind fun r1 =>
  ((gEgressConfigCheck x0.fEgress)).bind fun r2 =>
  ((gPliConfigCheck x0.fPli)).bind fun r3 =>
  ((gStallConfigCheck x0.fStall)).bind fun r4 =>
  ((gLadderConfigCheck x0.fLadder)).bind fun r5 =>
  ((loopF (gSfuConfigCheck.loop1 r1 r2 r3 r4 r5) 0).bind fun f => flC f fun (_v1 : Unit) =>
    ((gLadderNew x0.fLadder 0 x0.fNeeds)).bind fun r6 =>
    optC r6.1 (
      bif (pickB (neI r6.2 0) true (neI (lenL x0.fNeeds) 3)) then (
        some 5
      ) else (
        ((gRateNew x0.fWindow)).bind fun r7 =>
        optC r7.1 (
          bif (neI r7.2 0) then (
            some r7.2
          ) else (
            ((gRingNew x0.fRing x0.fAgain x0.fGap)).bind fun r8 =>
            optC r8.1 (
              bif (neI r8.2 0) then (
                some r8.2
              ) else (
                bif (pickB (pickB (pickB (ltI x0.fShare x0.fEgress.fMost) true (ltI 16777216 x0.fShare)) true (ltI x0.fReports 1)) true (ltI 1099511627776 x0.fReports)) then (
                  some 5
                ) else (
                  some 0
                )
              )
            ) fun _o3 => (
              bif (neI r8.2 0) then (
                some r8.2
              ) else (
                bif (pickB (pickB (pickB (ltI x0.fShare x0.fEgress.fMost) true (ltI 16777216 x0.fShare)) true (ltI x0.fReports 1)) true (ltI 1099511627776 x0.fReports)) then (
                  some 5
                ) else (
                  some 0
                )
              )
            )
          )
        ) fun _o2 => (
          bif (neI r7.2 0) then (
            some r7.2
          ) else (
            ((gRingNew x0.fRing x0.fAgain x0.fGap)).bind fun r8 =>
            optC r8.1 (
              bif (neI r8.2 0) then (
                some r8.2
              ) else (
                bif (pickB (pickB (pickB (ltI x0.fShare x0.fEgress.fMost) true (ltI 16777216 x0.fShare)) true (ltI x0.fReports 1)) true (ltI 1099511627776 x0.fReports)) then (
                  some 5
                ) else (
                  some 0
                )
              )
            ) fun _o3 => (
              bif (neI r8.2 0) then (
                some r8.2
              ) else (
                bif (pickB (pickB (pickB (ltI x0.fShare x0.fEgress.fMost) true (ltI 16777216 x0.fShare)) true (ltI x0.fReports 1)) true (ltI 1099511627776 x0.fReports)) then (
                  some 5
                ) else (
                  some 0
                )
              )
            )
          )
        )
      )
    ) fun _o1 => (
      bif (pickB (neI r6.2 0) true (neI (lenL x0.fNeeds) 3)) then (
        some 5
      ) else (
        ((gRateNew x0.fWindow)).bind fun r7 =>
        optC r7.1 (
          bif (neI r7.2 0) then (
            some r7.2
          ) else (
            ((gRingNew x0.fRing x0.fAgain x0.fGap)).bind fun r8 =>
            optC r8.1 (
              bif (neI r8.2 0) then (
                some r8.2
              ) else (
                bif (pickB (pickB (pickB (ltI x0.fShare x0.fEgress.fMost) true (ltI 16777216 x0.fShare)) true (ltI x0.fReports 1)) true (ltI 1099511627776 x0.fReports)) then (
                  some 5
                ) else (
                  some 0
                )
              )
            ) fun _o3 => (
              bif (neI r8.2 0) then (
                some r8.2
              ) else (
                bif (pickB (pickB (pickB (ltI x0.fShare x0.fEgress.fMost) true (ltI 16777216 x0.fShare)) true (ltI x0.fReports 1)) true (ltI 1099511627776 x0.fReports)) then (
                  some 5
                ) else (
                  some 0
                )
              )
            )
          )
        ) fun _o2 => (
          bif (neI r7.2 0) then (
            some r7.2
          ) else (
            ((gRingNew x0.fRing x0.fAgain x0.fGap)).bind fun r8 =>
            optC r8.1 (
              bif (neI r8.2 0) then (
                some r8.2
              ) else (
                bif (pickB (pickB (pickB (ltI x0.fShare x0.fEgress.fMost) true (ltI 16777216 x0.fShare)) true (ltI x0.fReports 1)) true (ltI 1099511627776 x0.fReports)) then (
                  some 5
                ) else (
                  some 0
                )
              )
            ) fun _o3 => (
              bif (neI r8.2 0) then (
                some r8.2
              ) else (
                bif (pickB (pickB (pickB (ltI x0.fShare x0.fEgress.fMost) true (ltI 16777216 x0.fShare)) true (ltI x0.fReports 1)) true (ltI 1099511627776 x0.fReports)) then (
                  some 5
                ) else (
                  some 0
                )
              )
            )
          )
        )
      )
    )
  )
end Go.Proofs
end
section
set_option maxRecDepth 100000
set_option maxHeartbeats 1000000
namespace Go.Ab
open Go.Proofs Go.RowKit Go.Lib Go.Sort
theorem isNaN_c (x : Int) (w : World) : Calls Tryz.prog 121 #[.int .i64 x] w fun e w' => e = .returned (.bool false) ∧ w' = w := by
  go_enter Tryz.func121, Tryz.ntmps121
  go_wp2
  go_ret
  exact ⟨by simp, rfl⟩
theorem compare_c (x y : Int) (w : World) : Calls Tryz.prog 189 #[.int .i64 x, .int .i64 y] w fun e w' => e = .returned (.int .i64 (Lib.compareInt x y)) ∧ w' = w := by
  go_enter Tryz.func189, Tryz.ntmps189
  go_wp2_with (go_at_call 121; refine (isNaN_c _ _).mono ?_; rintro e w' ⟨rfl, hw⟩; rw [hw])
  all_goals (go_ret; refine ⟨?_, rfl⟩; unfold Lib.compareInt; (repeat' split) <;> first | rfl | (exfalso; omega))
def or3 (a b c : Int) : Int := if a ≠ 0 then a else if b ≠ 0 then b else c
theorem or_c (B : Nat) (a b c : Int) (w : World) (h0 : w.cell? ⟨B, 0, none⟩ = some (.int .i64 a)) (h1 : w.cell? ⟨B, 1, none⟩ = some (.int .i64 b)) (h2 : w.cell? ⟨B, 2, none⟩ = some (.int .i64 c)) :
    Calls Tryz.prog 188 #[.slice (some ⟨B, 0, none⟩) 3 3] w fun e w' => e = .returned (.int .i64 (or3 a b c)) ∧ w' = w := by
  go_enter Tryz.func188, Tryz.ntmps188
  go_wp2
  go_loopw [8] (fun v wr => ∃ i : Nat, v = .int .i64 i ∧ i ≤ 3 ∧ wr = w ∧ (1 ≤ i → a = 0) ∧ (2 ≤ i → b = 0) ∧ (3 ≤ i → c = 0)) (fun v _ => 3 - (match v with | .int _ n => n.toNat | _ => 0))
  case atStart => exact ⟨0, rfl, by omega, rfl, by omega, by omega, by omega⟩
  case round =>
    obtain ⟨i, rfl, hi, rfl, q1, q2, q3⟩ := hrel
    rcases (show i = 0 ∨ i = 1 ∨ i = 2 ∨ i = 3 by omega) with rfl | rfl | rfl | rfl
    · go_wp2
      · rename_i hh
        go_ret
        have hh : a ≠ 0 := by simpa using hh
        exact ⟨by simp [or3, hh], rfl⟩
      · rename_i hh
        have hh : a = 0 := by simpa using hh
        exact ⟨⟨1, rfl, by omega, trivial, fun _ => hh, by omega, by omega⟩, by decide⟩
    · have qa := q1 (by omega)
      go_wp2
      · rename_i hh
        go_ret
        have hh : b ≠ 0 := by simpa using hh
        exact ⟨by simp [or3, hh, qa], rfl⟩
      · rename_i hh
        have hh : b = 0 := by simpa using hh
        exact ⟨⟨2, rfl, by omega, trivial, fun _ => qa, fun _ => hh, by omega⟩, by decide⟩
    · have qa := q1 (by omega)
      have qb := q2 (by omega)
      go_wp2
      · rename_i hh
        go_ret
        have hh : c ≠ 0 := by simpa using hh
        exact ⟨by simp [or3, qb, qa], rfl⟩
      · rename_i hh
        have hh : c = 0 := by simpa using hh
        exact ⟨⟨3, rfl, by omega, trivial, fun _ => qa, fun _ => qb, fun _ => hh⟩, by decide⟩
    · have qa := q1 (by omega)
      have qb := q2 (by omega)
      have qc := q3 (by omega)
      go_wp2
      go_ret
      exact ⟨by simp [or3, qb, qa, qc], rfl⟩

def cf3 (x y : Int × Int × Int) : Int := or3 (Lib.compareInt x.1 y.1) (Lib.compareInt x.2.1 y.2.1) (Lib.compareInt x.2.2 y.2.2)
theorem linksCmp (x y : Int × Int × Int) (W : World) : Calls Tryz.prog 187 #[.agg #[.int .i64 x.1, .int .i64 x.2.1, .int .i64 x.2.2], .agg #[.int .i64 y.1, .int .i64 y.2.1, .int .i64 y.2.2]] W fun e w' => e = .returned (.int .i64 (cf3 x y)) ∧ ∃ q os', w' = grow (W.drewN q) os' := by
  obtain ⟨x1, x2, x3⟩ := x
  obtain ⟨y1, y2, y3⟩ := y
  have c1 := fun W' => compare_c x1 y1 W'
  have c2 := fun W' => compare_c x2 y2 W'
  have c3 := fun W' => compare_c x3 y3 W'
  simp only [cf3]
  generalize Lib.compareInt x1 y1 = r1 at c1 ⊢
  generalize Lib.compareInt x2 y2 = r2 at c2 ⊢
  generalize Lib.compareInt x3 y3 = r3 at c3 ⊢
  go_enter Tryz.func187, Tryz.ntmps187
  go_upto_region 1 with (fail)
  obtain ⟨W2, hW2⟩ : ∃ W2, (W.alloc (.cells #[.int .i64 x1, .int .i64 x2, .int .i64 x3] 168)).alloc (.cells #[.int .i64 y1, .int .i64 y2, .int .i64 y3] 168) = W2 := ⟨_, rfl⟩
  change Code.wp _ _ _ _ ((W.alloc (.cells #[.int .i64 x1, .int .i64 x2, .int .i64 x3] 168)).alloc (.cells #[.int .i64 y1, .int .i64 y2, .int .i64 y3] 168))
  rw [hW2]
  have k0 : W2.cell? ⟨W.heap.size, 0, none⟩ = some (.int .i64 x1) := by rw [← hW2]; simp
  have k1 : W2.cell? ⟨W.heap.size, 1, none⟩ = some (.int .i64 x2) := by rw [← hW2]; simp
  have k2 : W2.cell? ⟨W.heap.size, 2, none⟩ = some (.int .i64 x3) := by rw [← hW2]; simp
  have l0 : W2.cell? ⟨W.heap.size + 1, 0, none⟩ = some (.int .i64 y1) := by rw [← hW2]; simp
  have l1 : W2.cell? ⟨W.heap.size + 1, 1, none⟩ = some (.int .i64 y2) := by rw [← hW2]; simp
  have l2 : W2.cell? ⟨W.heap.size + 1, 2, none⟩ = some (.int .i64 y3) := by rw [← hW2]; simp
  refine wp_region_still_tail 19 (by kernel_rfl) (by kernel_rfl) ?_
  simp only [List.take_succ_cons, List.take_zero, List.drop_succ_cons, List.drop_zero]
  iterate 4 still_step
  still_call (c1 _)
  iterate 6 still_step
  still_call (c2 _)
  iterate 6 still_step
  still_call (c3 _)
  refine wpStill_nil ?_
  change wpList _ _ _ _ _ W2.drew
  have fin : ∀ o : Obj, ∃ q os', W2.drew.alloc o = grow (W.drewN q) os' := fun o => by
    refine ⟨1, #[.cells #[.int .i64 x1, .int .i64 x2, .int .i64 x3] 168, .cells #[.int .i64 y1, .int .i64 y2, .int .i64 y3] 168] ++ #[o], ?_⟩
    rw [← hW2, alloc_eq_grow, ← grow_grow, alloc_eq_grow, alloc_eq_grow, grow_grow]; rfl
  generalize W2.drew = W3 at fin ⊢
  clear k0 k1 k2 l0 l1 l2 c1 c2 c3 hW2
  have hor := fun W' h0 h1 h2 => or_c W3.heap.size r1 r2 r3 W' h0 h1 h2
  go_wp2_with (go_at_call 188; refine (hor _ (by simp) (by simp) (by simp)).mono ?_; rintro e w' ⟨rfl, rfl⟩)
  go_ret
  exact ⟨rfl, fin _⟩
end Go.Ab
end
section
set_option maxRecDepth 100000
set_option maxHeartbeats 2000000
namespace Go.Ab
open Go.Proofs Go.Maps Go.RowKit Go.Sort Go.Shelf Go.Lib ChangeMaps
def le3 (x y : L3) : Bool := !(ltOf cf3) y x
def srt3 (l : List L3) : List L3 := l.mergeSort le3
theorem lt3 (x y : L3) : ltOf cf3 x y = decide (x.1 < y.1 ∨ (x.1 = y.1 ∧ (x.2.1 < y.2.1 ∨ (x.2.1 = y.2.1 ∧ x.2.2 < y.2.2)))) := by
  obtain ⟨a, b, c⟩ := x
  obtain ⟨a', b', c'⟩ := y
  simp only [ltOf, cf3, or3, Lib.compareInt]
  rcases Int.lt_trichotomy a a' with h | h | h <;> rcases Int.lt_trichotomy b b' with h' | h' | h' <;> rcases Int.lt_trichotomy c c' with h'' | h'' | h'' <;> (congr 1; apply propext; constructor <;> intro q <;> (repeat' split at *) <;> omega)
theorem swo3 : SWO (ltOf cf3) where
  irrefl x := by rw [lt3]; simp
  trans x y z h1 h2 := by rw [lt3] at *; simp only [decide_eq_true_eq] at *; omega
  ntrans x y z h1 h2 := by rw [lt3] at *; simp only [decide_eq_false_iff_not] at *; omega
theorem tot3 (x y : L3) (h1 : ltOf cf3 x y = false) (h2 : ltOf cf3 y x = false) : x = y := by
  rw [lt3] at h1 h2
  simp only [decide_eq_false_iff_not] at h1 h2
  obtain ⟨a, b, c⟩ := x
  obtain ⟨a', b', c'⟩ := y
  simp only at h1 h2
  have q1 : a = a' := by omega
  have q2 : b = b' := by omega
  have q3 : c = c' := by omega
  rw [q1, q2, q3]
theorem srt3_perm {l l' : List L3} (h : l.Perm l') : srt3 l = srt3 l' := by
  have ht : ∀ a b c : L3, le3 a b = true → le3 b c = true → le3 a c = true := fun a b c h1 h2 => by
    simp only [le3, Bool.not_eq_true'] at *
    exact swo3.ntrans c b a h2 h1
  have hto : ∀ a b : L3, (le3 a b || le3 b a) = true := fun a b => by
    simp only [le3, lt3, Bool.or_eq_true, Bool.not_eq_true', decide_eq_false_iff_not]; omega
  refine List.Perm.eq_of_pairwise (le := fun a b => le3 a b = true) (fun a b _ _ h1 h2 => ?_) (List.pairwise_mergeSort ht hto l) (List.pairwise_mergeSort ht hto l') (((List.mergeSort_perm l le3).trans h).trans (List.mergeSort_perm l' le3).symm)
  simp only [le3, Bool.not_eq_true'] at h1 h2
  exact tot3 a b h2 h1
theorem grownBy_sortedK {w : World} {g n : Nat} {os : Array Obj} (d : Array L3) : w.grownBy (sortWorldK cs3 3 w g 0 n d os) (some g) := by
  refine ⟨rfl, rfl, rfl, by simp [sortWorldK, putRowK, putRow, mapBlock, Sort.ahead], fun k hk hne => ?_⟩
  unfold sortWorldK
  rw [heap_grow_old _ _ (by simpa [putRowK, putRow, mapBlock, Sort.ahead] using hk)]
  have : g ≠ k := fun e => hne (by rw [e])
  simp [putRowK, putRow, mapBlock, Sort.ahead, Array.getElem?_modify, this]
theorem flat3 : ∀ (ss : List L3) (j : Nat), j < ss.length * 3 → (ss.flatMap cs3)[j]? = some ((cs3 ss[j / 3]!)[j % 3]!)
  | [], j, h => by simp at h
  | a :: r, 0, _ => rfl
  | a :: r, 1, _ => rfl
  | a :: r, 2, _ => rfl
  | a :: r, j + 3, h => by
    have h1 : (j + 3) / 3 = j / 3 + 1 := by omega
    have h2 : (j + 3) % 3 = j % 3 := by omega
    rw [h1, h2, List.flatMap_cons, List.getElem?_append_right (by simp [cs3])]
    have := flat3 r j (by simp only [List.length_cons] at h; omega)
    simpa [cs3] using this
theorem holdsK_of_block {w : World} {g : Nat} {cur : Array Value} {e : TypeId} {ss : List L3} (hb : w.heap[g]? = some (.cells cur e (0, 0))) (ht : cur.toList.take (ss.length * 3) = ss.flatMap cs3) : HoldsK cs3 3 w g 0 ss.toArray := by
  intro j hj
  have hj' : j < ss.length * 3 := by simpa using hj
  refine ⟨?_, by simp [World.frozen?, hb]⟩
  have h1 : (cur.toList.take (ss.length * 3))[j]? = (ss.flatMap cs3)[j]? := by rw [ht]
  rw [List.getElem?_take_of_lt hj', flat3 ss j hj'] at h1
  simp only [World.cell?, hb, Nat.zero_add, Option.isSome_none, Bool.false_eq_true, if_false]
  rw [get_flatK _ _ _ j (by simpa using hj')]
  simpa using h1
theorem sorted3 (Bm b : Nat) (ents : Array MapEntry) (clock : Nat) (K : List L3) (hold : ∀ x ∈ ents.toList, x.born < clock) (hnd : (ents.toList.map (·.born)).Nodup) (hK : ents.toList.map (·.key) = K.map kv3) (hN : K.length * 24 ≤ 140737488355328)
    (w : World) (hm : w.cell? ⟨Bm, 0, none⟩ = some (.map (some b))) (hb : w.heap[b]? = some (.map ents clock)) :
    Calls Tryz.prog 185 #[.func (.func 272) #[] #[.pointer (some ⟨Bm, 0, none⟩)], .func (.func 187) #[] #[]] w fun e w' =>
      ∃ v, e = .returned v ∧ Below w.heap.size w w' ∧ ((v = .slice none 0 0 ∧ K = []) ∨ ∃ gb cap, v = .slice (some ⟨gb, 0, none⟩) K.length cap ∧ w.heap.size ≤ gb ∧ K.length ≤ cap ∧ cap ≤ maxLen ∧ HoldsK cs3 3 w' gb 0 (srt3 K).toArray) := by
  have hlen : ents.size = K.length := by have := congrArg List.length hK; simpa using this
  have hkey : ∀ x ∈ ents.toList, ∃ k, x.key = kv3 k := fun x hx => by
    have : x.key ∈ ents.toList.map (·.key) := List.mem_map.2 ⟨x, hx, rfl⟩
    rw [hK] at this
    obtain ⟨k, _, e⟩ := List.mem_map.1 this
    exact ⟨k, e.symm⟩
  have hseq := keys3_gives Fence.wide (5 - 1 - 1) trivial rfl (by omega) Bm b ents clock hold hnd hkey w (cell_lt hm) hm hb
  have hcol := (callsIn_wide (n := 5)).1 (collect3 Fence.wide 5 trivial trivial rfl (by omega) 272 #[.pointer (some ⟨Bm, 0, none⟩)] trivial
    (enters_of Tryz.func272 (by kernel_rfl) rfl) _ ents.size (by simp only [maxLen]; omega) (by omega) w hseq)
  have hsf := fun blk off cap (d : Array L3) W hH hblk hsz => AnyQ.slices_SortFunc_total Tryz.sortL 3 Tryz.isAgg168 Tryz.sizeOf168 cs3 (fun _ => rfl) (fun x v hv => by simp [cs3] at hv; rcases hv with rfl | rfl | rfl <;> rfl) cf3 swo3 187 #[] blk off cap d W
    (enters_of Tryz.func187 (by kernel_rfl) rfl) (fun _ _ _ _ x y => linksCmp x y _) hH hblk hsz tot3
  have hsn := fun p cap fv W => AnyF.slices_SortFunc_none Tryz.sortL p cap fv W
  change ∀ (blk off cap : Nat) (d : Array L3) W _ _ _, Calls Tryz.prog 271 _ _ _ at hsf
  change ∀ (p : Option Addr) (cap : Nat) fv W, Calls Tryz.prog 271 _ _ _ at hsn
  go_enter Tryz.func185, Tryz.ntmps185
  go_wp2_with (go_at_call 270; refine hcol.mono ?_; rintro e W ⟨v, ss, rfl, hS, hrow, hnil, hbl⟩)
  have hSS : ss.Perm K := by
    rw [hK] at hS
    obtain ⟨l', q1, q2⟩ := perm_of_map kv3 hS
    rw [← (List.map_inj_right (fun x y => kv3_inj)).1 q2]; exact q1
  have hl : ss.length = K.length := hSS.length_eq
  rcases hrow.2 with ⟨rfl, hz⟩ | ⟨gb, cap, cur, rfl, hbase, hgb, r1, r2, r3, r4⟩
  · refine (hsn none 0 _ W).mono ?_
    rintro e w' ⟨rfl, rfl⟩
    go_wp2
    go_ret
    exact ⟨_, rfl, hbl, .inl ⟨rfl, List.eq_nil_of_length_eq_zero (by omega)⟩⟩
  · have hH := holdsK_of_block hgb r4
    have hgl : gb < W.heap.size := (Array.getElem?_eq_some_iff.1 hgb).1
    have cS := hsf gb 0 cap ss.toArray W hH hgl (by simp only [List.size_toArray]; omega)
    have hw := fun n os => holdsK_sortWorldK_c cs3 3 W gb 0 ss.toArray (srt3 ss).toArray n os hH hgl (by simp [srt3])
    have hg := fun n os => grownBy_sortedK (w := W) (g := gb) (n := n) (os := os) (srt3 ss).toArray
    have hT : (ss.toArray.toList.mergeSort fun x y => !(ltOf cf3) y x).toArray = (srt3 ss).toArray := rfl
    rw [hT] at cS
    rw [srt3_perm hSS] at cS hw hg
    simp only [List.size_toArray] at cS
    refine cS.mono ?_
    rintro e w' ⟨rfl, nn, os, rfl⟩
    have hw := hw nn os
    have hg := hg nn os
    generalize sortWorldK cs3 3 W gb 0 nn (srt3 K).toArray os = W5 at hw hg
    go_wp2
    go_ret
    exact ⟨_, rfl, hbl.grown hg hbl.size (fun j hj => by cases hj; exact hbase), .inr ⟨gb, cap, by rw [← hl]; rfl, hbase, by omega, r2, hw⟩⟩
end Go.Ab
end
section
set_option maxRecDepth 100000
set_option maxHeartbeats 2000000
namespace Go.Ab.A2
open Go.Proofs Go.Maps Go.RowKit Go.Sort Go.Shelf Go.Lib ChangeMaps
def le3 (x y : L3) : Bool := !(ltOf cf3) y x
def srt3 (l : List L3) : List L3 := l.mergeSort le3
theorem lt3 (x y : L3) : ltOf cf3 x y = decide (x.1 < y.1 ∨ (x.1 = y.1 ∧ (x.2.1 < y.2.1 ∨ (x.2.1 = y.2.1 ∧ x.2.2 < y.2.2)))) := by
  obtain ⟨a, b, c⟩ := x
  obtain ⟨a', b', c'⟩ := y
  simp only [ltOf, cf3, or3, Lib.compareInt]
  rcases Int.lt_trichotomy a a' with h | h | h <;> rcases Int.lt_trichotomy b b' with h' | h' | h' <;> rcases Int.lt_trichotomy c c' with h'' | h'' | h'' <;> (congr 1; apply propext; constructor <;> intro q <;> (repeat' split at *) <;> omega)
theorem swo3 : SWO (ltOf cf3) where
  irrefl x := by rw [lt3]; simp
  trans x y z h1 h2 := by rw [lt3] at *; simp only [decide_eq_true_eq] at *; omega
  ntrans x y z h1 h2 := by rw [lt3] at *; simp only [decide_eq_false_iff_not] at *; omega
theorem tot3 (x y : L3) (h1 : ltOf cf3 x y = false) (h2 : ltOf cf3 y x = false) : x = y := by
  rw [lt3] at h1 h2
  simp only [decide_eq_false_iff_not] at h1 h2
  obtain ⟨a, b, c⟩ := x
  obtain ⟨a', b', c'⟩ := y
  simp only at h1 h2
  have q1 : a = a' := by omega
  have q2 : b = b' := by omega
  have q3 : c = c' := by omega
  rw [q1, q2, q3]
theorem srt3_perm {l l' : List L3} (h : l.Perm l') : srt3 l = srt3 l' := by
  have ht : ∀ a b c : L3, le3 a b = true → le3 b c = true → le3 a c = true := fun a b c h1 h2 => by
    simp only [le3, Bool.not_eq_true'] at *
    exact swo3.ntrans c b a h2 h1
  have hto : ∀ a b : L3, (le3 a b || le3 b a) = true := fun a b => by
    simp only [le3, lt3, Bool.or_eq_true, Bool.not_eq_true', decide_eq_false_iff_not]; omega
  refine List.Perm.eq_of_pairwise (le := fun a b => le3 a b = true) (fun a b _ _ h1 h2 => ?_) (List.pairwise_mergeSort ht hto l) (List.pairwise_mergeSort ht hto l') (((List.mergeSort_perm l le3).trans h).trans (List.mergeSort_perm l' le3).symm)
  simp only [le3, Bool.not_eq_true'] at h1 h2
  exact tot3 a b h2 h1
theorem grownBy_sortedK {w : World} {g n : Nat} {os : Array Obj} (d : Array L3) : w.grownBy (sortWorldK cs3 3 w g 0 n d os) (some g) := by
  refine ⟨rfl, rfl, rfl, by simp [sortWorldK, putRowK, putRow, mapBlock, Sort.ahead], fun k hk hne => ?_⟩
  unfold sortWorldK
  rw [heap_grow_old _ _ (by simpa [putRowK, putRow, mapBlock, Sort.ahead] using hk)]
  have : g ≠ k := fun e => hne (by rw [e])
  simp [putRowK, putRow, mapBlock, Sort.ahead, Array.getElem?_modify, this]
theorem flat3 : ∀ (ss : List L3) (j : Nat), j < ss.length * 3 → (ss.flatMap cs3)[j]? = some ((cs3 ss[j / 3]!)[j % 3]!)
  | [], j, h => by simp at h
  | a :: r, 0, _ => rfl
  | a :: r, 1, _ => rfl
  | a :: r, 2, _ => rfl
  | a :: r, j + 3, h => by
    have h1 : (j + 3) / 3 = j / 3 + 1 := by omega
    have h2 : (j + 3) % 3 = j % 3 := by omega
    rw [h1, h2, List.flatMap_cons, List.getElem?_append_right (by simp [cs3])]
    have := flat3 r j (by simp only [List.length_cons] at h; omega)
    simpa [cs3] using this
theorem holdsK_of_block {w : World} {g : Nat} {cur : Array Value} {e : TypeId} {ss : List L3} (hb : w.heap[g]? = some (.cells cur e (0, 0))) (ht : cur.toList.take (ss.length * 3) = ss.flatMap cs3) : HoldsK cs3 3 w g 0 ss.toArray := by
  intro j hj
  have hj' : j < ss.length * 3 := by simpa using hj
  refine ⟨?_, by simp [World.frozen?, hb]⟩
  have h1 : (cur.toList.take (ss.length * 3))[j]? = (ss.flatMap cs3)[j]? := by rw [ht]
  rw [List.getElem?_take_of_lt hj', flat3 ss j hj'] at h1
  simp only [World.cell?, hb, Nat.zero_add, Option.isSome_none, Bool.false_eq_true, if_false]
  rw [get_flatK _ _ _ j (by simpa using hj')]
  simpa using h1
theorem sorted3 (Bm b : Nat) (ents : Array MapEntry) (clock : Nat) (K : List L3) (hold : ∀ x ∈ ents.toList, x.born < clock) (hnd : (ents.toList.map (·.born)).Nodup) (hK : ents.toList.map (·.key) = K.map kv3) (hN : K.length * 24 ≤ 140737488355328)
    (w : World) (hm : w.cell? ⟨Bm, 0, none⟩ = some (.map (some b))) (hb : w.heap[b]? = some (.map ents clock)) :
    Calls Tryz.prog 185 #[.func (.func 338) #[] #[.pointer (some ⟨Bm, 0, none⟩)], .func (.func 287) #[] #[]] w fun e w' =>
      ∃ v, e = .returned v ∧ Below w.heap.size w w' ∧ ((v = .slice none 0 0 ∧ K = []) ∨ ∃ gb cap, v = .slice (some ⟨gb, 0, none⟩) K.length cap ∧ w.heap.size ≤ gb ∧ K.length ≤ cap ∧ cap ≤ maxLen ∧ HoldsK cs3 3 w' gb 0 (srt3 K).toArray) := by
  have hlen : ents.size = K.length := by have := congrArg List.length hK; simpa using this
  have hkey : ∀ x ∈ ents.toList, ∃ k, x.key = kv3 k := fun x hx => by
    have : x.key ∈ ents.toList.map (·.key) := List.mem_map.2 ⟨x, hx, rfl⟩
    rw [hK] at this
    obtain ⟨k, _, e⟩ := List.mem_map.1 this
    exact ⟨k, e.symm⟩
  have hseq := keys3_gives Fence.wide (5 - 1 - 1) trivial rfl (by omega) Bm b ents clock hold hnd hkey w (cell_lt hm) hm hb
  have hcol := (callsIn_wide (n := 5)).1 (collect3 Fence.wide 5 trivial trivial rfl (by omega) 338 #[.pointer (some ⟨Bm, 0, none⟩)] trivial
    (enters_of Tryz.func338 (by kernel_rfl) rfl) _ ents.size (by simp only [maxLen]; omega) (by omega) w hseq)
  have hsf := fun blk off cap (d : Array L3) W hH hblk hsz => AnyQ.slices_SortFunc_total Tryz.sortL 3 Tryz.isAgg168 Tryz.sizeOf168 cs3 (fun _ => rfl) (fun x v hv => by simp [cs3] at hv; rcases hv with rfl | rfl | rfl <;> rfl) cf3 swo3 287 #[] blk off cap d W
    (enters_of Tryz.func287 (by kernel_rfl) rfl) (fun _ _ _ _ x y => linksCmp x y _) hH hblk hsz tot3
  have hsn := fun p cap fv W => AnyF.slices_SortFunc_none Tryz.sortL p cap fv W
  change ∀ (blk off cap : Nat) (d : Array L3) W _ _ _, Calls Tryz.prog 271 _ _ _ at hsf
  change ∀ (p : Option Addr) (cap : Nat) fv W, Calls Tryz.prog 271 _ _ _ at hsn
  go_enter Tryz.func185, Tryz.ntmps185
  go_wp2_with (go_at_call 270; refine hcol.mono ?_; rintro e W ⟨v, ss, rfl, hS, hrow, hnil, hbl⟩)
  have hSS : ss.Perm K := by
    rw [hK] at hS
    obtain ⟨l', q1, q2⟩ := perm_of_map kv3 hS
    rw [← (List.map_inj_right (fun x y => kv3_inj)).1 q2]; exact q1
  have hl : ss.length = K.length := hSS.length_eq
  rcases hrow.2 with ⟨rfl, hz⟩ | ⟨gb, cap, cur, rfl, hbase, hgb, r1, r2, r3, r4⟩
  · refine (hsn none 0 _ W).mono ?_
    rintro e w' ⟨rfl, rfl⟩
    go_wp2
    go_ret
    exact ⟨_, rfl, hbl, .inl ⟨rfl, List.eq_nil_of_length_eq_zero (by omega)⟩⟩
  · have hH := holdsK_of_block hgb r4
    have hgl : gb < W.heap.size := (Array.getElem?_eq_some_iff.1 hgb).1
    have cS := hsf gb 0 cap ss.toArray W hH hgl (by simp only [List.size_toArray]; omega)
    have hw := fun n os => holdsK_sortWorldK_c cs3 3 W gb 0 ss.toArray (srt3 ss).toArray n os hH hgl (by simp [srt3])
    have hg := fun n os => grownBy_sortedK (w := W) (g := gb) (n := n) (os := os) (srt3 ss).toArray
    have hT : (ss.toArray.toList.mergeSort fun x y => !(ltOf cf3) y x).toArray = (srt3 ss).toArray := rfl
    rw [hT] at cS
    rw [srt3_perm hSS] at cS hw hg
    simp only [List.size_toArray] at cS
    refine cS.mono ?_
    rintro e w' ⟨rfl, nn, os, rfl⟩
    have hw := hw nn os
    have hg := hg nn os
    generalize sortWorldK cs3 3 W gb 0 nn (srt3 K).toArray os = W5 at hw hg
    go_wp2
    go_ret
    exact ⟨_, rfl, hbl.grown hg hbl.size (fun j hj => by cases hj; exact hbase), .inr ⟨gb, cap, by rw [← hl]; rfl, hbase, by omega, r2, hw⟩⟩
end Go.Ab.A2
end
