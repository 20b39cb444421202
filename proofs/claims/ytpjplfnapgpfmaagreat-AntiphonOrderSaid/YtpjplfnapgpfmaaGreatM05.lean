/- The words for a map's keys. No condition. -/
import Derived.Test.YtpjplfnapgpfmaaGreatKl
import Derived.Test.YtpjplfnapgpfmaaGreatTs
import Derived.Test.YtpjplfnapgpfmaaGreatSh
import Derived.Test.YtpjplfnapgpfmaaGreatM02
import Derived.Lib.UnsafeStr
import Derived.Shelf.RegionOpenPlain
import Derived.Test.YtpjplfnapgpfmaaGreatAb5
section

end
section

end
section
namespace Go.Ab
def TextB (bs : List Int) : Prop := bs ≠ [] ∧ ∀ x ∈ bs, 0 ≤ x ∧ x < 256
instance (bs : List Int) : Decidable (TextB bs) := inferInstanceAs (Decidable (bs ≠ [] ∧ ∀ x ∈ bs, 0 ≤ x ∧ x < 256))
end Go.Ab
end
section

end
section

end
section
namespace Go.Proofs
open Go.Ab
noncomputable def gh.loop2 (x2 : List Int) (s1 : Int × List Int) (s2 : Int × List Int) : Option (Fl (Int × List Int) (Fl (List Int) (Fl (Int × List Int) (Fl (List Int) (List Int))))) :=
 bif (leqI 0 s2.1) then (
  need (NonN (mulI .i64 8 s2.1)) <|
  need (AppB (lenL s2.2) 1 1) <|
  some (.go ((subI .i64 s2.1 1), (appL s2.2 [(cvtI .u8 (shrI .u64 (nthI x2 s1.1) (mulI .i64 8 s2.1)))])))
 ) else (
   some (.out (.go s2.2))
 )

noncomputable def gh.loop1 (x1 : Int) (x2 : List Int) (s1 : Int × List Int) : Option (Fl (Int × List Int) (Fl (List Int) (List Int))) :=
 bif (ltI s1.1 (lenL x2)) then (
  need (InB s1.1 (lenL x2)) <|
  ((loopF (gh.loop2 x2 s1) ((subI .i64 (minI (maxI x1 1) 8) 1), s1.2)).bind fun f => flC f fun (v2 : List Int) =>
    some (.go ((addI .i64 s1.1 1), v2))
  )
 ) else (
   some (.out (.go s1.2))
 )

noncomputable def gh (x0 : List Int) (x1 : Int) (x2 : List Int) : Option (List Int) :=
 ((loopF (gh.loop1 x1 x2) (0, x0)).bind fun f => flC f fun (v1 : List Int) =>
   some v1
 )

noncomputable def gi.loop1 (x1 : List Int) (s1 : Int × List Int) : Option (Fl (Int × List Int) (Fl (List Int) (List Int))) :=
 bif (ltI s1.1 (lenL x1)) then (
  need (InB s1.1 (lenL x1)) <|
  ((gh s1.2 2 [(cvtI .u64 (nthI x1 s1.1))])).bind fun r1 =>
  some (.go ((addI .i64 s1.1 1), r1))
 ) else (
   some (.out (.go s1.2))
 )

noncomputable def gi (x0 : List Int) (x1 : List Int) : Option (List Int) :=
 ((loopF (gi.loop1 x1) (0, x0)).bind fun f => flC f fun (v1 : List Int) =>
   some v1
 )

noncomputable def gk.loop1 (x1 : List Int) (s1 : Int × List Int) : Option (Fl (Int × List Int) (Fl (List Int) (List Int))) :=
 bif (ltI s1.1 (lenL x1)) then (
  need (InB s1.1 (lenL x1)) <|
  ((gh s1.2 4 [(cvtI .u64 (nthI x1 s1.1))])).bind fun r1 =>
  some (.go ((addI .i64 s1.1 1), r1))
 ) else (
   some (.out (.go s1.2))
 )

noncomputable def gk (x0 : List Int) (x1 : List Int) : Option (List Int) :=
 ((loopF (gk.loop1 x1) (0, x0)).bind fun f => flC f fun (v1 : List Int) =>
   some v1
 )

noncomputable def gn.loop1 (x1 : List ByteArray) (s1 : Int × List Int) : Option (Fl (Int × List Int) (Fl (List Int) (List Int))) :=
 bif (ltI s1.1 (lenL x1)) then (
  need (InB s1.1 (lenL x1)) <|
  need (0 < lenS (nthI x1 s1.1)) <|
  need (AppB (lenL s1.2) (lenS (nthI x1 s1.1)) 1) <|
  some (.go ((addI .i64 s1.1 1), (appL s1.2 (numsOf (nthI x1 s1.1)))))
 ) else (
   some (.out (.go s1.2))
 )

noncomputable def gn (x0 : List Int) (x1 : List ByteArray) : Option (List Int) :=
 ((loopF (gn.loop1 x1) (0, x0)).bind fun f => flC f fun (v1 : List Int) =>
   some v1
 )

noncomputable def gR (x0 : List Int) : Option Int :=
 some (lenL x0)

noncomputable def gC.loop1 (x1 : Int) (s1 : List Int) : Option (Fl (List Int) (Fl (List Int) (List Int))) :=
 ((gR s1)).bind fun r1 =>
 need (NonZ (maxI x1 1)) <|
 bif (neI (remI r1 (maxI x1 1)) 0) then (
  need (AppB (lenL s1) 1 1) <|
  some (.go (appL s1 [0]))
 ) else (
   some (.out (.go s1))
 )

noncomputable def gC (x0 : List Int) (x1 : Int) : Option (List Int) :=
 ((loopF (gC.loop1 x1) x0).bind fun f => flC f fun (v1 : List Int) =>
   some v1
 )
end Go.Proofs
end
section
namespace Go.Proofs
open Go.Ab Go.Shelf
theorem libKeys.gMapsKeysMapIntIntIntInt.ok : SpecOk Tryz.prog 101 (keysS 109) :=
 keys_ok Tryz.keysAD rfl rfl (enters_of Tryz.func101 (by kernel_rfl) rfl)
theorem Tryz.sortsD (m : Nat) : AnyZI.SortsIn Tryz.prog Tryz.sortedAD_ren Fence.wide m :=
  ⟨fun blk off cap ss W hH hblk hsz => callsIn_wide.2 (AnyM.slices_Sort_int Tryz.sortAD blk off cap ss W hH hblk hsz),
   fun p cap W => callsIn_wide.2 (AnyM.slices_Sort_int_none Tryz.sortAD p cap W)⟩
theorem libSorted.gSlicesSortedInt.ok : SpecOk Tryz.prog 62 (sortedS 109) :=
 sorted_ok Tryz.sortedAD { Tryz.keysAD with } rfl rfl (enters_of Tryz.func62 (by kernel_rfl) rfl) Tryz.sortsD (enters_of Tryz.func90 (by kernel_rfl) rfl) (enters_of Tryz.func109 (by kernel_rfl) rfl)
end Go.Proofs
end
section
namespace Go.Proofs
open Go.RowKit Go.Ab

theorem hidW {p : Prop} (h : p) : Hid p := h

set_option maxHeartbeats 2000000 in
set_option maxRecDepth 100000 in
theorem Tryz.writeW (b : Nat) (w : World) (p v : Value) (n : Nat) (xs : List Value) (hb : w.heap[b]? = some (.cells #[p, v] 119 (0, 0))) (hp : p = .pointer none ∨ p = .pointer (some ⟨b, 0, none⟩))
  (hown : w.ownsRow 0 5 1 v n xs) (hne : v.ownBlock ≠ some b) (ad : Addr) (m c : Nat) (news : List Value) (hl : news.length = m) (hm : 0 < m) (hnews : ∀ j u, news[j]? = some u → w.cell? (ad.add j) = some u)
  (h1 : ∀ u ∈ news, u.oneCell' = true) (hap : ∀ j, (ad.add j).block ≠ b) (hbytes : n + m ≤ 140737488355328) :
  Calls Tryz.prog 78 #[.pointer (some ⟨b, 0, none⟩), .slice (some ad) m c] w fun e w' => e = .returned (.tuple #[.int .i64 m, .nilIface]) ∧
   ∃ v', w'.heap[b]? = some (.cells #[.pointer (some ⟨b, 0, none⟩), v'] 119 (0, 0)) ∧ w'.ownsRow 0 5 1 v' (n + m) (xs ++ news) ∧ v'.ownBlock ≠ some b ∧ WrKeep b v.ownBlock w w' ∧
     (v'.ownBlock = v.ownBlock ∨ v'.ownBlock = some w.heap.size) ∧ ∀ g, v'.ownBlock = some g → g < w'.heap.size := by
 have hbl : b < w.heap.size := by
  rcases Nat.lt_or_ge b w.heap.size with h | h
  ·exact h
  ·simp [Array.getElem?_eq_none h] at hb
 have H1 := hidW (Tryz.ccAny b w p v n xs hb hp hown hne)
 have H2 := hidW (show _ ∧ _ ∧ _ ∧ _ ∧ _ ∧ _ from ⟨hbl, hne, hnews, h1, hap, hl⟩)
 clear hb hp hown hne hnews h1 hap hbl hl
 go_enter Tryz.func78, Tryz.ntmps78
 go_wp2_with (go_at_call 103; refine H1.out.mono ?_)
 rintro e w1 ⟨rfl, hb1, hown1, hsz1, hk1, hall1⟩
 obtain ⟨hbl, hne, hnews, h1, hap, hl⟩ := H2.out
 obtain ⟨i0, hi, hz⟩ := Option.map_eq_some_iff.1 Tryz.byteI
 simp only [Prod.mk.injEq] at hz
 obtain ⟨hz0, hz1, hz2⟩ := hz
 have hnews1 : ∀ j u, news[j]? = some u → w1.cell? (ad.add j) = some u := fun j u hj => by
  rw [← hnews j u hj]; simp only [World.cell?]; rw [hall1 _ (hap j)]
 have hsrc : Src Tryz.prog 1 115 (.slice (some ad) m c) m news w1 := Src.ofSlice w1 Tryz.underlying115 ad m c news (by omega) hnews1 h1
 have Hs := hidW hsrc
 have Hi := hidW (show _ ∧ _ ∧ _ ∧ _ from ⟨hi, hz0, hz1, hz2⟩)
 have Hk := hidW (show _ ∧ _ from ⟨hk1, hsz1⟩)
 have Ho := hidW hown1
 have Hn := hidW hne
 have Hb := hidW hb1
 have Hl := hidW hbl
 have c0 : w1.cell? ⟨b, 0, none⟩ = some (.pointer (some ⟨b, 0, none⟩)) := by rw [Lib.cell_of_heap hb1]; rfl
 have c1 : w1.cell? ⟨b, 1, none⟩ = some v := by rw [Lib.cell_of_heap hb1]; rfl
 clear hall1 hk1 hsz1 hown1 hne hb1 hsrc hnews1 hnews h1 hap hi hz0 hz1 hz2 hbl hl H1 H2
 go_wp2_with (at_builtin; refine wpList_append_w rfl _ _ 115 115 rfl 5 i0 _ Tryz.underlying115 Hi.out.1 Hi.out.2.1 Hi.out.2.2.1 Hi.out.2.2.2 rfl _ _ _ rfl Ho.out _ rfl m news Hs.out hm hbytes ?_)
 intro v' w2 hown' hgrow hblk' hnn
 obtain ⟨hk1, hsz1⟩ := Hk.out
 have hne := Hn.out
 have hb1 := Hb.out
 have hbl := Hl.out
 have hlt : b < w1.heap.size := by omega
 have hne' : v'.ownBlock ≠ some b := by
  rcases hblk' with h | h
  ·rw [h]; exact hne
  ·rw [h]; intro e; simp only [Option.some.injEq] at e; omega
 have hb2 : w2.heap[b]? = some (.cells #[.pointer (some ⟨b, 0, none⟩), v] 119 (0, 0)) := by
  rw [hgrow.block b hlt (fun e => hne e.symm)]
  exact hb1
 have fin : ∀ w3, w3 = w2.setCell ⟨b, 1, none⟩ v' → w3.heap[b]? = some (.cells #[.pointer (some ⟨b, 0, none⟩), v'] 119 (0, 0)) ∧ w3.ownsRow 0 5 1 v' (n + m) (xs ++ news) ∧ v'.ownBlock ≠ some b ∧ WrKeep b v.ownBlock w w3 ∧
    (v'.ownBlock = v.ownBlock ∨ v'.ownBlock = some w.heap.size) ∧ ∀ g, v'.ownBlock = some g → g < w3.heap.size := by
  rintro w3 rfl
  refine ⟨by simp [World.setCell, Array.getElem?_modify, hb2], ?_, hne', (hk1.trans (WrKeep.grown hgrow)).trans (WrKeep.setCell _ _ _ _ _), by rw [hsz1] at hblk'; exact hblk', fun q hq => ?_⟩
  ·exact hown'.kept (row := some b) ⟨rfl, rfl, rfl, by simp [World.setCell], fun k _ hk => heap_setCell_ne (fun e => hk (by simp [e]))⟩ (.inr hne')
  ·rcases hown'.2 with ⟨_, h⟩ | ⟨g', cap', cur, hv, _, ho, _⟩
   ·omega
   ·subst hv
    simp only [Value.ownBlock, Option.some.injEq] at hq
    subst hq
    simp only [World.setCell, Array.size_modify]
    rcases Nat.lt_or_ge g' w2.heap.size with h | h
    ·exact h
    ·simp [Array.getElem?_eq_none h] at ho
 have Hf := hidW fin
 have d0 : w2.cell? ⟨b, 0, none⟩ = some (.pointer (some ⟨b, 0, none⟩)) := by rw [Lib.cell_of_heap hb2]; rfl
 have d1 : w2.cell? ⟨b, 1, none⟩ = some v := by rw [Lib.cell_of_heap hb2]; rfl
 have f1 : w2.frozen? ⟨b, 1, none⟩ = false := Lib.frozen_of_heap hb2 1
 obtain ⟨g, cap, hv'⟩ : ∃ g cap, v' = .slice (some ⟨g, 0, none⟩) (n + m) cap := by
  rcases hown'.2 with ⟨_, h⟩ | ⟨g, cap, cur, hv, _⟩
  ·omega
  ·exact ⟨_, _, hv⟩
 subst hv'
 clear hown' hgrow hblk' hnn hne' hk1 hsz1 hne hb1 hbl hlt hb2 fin
 go_wp2
 go_ret2
 exact ⟨rfl, _, Hf.out _ rfl⟩

theorem Tryz.byteC : Tryz.prog.cellsOf 5 = 1 := by kernel_rfl

set_option maxHeartbeats 1000000 in
set_option maxRecDepth 100000 in
theorem Tryz.stringW (b g cap : Nat) (w : World) (p : Value) (l : List UInt8) (cur : Array Value) (hb : w.heap[b]? = some (.cells #[p, .slice (some ⟨g, 0, none⟩) l.length cap] 119 (0, 0)))
  (hg : w.heap[g]? = some (.cells cur 5 (0, 0))) (hnc : l.length ≤ cap) (hcm : cap ≤ maxLen) (hcs : cur.size = cap) (ht : cur.toList.take l.length = Lib.byteCells l) (h0 : l ≠ []) :
  Calls Tryz.prog 81 #[.pointer (some ⟨b, 0, none⟩)] w fun e w' => e = .returned (.string ⟨l.toArray⟩) ∧ WrKeep b (some g) w w' ∧ w'.heap.size = w.heap.size := by
 have hl0 : l.length ≠ 0 := by simpa using h0
 have c1 : w.drew.cell? ⟨b, 1, none⟩ = some (.slice (some ⟨g, 0, none⟩) l.length cap) := by
  have : w.drew.heap[b]? = some (.cells #[p, .slice (some ⟨g, 0, none⟩) l.length cap] 119 (0, 0)) := hb
  rw [Lib.cell_of_heap this]; rfl
 have hSD : (Builtin.unsafeSliceData_ #[115] 212 #[.slice (some ⟨g, 0, none⟩) l.length cap]).run Tryz.prog w.drew = .ok (.pointer (some ⟨g, 0, none⟩)) w.drew :=
  Lib.run_unsafeSliceData_row _ _ _ _ _ _ (by omega)
 have hUS : (Builtin.unsafeString_ #[212, 3] 9 #[.pointer (some ⟨g, 0, none⟩), .int .i64 l.length]).run Tryz.prog w.drew = .ok (.string ⟨l.toArray⟩) (w.drew.freeze ⟨g, 0, none⟩ l.length) := by
  refine Lib.run_unsafeString_row w.drew 212 3 9 5 Tryz.underlying212 Tryz.byteC g cur.size (by have hg' : w.drew.heap[g]? = some (.cells cur 5 (0, 0)) := hg; simp [World.shape?, hg']) l h0 (by omega) (by unfold maxLen at hcm; omega) ?_
  intro j x hx
  have hadd : (⟨g, 0, none⟩ : Addr).add j = ⟨g, j, none⟩ := by unfold Addr.add; split <;> simp_all
  have hj : (cur.toList.take l.length)[j]? = some (.int .u8 x.toNat) := by rw [ht]; simp [Lib.byteCells, hx]
  rw [List.getElem?_take] at hj
  split at hj
  ·show w.cell? _ = _
   rw [hadd]
   simp only [World.cell?, hg]
   simpa using hj
  ·cases hj
 have Hf := hidW (show WrKeep b (some g) w (w.drew.freeze ⟨g, 0, none⟩ l.length) ∧ (w.drew.freeze ⟨g, 0, none⟩ l.length).heap.size = w.heap.size from by
  unfold World.freeze
  rw [if_neg hl0]
  refine ⟨⟨by simp, rfl, rfl, fun k _ _ hk => ?_⟩, by simp⟩
  simp only [Array.getElem?_modify]
  rw [if_neg (fun e => hk (by rw [e]))]
  rfl)
 clear hb hg hnc hcm hcs ht h0 hl0
 go_enter Tryz.func81, Tryz.ntmps81
 go_wp2
 go_region
 all_goals (go_wp2; go_ret; exact ⟨rfl, Hf.out⟩)
end Go.Proofs
end
section
namespace Go.Ab
/-! ### Numbers -/
theorem wrap64_of {n : Int} (h0 : -9223372036854775808 ≤ n) (h1 : n < 9223372036854775808) : IntKind.i64.wrap n = n := by
 rw [IntKind.wrap_i64]; omega

theorem and_mask {j : Nat} (hj : j ≤ 62) (a m : Int) (hm : m = 2 ^ j - 1) : IntKind.i64.wrap ((BitVec.ofInt IntKind.i64.bits a &&& BitVec.ofInt IntKind.i64.bits m).toNat : Nat) = a % 2 ^ j := by
 have hb : IntKind.i64.bits = 64 := rfl
 have hp : (2 : Int) ^ j ≤ 2 ^ 62 := by
  have : (2 : Nat) ^ j ≤ 2 ^ 62 := Nat.pow_le_pow_right (by omega) hj
  exact_mod_cast this
 have h0 : (0 : Int) < 2 ^ j := Int.pow_pos (by omega)
 have hm' : (BitVec.ofInt 64 m).toNat = 2 ^ j - 1 := by
  rw [BitVec.toNat_ofInt]
  have e : m % ((2 ^ 64 : Nat) : Int) = m := Int.emod_eq_of_lt (by omega) (by
   rw [hm]
   have : (2 : Int) ^ 62 < ((2 ^ 64 : Nat) : Int) := by decide
   omega)
  rw [e, hm]
  have : ((2 ^ j : Nat) : Int) = (2 : Int) ^ j := by push_cast; rfl
  rw [← this]; omega
 rw [hb, BitVec.toNat_and, hm', Nat.and_two_pow_sub_one_eq_mod, BitVec.toNat_ofInt]
 have e1 : (((a % ((2 ^ 64 : Nat) : Int)).toNat % 2 ^ j : Nat) : Int) = a % 2 ^ j := by
  rw [Int.natCast_emod, Int.toNat_of_nonneg (Int.emod_nonneg _ (by decide)), Int.natCast_pow]
  refine Int.emod_emod_of_dvd _ ?_
  have : ((2 ^ j : Nat) : Int) ∣ ((2 ^ 64 : Nat) : Int) := Int.natCast_dvd_natCast.2 (Nat.pow_dvd_pow 2 (by omega))
  simpa only [Int.natCast_pow] using this
 rw [e1]
 have h2 := Int.emod_nonneg a (b := (2 : Int) ^ j) (by omega)
 have h3 := Int.emod_lt_of_pos a h0
 exact wrap64_of (by omega) (by omega)
theorem and_mask' {j : Nat} (hj : j ≤ 62) (a m : Int) (hm : m = 2 ^ j - 1) : bitsOp .and .i64 a m = a % 2 ^ j := and_mask hj a m hm
end Go.Ab
end
