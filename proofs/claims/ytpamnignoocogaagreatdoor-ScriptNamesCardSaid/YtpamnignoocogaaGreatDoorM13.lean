import Derived.Test.YtpamnignoocogaaGreatDoorM15
import Derived.Test.YtpamnignoocogaaGreatDoorM05
import Derived.Test.YtpamnignoocogaaGreatDoorTy
import Derived.Laws.Externs
import Derived.Lib.UnsafeStr
import Derived.Shelf.RegionOpenPlain
import Derived.Shelf.SlSortCmp.NoneTotal
import Derived.WalkKit
import Derived.Test.YtpamnignoocogaaGreatDoorProg
import Derived.Test.YtpamnignoocogaaGreatDoorM19
import Derived.Test.YtpamnignoocogaaGreatDoorM04
import Derived.Test.YtpamnignoocogaaGreatDoorM01
import Derived.Test.YtpamnignoocogaaGreatDoorM09
import Derived.Test.YtpamnignoocogaaGreatDoorM06
section

end
section
namespace Go.Proofs
open Go.Ab
noncomputable def gac (x0 : ByteArray) : Option Tb :=
 some (Tb.mk x0 0)
noncomputable def gK (x0 : Tb) : Option Int :=
 some x0.fE
noncomputable def gq (x0 : Tb) (x1 : Int) : Option Tb :=
 bif (pickB (eqI x0.fE 0) (neI x1 0) false) then (
  some (Tb.mk ⟨#[]⟩ x1)
 ) else (
   some x0
 )
noncomputable def gr (x0 : Tb) (x1 : Int) : Option (ByteArray × Tb) :=
 bif (neI x0.fE 0) then (
  some (⟨#[]⟩, x0)
 ) else (
   bif (ltI x1 0) then (
    ((gq x0 5)).bind fun r1 =>
    some (⟨#[]⟩, r1)
   ) else (
     bif (ltI (lenS x0.fS) x1) then (
      ((gq x0 1)).bind fun r2 =>
      some (⟨#[]⟩, r2)
     ) else (
       need (CutB 0 x1 (lenS x0.fS)) <|
       need (CutB x1 (lenS x0.fS) (lenS x0.fS)) <|
       some ((cutS x0.fS 0 x1), (Tb.mk (cutS x0.fS x1 (lenS x0.fS)) x0.fE))
     )
   )
 )
noncomputable def gh.loop1 (r1 : ByteArray × Tb) (s1 : Int × Int) : Option (Fl (Int × Int) (Fl Int (Int × Tb))) :=
 bif (ltI s1.1 (lenL (numsOf r1.1))) then (
  need (InB s1.1 (lenL (numsOf r1.1))) <|
  need (NonN 8) <|
  some (.go ((addI .i64 s1.1 1), (bitsOp .or .u64 (shlI .u64 s1.2 8) (cvtI .u64 (nthI (numsOf r1.1) s1.1)))))
 ) else (
   some (.out (.go s1.2))
 )
noncomputable def gh (x0 : Tb) (x1 : Int) : Option (Int × Tb) :=
 ((gr x0 (minI (maxI x1 1) 8))).bind fun r1 =>
 ((loopF (gh.loop1 r1) (0, 0)).bind fun f => flC f fun (v1 : Int) =>
   some (v1, r1.2)
 )
noncomputable def gv (x0 : Tb) : Option (Int × Tb) :=
 ((gh x0 1)).bind fun r1 =>
 some ((cvtI .u8 r1.1), r1.2)
noncomputable def gG (x0 : Tb) : Option (Int × Tb) :=
 ((gh x0 2)).bind fun r1 =>
 some ((cvtI .u16 r1.1), r1.2)
noncomputable def gH (x0 : Tb) : Option (Int × Tb) :=
 ((gh x0 4)).bind fun r1 =>
 some ((cvtI .u32 r1.1), r1.2)
noncomputable def gA (x0 : Tb) : Option (Int × Tb) :=
 ((
  bif (neS x0.fS ⟨#[]⟩) then (
   ((gq x0 2)).bind fun r1 =>
   some (.go r1)
  ) else (
    some (.go x0)
  )
  : Option (Fl Tb (Int × Tb))).bind fun f => flC f fun (v1 : Tb) =>
  some (v1.fE, v1)
 )
end Go.Proofs
end
section
namespace Go.Ab
def TextE (bs : List Int) : Prop := ∀ x ∈ bs, 0 ≤ x ∧ x < 256
instance (bs : List Int) : Decidable (TextE bs) := inferInstanceAs (Decidable (∀ x ∈ bs, 0 ≤ x ∧ x < 256))
def ixbL (c : UInt8) : List UInt8 → Int → Int
 | [], _ => -1
 | b :: l, k => bif b == c then k else ixbL c l (k + 1)
def ixbS (s : ByteArray) (c : Int) : Int := ixbL c.toNat.toUInt8 s.data.toList 0
end Go.Ab
end
section

end
section
namespace Go.Ab
def splitL (c : UInt8) : List UInt8 → List (List UInt8)
 | [] => [[]]
 | b :: l => bif b == c then [] :: splitL c l else (match splitL c l with
   | p :: r => (b :: p) :: r
   | [] => [[b]])
theorem splitL_ne (c : UInt8) : ∀ l, splitL c l ≠ []
 | [], h => by cases h
 | b :: l, h => by
   unfold splitL at h;cases hb : b == c <;> rw [hb] at h
   ·simp only [cond_false] at h;split at h <;> cases h
   ·cases h
theorem splitL_eq_c (c : UInt8) (l : List UInt8) : splitL c (c :: l) = [] :: splitL c l := by simp [splitL]
theorem splitL_ne_c {c a : UInt8} (h : a ≠ c) {l : List UInt8} {p : List UInt8} {r : List (List UInt8)} (e : splitL c l = p :: r) : splitL c (a :: l) = (a :: p) :: r := by
 unfold splitL;rw [beq_eq_false_iff_ne.2 h, e]; rfl
def splitT (s : ByteArray) (c : UInt8) : List ByteArray := (splitL c s.data.toList).map fun p => ⟨p.toArray⟩
end Go.Ab
end
section
namespace Go.Proofs
open Go.RowKit Go.Ab
theorem Tryz.ccSize : (Tryz.prog.info? 81).map (·.size) = some 2 := by kernel_rfl
theorem Tryz.ccLies : liesAt Tryz.prog Tryz.prog.depth 126 (2 / Tryz.prog.cellsOf 126) 0 81 1 = true := by kernel_rfl
theorem Tryz.byteI : (Tryz.prog.info? 5).map (fun i => (i.zero, i.size, i.bytes)) = some (some (.int .u8 0), 1, 1) := by kernel_rfl
set_option maxHeartbeats 1000000 in
set_option maxRecDepth 100000 in
theorem Tryz.ccFresh (b : Nat) (w : World) (v : Value) (hb : w.heap[b]? = some (.cells #[.pointer none, v] 126 (0, 0))) :
  Calls Tryz.prog 57 #[.pointer (some ⟨b, 0, none⟩)] w fun e w' => e = .returned (.tuple #[]) ∧ w' = w.setCell ⟨b, 0, none⟩ (.pointer (some ⟨b, 0, none⟩)) := by
 obtain ⟨j, hj, hjs⟩ := Option.map_eq_some_iff.1 Tryz.ccSize;have h0 : w.cell? ⟨b, 0, none⟩ = some (.pointer none) := by rw [Lib.cell_of_heap hb]; rfl
 have hsh : w.shape? b = some (126, 2) := by simp [World.shape?, hb]
 have hfz : w.frozen? ⟨b, 0, none⟩ = false := Lib.frozen_of_heap hb 0
 go_enter Tryz.func57, Tryz.ntmps57
 go_wp2;rw [Lib.run_to_unsafe w ⟨b, 0, none⟩ Tryz.underlying79 Tryz.underlying163 hj (by rw [hjs]; decide) hsh (Nat.zero_lt_succ 1)];simp only [Result.andThen];rw [Oper.upon_value];go_wp2;rw [run_callFunc_extern Tryz.func93 (by kernel_rfl) (by kernel_rfl) (by kernel_rfl) (e := Extern.AbiNoEscape.same) (by kernel_rfl)];rw [Lib.run_noEscape];simp only [Result.andThen];rw [Oper.upon_value];go_wp2;rw [Lib.run_from_unsafe w ⟨b, 0, none⟩ Tryz.underlying163 Tryz.underlying79 hj hsh Tryz.ccLies];simp only [Result.andThen];rw [Oper.upon_value];go_wp2
 go_end0
 exact ⟨rfl, rfl⟩
set_option maxHeartbeats 1000000 in
set_option maxRecDepth 100000 in
theorem Tryz.ccUsed (b : Nat) (w : World) (v : Value) (hb : w.heap[b]? = some (.cells #[.pointer (some ⟨b, 0, none⟩), v] 126 (0, 0))) :
  Calls Tryz.prog 57 #[.pointer (some ⟨b, 0, none⟩)] w fun e w' => e = .returned (.tuple #[]) ∧ w' = w := by
 obtain ⟨j, hj, hjs⟩ := Option.map_eq_some_iff.1 Tryz.ccSize;have h0 : w.cell? ⟨b, 0, none⟩ = some (.pointer (some ⟨b, 0, none⟩)) := by rw [Lib.cell_of_heap hb]; rfl
 go_enter Tryz.func57, Tryz.ntmps57
 go_wp2;rw [Lib.run_neq_ptr_same w _ Tryz.underlying79 hj];go_wp2
 go_end0
 exact ⟨rfl, rfl⟩
theorem Tryz.ccAny (b : Nat) (w : World) (p v : Value) (n : Nat) (xs : List Value) (hb : w.heap[b]? = some (.cells #[p, v] 126 (0, 0))) (hp : p = .pointer none ∨ p = .pointer (some ⟨b, 0, none⟩))
  (hown : w.ownsRow 0 5 1 v n xs) (hne : v.ownBlock ≠ some b) :
  Calls Tryz.prog 57 #[.pointer (some ⟨b, 0, none⟩)] w fun e w' => e = .returned (.tuple #[]) ∧ w'.heap[b]? = some (.cells #[.pointer (some ⟨b, 0, none⟩), v] 126 (0, 0)) ∧
   w'.ownsRow 0 5 1 v n xs ∧ w'.heap.size = w.heap.size ∧ WrKeep b v.ownBlock w w' ∧ ∀ k, k ≠ b → w'.heap[k]? = w.heap[k]? := by
 rcases hp with rfl | rfl
 ·refine (Tryz.ccFresh b w v hb).mono ?_;rintro e w' ⟨rfl, rfl⟩;refine ⟨rfl, by simp [World.setCell, Array.getElem?_modify, hb], ?_, by simp [World.setCell], WrKeep.setCell _ _ _ _ _, fun k hk => heap_setCell_ne hk⟩;exact hown.kept (row := some b) ⟨rfl, rfl, rfl, by simp [World.setCell], fun k _ hk => heap_setCell_ne (fun e => hk (by simp [e]))⟩ (.inr hne)
 ·refine (Tryz.ccUsed b w v hb).mono ?_;rintro e w' ⟨rfl, rfl⟩;exact ⟨rfl, hb, hown, rfl, WrKeep.refl _ _ _, fun _ _ => rfl⟩
end Go.Proofs
end
section
namespace Go.Proofs
open Go.RowKit Go.Ab
theorem hidW {p : Prop} (h : p) : Hid p := h
set_option maxHeartbeats 2000000 in
set_option maxRecDepth 100000 in
theorem Tryz.writeW (b : Nat) (w : World) (p v : Value) (n : Nat) (xs : List Value) (hb : w.heap[b]? = some (.cells #[p, v] 126 (0, 0))) (hp : p = .pointer none ∨ p = .pointer (some ⟨b, 0, none⟩))
  (hown : w.ownsRow 0 5 1 v n xs) (hne : v.ownBlock ≠ some b) (ad : Addr) (m c : Nat) (news : List Value) (hl : news.length = m) (hm : 0 < m) (hnews : ∀ j u, news[j]? = some u → w.cell? (ad.add j) = some u)
  (h1 : ∀ u ∈ news, u.oneCell' = true) (hap : ∀ j, (ad.add j).block ≠ b) (hbytes : n + m ≤ 140737488355328) :
  Calls Tryz.prog 100 #[.pointer (some ⟨b, 0, none⟩), .slice (some ad) m c] w fun e w' => e = .returned (.tuple #[.int .i64 m, .nilIface]) ∧
   ∃ v', w'.heap[b]? = some (.cells #[.pointer (some ⟨b, 0, none⟩), v'] 126 (0, 0)) ∧ w'.ownsRow 0 5 1 v' (n + m) (xs ++ news) ∧ v'.ownBlock ≠ some b ∧ WrKeep b v.ownBlock w w' ∧
     (v'.ownBlock = v.ownBlock ∨ v'.ownBlock = some w.heap.size) ∧ ∀ g, v'.ownBlock = some g → g < w'.heap.size := by
 have hbl : b < w.heap.size := by
  rcases Nat.lt_or_ge b w.heap.size with h | h
  ·exact h
  ·simp [Array.getElem?_eq_none h] at hb
 have H1 := hidW (Tryz.ccAny b w p v n xs hb hp hown hne);have H2 := hidW (show _ ∧ _ ∧ _ ∧ _ ∧ _ ∧ _ from ⟨hbl, hne, hnews, h1, hap, hl⟩);clear hb hp hown hne hnews h1 hap hbl hl
 go_enter Tryz.func100, Tryz.ntmps100
 go_wp2_with (go_at_call 57; refine H1.out.mono ?_);rintro e w1 ⟨rfl, hb1, hown1, hsz1, hk1, hall1⟩;obtain ⟨hbl, hne, hnews, h1, hap, hl⟩ := H2.out;obtain ⟨i0, hi, hz⟩ := Option.map_eq_some_iff.1 Tryz.byteI;simp only [Prod.mk.injEq] at hz;obtain ⟨hz0, hz1, hz2⟩ := hz
 have hnews1 : ∀ j u, news[j]? = some u → w1.cell? (ad.add j) = some u := fun j u hj => by
  rw [← hnews j u hj]; simp only [World.cell?]; rw [hall1 _ (hap j)]
 have hsrc : Src Tryz.prog 1 77 (.slice (some ad) m c) m news w1 := Src.ofSlice w1 Tryz.underlying77 ad m c news (by omega) hnews1 h1;have Hs := hidW hsrc;have Hi := hidW (show _ ∧ _ ∧ _ ∧ _ from ⟨hi, hz0, hz1, hz2⟩);have Hk := hidW (show _ ∧ _ from ⟨hk1, hsz1⟩);have Ho := hidW hown1;have Hn := hidW hne;have Hb := hidW hb1;have Hl := hidW hbl;have c0 : w1.cell? ⟨b, 0, none⟩ = some (.pointer (some ⟨b, 0, none⟩)) := by rw [Lib.cell_of_heap hb1]; rfl
 have c1 : w1.cell? ⟨b, 1, none⟩ = some v := by rw [Lib.cell_of_heap hb1]; rfl
 clear hall1 hk1 hsz1 hown1 hne hb1 hsrc hnews1 hnews h1 hap hi hz0 hz1 hz2 hbl hl H1 H2;go_wp2_with (at_builtin; refine wpList_append_w rfl _ _ 77 77 rfl 5 i0 _ Tryz.underlying77 Hi.out.1 Hi.out.2.1 Hi.out.2.2.1 Hi.out.2.2.2 rfl _ _ _ rfl Ho.out _ rfl m news Hs.out hm hbytes ?_);intro v' w2 hown' hgrow hblk' hnn;obtain ⟨hk1, hsz1⟩ := Hk.out;have hne := Hn.out;have hb1 := Hb.out;have hbl := Hl.out;have hlt : b < w1.heap.size := by omega
 have hne' : v'.ownBlock ≠ some b := by
  rcases hblk' with h | h
  ·rw [h]; exact hne
  ·rw [h]; intro e; simp only [Option.some.injEq] at e; omega
 have hb2 : w2.heap[b]? = some (.cells #[.pointer (some ⟨b, 0, none⟩), v] 126 (0, 0)) := by
  rw [hgrow.block b hlt (fun e => hne e.symm)];exact hb1
 have fin : ∀ w3, w3 = w2.setCell ⟨b, 1, none⟩ v' → w3.heap[b]? = some (.cells #[.pointer (some ⟨b, 0, none⟩), v'] 126 (0, 0)) ∧ w3.ownsRow 0 5 1 v' (n + m) (xs ++ news) ∧ v'.ownBlock ≠ some b ∧ WrKeep b v.ownBlock w w3 ∧
    (v'.ownBlock = v.ownBlock ∨ v'.ownBlock = some w.heap.size) ∧ ∀ g, v'.ownBlock = some g → g < w3.heap.size := by
  rintro w3 rfl;refine ⟨by simp [World.setCell, Array.getElem?_modify, hb2], ?_, hne', (hk1.trans (WrKeep.grown hgrow)).trans (WrKeep.setCell _ _ _ _ _), by rw [hsz1] at hblk'; exact hblk', fun q hq => ?_⟩
  ·exact hown'.kept (row := some b) ⟨rfl, rfl, rfl, by simp [World.setCell], fun k _ hk => heap_setCell_ne (fun e => hk (by simp [e]))⟩ (.inr hne')
  ·rcases hown'.2 with ⟨_, h⟩ | ⟨g', cap', cur, hv, _, ho, _⟩
   ·omega
   ·subst hv;simp only [Value.ownBlock, Option.some.injEq] at hq;subst hq;simp only [World.setCell, Array.size_modify];rcases Nat.lt_or_ge g' w2.heap.size with h | h
    ·exact h
    ·simp [Array.getElem?_eq_none h] at ho
 have Hf := hidW fin;have d0 : w2.cell? ⟨b, 0, none⟩ = some (.pointer (some ⟨b, 0, none⟩)) := by rw [Lib.cell_of_heap hb2]; rfl
 have d1 : w2.cell? ⟨b, 1, none⟩ = some v := by rw [Lib.cell_of_heap hb2]; rfl
 have f1 : w2.frozen? ⟨b, 1, none⟩ = false := Lib.frozen_of_heap hb2 1
 obtain ⟨g, cap, hv'⟩ : ∃ g cap, v' = .slice (some ⟨g, 0, none⟩) (n + m) cap := by
  rcases hown'.2 with ⟨_, h⟩ | ⟨g, cap, cur, hv, _⟩
  ·omega
  ·exact ⟨_, _, hv⟩
 subst hv';clear hown' hgrow hblk' hnn hne' hk1 hsz1 hne hb1 hbl hlt hb2 fin;go_wp2
 go_ret2
 exact ⟨rfl, _, Hf.out _ rfl⟩
theorem Tryz.byteC : Tryz.prog.cellsOf 5 = 1 := by kernel_rfl
set_option maxHeartbeats 1000000 in
set_option maxRecDepth 100000 in
theorem Tryz.stringW (b g cap : Nat) (w : World) (p : Value) (l : List UInt8) (cur : Array Value) (hb : w.heap[b]? = some (.cells #[p, .slice (some ⟨g, 0, none⟩) l.length cap] 126 (0, 0)))
  (hg : w.heap[g]? = some (.cells cur 5 (0, 0))) (hnc : l.length ≤ cap) (hcm : cap ≤ maxLen) (hcs : cur.size = cap) (ht : cur.toList.take l.length = Lib.byteCells l) (h0 : l ≠ []) :
  Calls Tryz.prog 30 #[.pointer (some ⟨b, 0, none⟩)] w fun e w' => e = .returned (.string ⟨l.toArray⟩) ∧ WrKeep b (some g) w w' ∧ w'.heap.size = w.heap.size := by
 have hl0 : l.length ≠ 0 := by simpa using h0
 have c1 : w.drew.cell? ⟨b, 1, none⟩ = some (.slice (some ⟨g, 0, none⟩) l.length cap) := by
  have : w.drew.heap[b]? = some (.cells #[p, .slice (some ⟨g, 0, none⟩) l.length cap] 126 (0, 0)) := hb;rw [Lib.cell_of_heap this]; rfl
 have hSD : (Builtin.unsafeSliceData_ #[77] 118 #[.slice (some ⟨g, 0, none⟩) l.length cap]).run Tryz.prog w.drew = .ok (.pointer (some ⟨g, 0, none⟩)) w.drew :=
  Lib.run_unsafeSliceData_row _ _ _ _ _ _ (by omega)
 have hUS : (Builtin.unsafeString_ #[118, 3] 9 #[.pointer (some ⟨g, 0, none⟩), .int .i64 l.length]).run Tryz.prog w.drew = .ok (.string ⟨l.toArray⟩) (w.drew.freeze ⟨g, 0, none⟩ l.length) := by
  refine Lib.run_unsafeString_row w.drew 118 3 9 5 Tryz.underlying118 Tryz.byteC g cur.size (by have hg' : w.drew.heap[g]? = some (.cells cur 5 (0, 0)) := hg; simp [World.shape?, hg']) l h0 (by omega) (by unfold maxLen at hcm; omega) ?_;intro j x hx;have hadd : (⟨g, 0, none⟩ : Addr).add j = ⟨g, j, none⟩ := by unfold Addr.add; split <;> simp_all
  have hj : (cur.toList.take l.length)[j]? = some (.int .u8 x.toNat) := by rw [ht]; simp [Lib.byteCells, hx]
  rw [List.getElem?_take] at hj;split at hj
  ·show w.cell? _ = _;rw [hadd];simp only [World.cell?, hg];simpa using hj
  ·cases hj
 have Hf := hidW (show WrKeep b (some g) w (w.drew.freeze ⟨g, 0, none⟩ l.length) ∧ (w.drew.freeze ⟨g, 0, none⟩ l.length).heap.size = w.heap.size from by
  unfold World.freeze;rw [if_neg hl0];refine ⟨⟨by simp, rfl, rfl, fun k _ _ hk => ?_⟩, by simp⟩;simp only [Array.getElem?_modify];rw [if_neg (fun e => hk (by rw [e]))];rfl)
 clear hb hg hnc hcm hcs ht h0 hl0
 go_enter Tryz.func30, Tryz.ntmps30
 go_wp2
 go_region
 all_goals (go_wp2; go_ret; exact ⟨rfl, Hf.out⟩)
end Go.Proofs
end
section
namespace Go.Proofs
open Go.Shelf
def Tryz.sortL_ren : Go.Shelf.Ren := ⟨fun | 6 => 358 | 15 => 335 | 14 => 424 | 28 => 399 | 29 => 400 | 20 => 450 | 21 => 451 | 22 => 452 | 23 => 453 | 24 => 454 | 25 => 455 | 26 => 456 | 27 => 457 | 46 => 466 | 47 => 438 | 48 => 439 | 49 => 467 | 50 => 468 | 57 => 479 | n => n, fun | 22 => 321 | 24 => 303 | 25 => 442 | 3 => 3 | 39 => 85 | 0 => 0 | 53 => 116 | 55 => 114 | 4 => 4 | 46 => 613 | 45 => 612 | 50 => 106 | 5 => 5 | 9 => 9 | 66 => 647 | 70 => 651 | 76 => 667 | 77 => 405 | n => n, fun | n => n⟩
theorem Tryz.sortL : Go.Proofs.SlLaysF0.n6 Tryz.prog Tryz.sortL_ren := {
 mixed := by kernel_rfl
 f6 := ⟨Tryz.f358.name, by decide, Tryz.func358.trans (congrArg some (by kernel_rfl))⟩
 f14 := ⟨Tryz.f424.name, by decide, Tryz.func424.trans (congrArg some (by kernel_rfl))⟩
 f15 := Tryz.func335.trans (congrArg some (by kernel_rfl))
 f20 := ⟨Tryz.f450.name, by decide, Tryz.func450.trans (congrArg some (by kernel_rfl))⟩
 f21 := ⟨Tryz.f451.name, by decide, Tryz.func451.trans (congrArg some (by kernel_rfl))⟩
 f22 := ⟨Tryz.f452.name, by decide, Tryz.func452.trans (congrArg some (by kernel_rfl))⟩
 f23 := ⟨Tryz.f453.name, by decide, Tryz.func453.trans (congrArg some (by kernel_rfl))⟩
 f24 := ⟨Tryz.f454.name, by decide, Tryz.func454.trans (congrArg some (by kernel_rfl))⟩
 f25 := ⟨Tryz.f455.name, by decide, Tryz.func455.trans (congrArg some (by kernel_rfl))⟩
 f26 := ⟨Tryz.f456.name, by decide, Tryz.func456.trans (congrArg some (by kernel_rfl))⟩
 f27 := ⟨Tryz.f457.name, by decide, Tryz.func457.trans (congrArg some (by kernel_rfl))⟩
 f28 := Tryz.func399.trans (congrArg some (by kernel_rfl))
 f29 := Tryz.func400.trans (congrArg some (by kernel_rfl))
 f46 := ⟨Tryz.f466.name, by decide, Tryz.func466.trans (congrArg some (by kernel_rfl))⟩
 f47 := Tryz.func438.trans (congrArg some (by kernel_rfl))
 f48 := Tryz.func439.trans (congrArg some (by kernel_rfl))
 f49 := ⟨Tryz.f467.name, by decide, Tryz.func467.trans (congrArg some (by kernel_rfl))⟩
 f50 := ⟨Tryz.f468.name, by decide, Tryz.func468.trans (congrArg some (by kernel_rfl))⟩
 f57 := ⟨Tryz.f479.name, by decide, Tryz.func479.trans (congrArg some (by kernel_rfl))⟩
 t0 := Tryz.underlying0
 a0 := Tryz.isAgg0
 z0 := Tryz.sizeOf0
 v0 := Tryz.zeroValue0
 t3 := Tryz.underlying3
 a3 := Tryz.isAgg3
 z3 := Tryz.sizeOf3
 v3 := Tryz.zeroValue3
 t4 := Tryz.underlying4
 a4 := Tryz.isAgg4
 z4 := Tryz.sizeOf4
 v4 := Tryz.zeroValue4
 t5 := Tryz.underlying5
 a5 := Tryz.isAgg5
 z5 := Tryz.sizeOf5
 v5 := Tryz.zeroValue5
 t9 := Tryz.underlying9
 a9 := Tryz.isAgg9
 z9 := Tryz.sizeOf9
 v9 := Tryz.zeroValue9
 t22 := Tryz.underlying321
 a22 := Tryz.isAgg321
 z22 := Tryz.sizeOf321
 v22 := Tryz.zeroValue321
 t25 := Tryz.underlying442
 a25 := Tryz.isAgg442
 z25 := Tryz.sizeOf442
 v25 := Tryz.zeroValue442
 t39 := Tryz.underlying85
 a39 := Tryz.isAgg85
 z39 := Tryz.sizeOf85
 v39 := Tryz.zeroValue85
 t45 := Tryz.underlying612
 a45 := Tryz.isAgg612
 z45 := Tryz.sizeOf612
 v45 := Tryz.zeroValue612
 t46 := Tryz.underlying613
 a46 := Tryz.isAgg613
 z46 := Tryz.sizeOf613
 v46 := Tryz.zeroValue613
 t50 := Tryz.underlying106
 a50 := Tryz.isAgg106
 z50 := Tryz.sizeOf106
 v50 := Tryz.zeroValue106
 t53 := Tryz.underlying116
 a53 := Tryz.isAgg116
 z53 := Tryz.sizeOf116
 v53 := Tryz.zeroValue116
 t55 := Tryz.underlying114
 a55 := Tryz.isAgg114
 z55 := Tryz.sizeOf114
 v55 := Tryz.zeroValue114
 t66 := Tryz.underlying647
 a66 := Tryz.isAgg647
 z66 := Tryz.sizeOf647
 v66 := Tryz.zeroValue647
 t70 := Tryz.underlying651
 a70 := Tryz.isAgg651
 z70 := Tryz.sizeOf651
 v70 := Tryz.zeroValue651
 t76 := Tryz.underlying667
 a76 := Tryz.isAgg667
 z76 := Tryz.sizeOf667
 v76 := Tryz.zeroValue667
 t77 := Tryz.underlying405
 a77 := Tryz.isAgg405
 z77 := Tryz.sizeOf405
 v77 := Tryz.zeroValue405 }
end Go.Proofs
end
section
set_option maxRecDepth 100000
set_option maxHeartbeats 2000000
namespace Go.Ab
open Go.Proofs Go.Maps Go.RowKit Go.Sort Go.Shelf Go.Lib ChangeMaps
def le3 (x y : L3) : Bool := !(ltOf cf3) y x
def srt3 (l : List L3) : List L3 := l.mergeSort le3
theorem lt3 (x y : L3) : ltOf cf3 x y = decide (x.1 < y.1 ∨ (x.1 = y.1 ∧ (x.2.1 < y.2.1 ∨ (x.2.1 = y.2.1 ∧ x.2.2 < y.2.2)))) := by
 obtain ⟨a, b, c⟩ := x;obtain ⟨a', b', c'⟩ := y;simp only [ltOf, cf3, or3, Lib.compareInt];rcases Int.lt_trichotomy a a' with h | h | h <;> rcases Int.lt_trichotomy b b' with h' | h' | h' <;> rcases Int.lt_trichotomy c c' with h'' | h'' | h'' <;> (congr 1; apply propext; constructor <;> intro q <;> (repeat' split at *) <;> omega)
theorem swo3 : SWO (ltOf cf3) where
 irrefl x := by rw [lt3]; simp
 trans x y z h1 h2 := by rw [lt3] at *; simp only [decide_eq_true_eq] at *; omega
 ntrans x y z h1 h2 := by rw [lt3] at *; simp only [decide_eq_false_iff_not] at *; omega
theorem tot3 (x y : L3) (h1 : ltOf cf3 x y = false) (h2 : ltOf cf3 y x = false) : x = y := by
 rw [lt3] at h1 h2;simp only [decide_eq_false_iff_not] at h1 h2;obtain ⟨a, b, c⟩ := x;obtain ⟨a', b', c'⟩ := y;simp only at h1 h2;have q1 : a = a' := by omega
 have q2 : b = b' := by omega
 have q3 : c = c' := by omega
 rw [q1, q2, q3]
theorem srt3_perm {l l' : List L3} (h : l.Perm l') : srt3 l = srt3 l' := by
 have ht : ∀ a b c : L3, le3 a b = true → le3 b c = true → le3 a c = true := fun a b c h1 h2 => by
  simp only [le3, Bool.not_eq_true'] at *
  exact swo3.ntrans c b a h2 h1
 have hto : ∀ a b : L3, (le3 a b || le3 b a) = true := fun a b => by
  simp only [le3, lt3, Bool.or_eq_true, Bool.not_eq_true', decide_eq_false_iff_not]; omega
 refine List.Perm.eq_of_pairwise (le := fun a b => le3 a b = true) (fun a b _ _ h1 h2 => ?_) (List.pairwise_mergeSort ht hto l) (List.pairwise_mergeSort ht hto l') (((List.mergeSort_perm l le3).trans h).trans (List.mergeSort_perm l' le3).symm);simp only [le3, Bool.not_eq_true'] at h1 h2;exact tot3 a b h2 h1
theorem grownBy_sortedK {w : World} {g n : Nat} {os : Array Obj} (d : Array L3) : w.grownBy (sortWorldK cs3 3 w g 0 n d os) (some g) := by
 refine ⟨rfl, rfl, rfl, by simp [sortWorldK, putRowK, putRow, mapBlock, Sort.ahead], fun k hk hne => ?_⟩;unfold sortWorldK;rw [heap_grow_old _ _ (by simpa [putRowK, putRow, mapBlock, Sort.ahead] using hk)];have : g ≠ k := fun e => hne (by rw [e]);simp [putRowK, putRow, mapBlock, Sort.ahead, Array.getElem?_modify, this]
theorem flat3 : ∀ (ss : List L3) (j : Nat), j < ss.length * 3 → (ss.flatMap cs3)[j]? = some ((cs3 ss[j / 3]!)[j % 3]!)
 | [], j, h => by simp at h
 | a :: r, 0, _ => rfl
 | a :: r, 1, _ => rfl
 | a :: r, 2, _ => rfl
 | a :: r, j + 3, h => by
   have h1 : (j + 3) / 3 = j / 3 + 1 := by omega
   have h2 : (j + 3) % 3 = j % 3 := by omega
   rw [h1, h2, List.flatMap_cons, List.getElem?_append_right (by simp [cs3])];have := flat3 r j (by simp only [List.length_cons] at h; omega);simpa [cs3] using this
theorem holdsK_of_block {w : World} {g : Nat} {cur : Array Value} {e : TypeId} {ss : List L3} (hb : w.heap[g]? = some (.cells cur e (0, 0))) (ht : cur.toList.take (ss.length * 3) = ss.flatMap cs3) : HoldsK cs3 3 w g 0 ss.toArray := by
 intro j hj;have hj' : j < ss.length * 3 := by simpa using hj
 refine ⟨?_, by simp [World.frozen?, hb]⟩;have h1 : (cur.toList.take (ss.length * 3))[j]? = (ss.flatMap cs3)[j]? := by rw [ht]
 rw [List.getElem?_take_of_lt hj', flat3 ss j hj'] at h1;simp only [World.cell?, hb, Nat.zero_add, Option.isSome_none, Bool.false_eq_true, if_false];rw [get_flatK _ _ _ j (by simpa using hj')];simpa using h1
theorem sorted3 (Bm b : Nat) (ents : Array MapEntry) (clock : Nat) (K : List L3) (hold : ∀ x ∈ ents.toList, x.born < clock) (hnd : (ents.toList.map (·.born)).Nodup) (hK : ents.toList.map (·.key) = K.map kv3) (hN : K.length * 24 ≤ 140737488355328)
  (w : World) (hm : w.cell? ⟨Bm, 0, none⟩ = some (.map (some b))) (hb : w.heap[b]? = some (.map ents clock)) :
  Calls Tryz.prog 270 #[.func (.func 359) #[] #[.pointer (some ⟨Bm, 0, none⟩)], .func (.func 272) #[] #[]] w fun e w' =>
   ∃ v, e = .returned v ∧ Below w.heap.size w w' ∧ ((v = .slice none 0 0 ∧ K = []) ∨ ∃ gb cap, v = .slice (some ⟨gb, 0, none⟩) K.length cap ∧ w.heap.size ≤ gb ∧ K.length ≤ cap ∧ cap ≤ maxLen ∧ HoldsK cs3 3 w' gb 0 (srt3 K).toArray) := by
 have hlen : ents.size = K.length := by have := congrArg List.length hK; simpa using this
 have hkey : ∀ x ∈ ents.toList, ∃ k, x.key = kv3 k := fun x hx => by
  have : x.key ∈ ents.toList.map (·.key) := List.mem_map.2 ⟨x, hx, rfl⟩;rw [hK] at this;obtain ⟨k, _, e⟩ := List.mem_map.1 this;exact ⟨k, e.symm⟩
 have hseq := keys3_gives Fence.wide (5 - 1 - 1) trivial rfl (by omega) Bm b ents clock hold hnd hkey w (cell_lt hm) hm hb
 have hcol := (callsIn_wide (n := 5)).1 (collect3 Fence.wide 5 trivial trivial rfl (by omega) 359 #[.pointer (some ⟨Bm, 0, none⟩)] trivial
  (enters_of Tryz.func359 (by kernel_rfl) rfl) _ ents.size (by simp only [maxLen]; omega) (by omega) w hseq)
 have hsf := fun blk off cap (d : Array L3) W hH hblk hsz => AnyQ.slices_SortFunc_total Tryz.sortL 3 Tryz.isAgg303 Tryz.sizeOf303 cs3 (fun _ => rfl) (fun x v hv => by simp [cs3] at hv; rcases hv with rfl | rfl | rfl <;> rfl) cf3 swo3 272 #[] blk off cap d W
  (enters_of Tryz.func272 (by kernel_rfl) rfl) (fun _ _ _ _ x y => linksCmp x y _) hH hblk hsz tot3
 have hsn := fun p cap fv W => AnyF.slices_SortFunc_none Tryz.sortL p cap fv W;change ∀ (blk off cap : Nat) (d : Array L3) W _ _ _, Calls Tryz.prog 358 _ _ _ at hsf;change ∀ (p : Option Addr) (cap : Nat) fv W, Calls Tryz.prog 358 _ _ _ at hsn
 go_enter Tryz.func270, Tryz.ntmps270
 go_wp2_with (go_at_call 357; refine hcol.mono ?_; rintro e W ⟨v, ss, rfl, hS, hrow, hnil, hbl⟩)
 have hSS : ss.Perm K := by
  rw [hK] at hS;obtain ⟨l', q1, q2⟩ := perm_of_map kv3 hS;rw [← (List.map_inj_right (fun x y => kv3_inj)).1 q2]; exact q1
 have hl : ss.length = K.length := hSS.length_eq;rcases hrow.2 with ⟨rfl, hz⟩ | ⟨gb, cap, cur, rfl, hbase, hgb, r1, r2, r3, r4⟩
 ·refine (hsn none 0 _ W).mono ?_;rintro e w' ⟨rfl, rfl⟩;go_wp2;go_ret;exact ⟨_, rfl, hbl, .inl ⟨rfl, List.eq_nil_of_length_eq_zero (by omega)⟩⟩
 ·have hH := holdsK_of_block hgb r4;have hgl : gb < W.heap.size := (Array.getElem?_eq_some_iff.1 hgb).1;have cS := hsf gb 0 cap ss.toArray W hH hgl (by simp only [List.size_toArray]; omega);have hw := fun n os => holdsK_sortWorldK_c cs3 3 W gb 0 ss.toArray (srt3 ss).toArray n os hH hgl (by simp [srt3]);have hg := fun n os => grownBy_sortedK (w := W) (g := gb) (n := n) (os := os) (srt3 ss).toArray;have hT : (ss.toArray.toList.mergeSort fun x y => !(ltOf cf3) y x).toArray = (srt3 ss).toArray := rfl;rw [hT] at cS;rw [srt3_perm hSS] at cS hw hg;simp only [List.size_toArray] at cS;refine cS.mono ?_;rintro e w' ⟨rfl, nn, os, rfl⟩;have hw := hw nn os;have hg := hg nn os;generalize sortWorldK cs3 3 W gb 0 nn (srt3 K).toArray os = W5 at hw hg;go_wp2;go_ret;exact ⟨_, rfl, hbl.grown hg hbl.size (fun j hj => by cases hj; exact hbase), .inr ⟨gb, cap, by rw [← hl]; rfl, hbase, by omega, r2, hw⟩⟩
end Go.Ab
end
section
namespace Go.Ab
open Go.Proofs
theorem ixbL_eq (c : UInt8) : ∀ (l : List UInt8) (k : Int), ixbL c l k = if Lib.indexByte l c = -1 then -1 else Lib.indexByte l c + k
 | [], k => by simp [ixbL, Lib.indexByte]
 | b :: l, k => by
   have h := ixbL_eq c l (k + 1)
   have hge : ∀ l : List UInt8, Lib.indexByte l c = -1 ∨ 0 ≤ Lib.indexByte l c := fun l => by
    induction l with
    | nil => exact .inl rfl
    | cons b l ih =>
      unfold Lib.indexByte;split
      ·exact .inr (Int.le_refl _)
      ·split
       ·exact .inl rfl
       ·rename_i h1; rcases ih with h | h
        ·exact absurd (by rw [h]; rfl) h1
        ·exact .inr (by omega)
   unfold ixbL Lib.indexByte;cases hb : b == c with
   | true => simp
   | false =>
     simp only [cond_false, h, Bool.false_eq_true, if_false];rcases hge l with h2 | h2
     ·simp [h2]
     ·have : Lib.indexByte l c ≠ -1 := by omega
      have h3 : Lib.indexByte l c + 1 ≠ -1 := by omega
      simp only [this, if_false, beq_iff_eq, h3];omega
@[simp] def indexByteS : Sp
  | [.lit (.string s), .lit (.int .u8 c)], _ => some { av := .lit (.int .i64 (ixbS s c)) }
  | _, _ => none
end Go.Ab
namespace Go.Proofs
open Go.Ab Go.Shelf
theorem gaz.ok : SpecOk Tryz.prog 56 indexByteS := by
 intro l M out h;unfold indexByteS at h;split at h
 ·rename_i s c;cases h;intro g vs hM sm hr _;cases hr with | cons hv hr => cases hr with | cons hc hr => cases hr with | nil =>
  cases hv;cases hc;refine ⟨by kernel_rfl, (Any.strings_IndexByte Tryz.laysIx s c g.w).mono ?_⟩;rintro e w' ⟨rfl, rfl⟩;refine ⟨_, rfl, Post.same rfl sm ?_⟩
  have e : Lib.indexByte s.data.toList c.toNat.toUInt8 = ixbS s c := by
   unfold ixbS;rw [ixbL_eq];split
   ·assumption
   ·omega
  rw [e];exact .lit _
 ·cases h
end Go.Proofs
end
section
namespace Go.Ab
def byteI (c : Int) : UInt8 := c.toNat.toUInt8
@[simp] theorem byteI_32 : byteI 32 = 32 := rfl
@[simp] theorem byteI_10 : byteI 10 = 10 := rfl
end Go.Ab
end
section
namespace Go.Proofs
open Go.Ab
noncomputable def gRef27ParseLine (x0 : ByteArray) : Option (Td × Int) :=
 need (lenS x0 ≤ 400) <|
 need (InB 0 (lenL (splitT x0 32))) <|
 ((gat (nthI (splitT x0 32) 0))).bind fun r1 =>
 bif (notB r1) then (
  some ((Td.mk 0 0 0 ⟨#[]⟩ (Ta.mk 0 ⟨#[]⟩ ⟨#[]⟩ 0 0 0 0 false false [])), 3)
 ) else (
   bif (pickB (pickB (eqS (nthI (splitT x0 32) 0) ⟨#[116, 105, 99, 107]⟩) true (eqS (nthI (splitT x0 32) 0) ⟨#[99, 114, 101, 100, 105, 116]⟩)) true (eqS (nthI (splitT x0 32) 0) ⟨#[100, 97, 116, 97]⟩)) then (
    need (CutB 1 (lenL (splitT x0 32)) (lenL (splitT x0 32))) <|
    ((gRef27Plain (nthI (splitT x0 32) 0) (cutL (splitT x0 32) 1 (lenL (splitT x0 32))))).bind fun r2 =>
    bif (notB r2.2) then (
     some ((Td.mk 0 0 0 ⟨#[]⟩ (Ta.mk 0 ⟨#[]⟩ ⟨#[]⟩ 0 0 0 0 false false [])), 2)
    ) else (
      some (r2.1, 0)
    )
   ) else (
     need (CutB 1 (lenL (splitT x0 32)) (lenL (splitT x0 32))) <|
     ((gRef27Command (nthI (splitT x0 32) 0) (cutL (splitT x0 32) 1 (lenL (splitT x0 32))))).bind fun r3 =>
     bif (notB r3.2) then (
      some ((Td.mk 0 0 0 ⟨#[]⟩ (Ta.mk 0 ⟨#[]⟩ ⟨#[]⟩ 0 0 0 0 false false [])), 2)
     ) else (
       ((gae r3.1)).bind fun r4 =>
       bif (neI r4 0) then (
        some ((Td.mk 0 0 0 ⟨#[]⟩ (Ta.mk 0 ⟨#[]⟩ ⟨#[]⟩ 0 0 0 0 false false [])), r4)
       ) else (
         ((gav r3.1)).bind fun r5 =>
         some ((Td.mk 2 0 0 r5 (Ta.mk 0 ⟨#[]⟩ ⟨#[]⟩ 0 0 0 0 false false [])), 0)
       )
     )
   )
 )
end Go.Proofs
end
