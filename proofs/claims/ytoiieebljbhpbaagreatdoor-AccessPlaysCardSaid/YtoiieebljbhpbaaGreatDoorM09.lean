import Derived.Test.YtoiieebljbhpbaaGreatDoorKz
import Derived.Test.YtoiieebljbhpbaaGreatDoorM15
import Derived.Shelf.SlSortCmp.NoneTotal
import Derived.Test.YtoiieebljbhpbaaGreatDoorM20
section
set_option maxRecDepth 100000
set_option maxHeartbeats 2000000
namespace Go.Proofs
open Go.Shelf
def Tryz.sortL_ren : Go.Shelf.Ren := ⟨fun | 6 => 92 | 15 => 131 | 14 => 130 | 28 => 155 | 29 => 156 | 20 => 147 | 21 => 148 | 22 => 149 | 23 => 150 | 24 => 151 | 25 => 152 | 26 => 153 | 27 => 154 | 46 => 166 | 47 => 167 | 48 => 168 | 49 => 169 | 50 => 170 | 57 => 193 | n => n, fun | 22 => 48 | 24 => 51 | 25 => 115 | 3 => 3 | 39 => 132 | 0 => 0 | 53 => 54 | 55 => 186 | 4 => 4 | 46 => 229 | 45 => 228 | 50 => 233 | 5 => 5 | 9 => 9 | 66 => 249 | 70 => 253 | 76 => 278 | 77 => 179 | n => n, fun | n => n⟩
theorem Tryz.sortL : Go.Proofs.SlLaysF0.n6 Tryz.prog Tryz.sortL_ren := {
 mixed := by kernel_rfl
 f6 := ⟨Tryz.f92.name, by decide, Tryz.func92.trans (congrArg some (by kernel_rfl))⟩
 f14 := ⟨Tryz.f130.name, by decide, Tryz.func130.trans (congrArg some (by kernel_rfl))⟩
 f15 := Tryz.func131.trans (congrArg some (by kernel_rfl))
 f20 := ⟨Tryz.f147.name, by decide, Tryz.func147.trans (congrArg some (by kernel_rfl))⟩
 f21 := ⟨Tryz.f148.name, by decide, Tryz.func148.trans (congrArg some (by kernel_rfl))⟩
 f22 := ⟨Tryz.f149.name, by decide, Tryz.func149.trans (congrArg some (by kernel_rfl))⟩
 f23 := ⟨Tryz.f150.name, by decide, Tryz.func150.trans (congrArg some (by kernel_rfl))⟩
 f24 := ⟨Tryz.f151.name, by decide, Tryz.func151.trans (congrArg some (by kernel_rfl))⟩
 f25 := ⟨Tryz.f152.name, by decide, Tryz.func152.trans (congrArg some (by kernel_rfl))⟩
 f26 := ⟨Tryz.f153.name, by decide, Tryz.func153.trans (congrArg some (by kernel_rfl))⟩
 f27 := ⟨Tryz.f154.name, by decide, Tryz.func154.trans (congrArg some (by kernel_rfl))⟩
 f28 := Tryz.func155.trans (congrArg some (by kernel_rfl))
 f29 := Tryz.func156.trans (congrArg some (by kernel_rfl))
 f46 := ⟨Tryz.f166.name, by decide, Tryz.func166.trans (congrArg some (by kernel_rfl))⟩
 f47 := Tryz.func167.trans (congrArg some (by kernel_rfl))
 f48 := Tryz.func168.trans (congrArg some (by kernel_rfl))
 f49 := ⟨Tryz.f169.name, by decide, Tryz.func169.trans (congrArg some (by kernel_rfl))⟩
 f50 := ⟨Tryz.f170.name, by decide, Tryz.func170.trans (congrArg some (by kernel_rfl))⟩
 f57 := ⟨Tryz.f193.name, by decide, Tryz.func193.trans (congrArg some (by kernel_rfl))⟩
 t0 := Tryz.underlying0
 a0 := Tryz.isAgg0
 z0 := Tryz.sizeOf0
 v0 := Tryz.zeroValue0
 t3 := Tryz.underlying3
 a3 := Tryz.isAgg3
 z3 := Tryz.sizeOf3
 v3 := Tryz.zeroValue3
 t4 := Tryz.underlying4
 a4 := Tryz.isAgg4
 z4 := Tryz.sizeOf4
 v4 := Tryz.zeroValue4
 t5 := Tryz.underlying5
 a5 := Tryz.isAgg5
 z5 := Tryz.sizeOf5
 v5 := Tryz.zeroValue5
 t9 := Tryz.underlying9
 a9 := Tryz.isAgg9
 z9 := Tryz.sizeOf9
 v9 := Tryz.zeroValue9
 t22 := Tryz.underlying48
 a22 := Tryz.isAgg48
 z22 := Tryz.sizeOf48
 v22 := Tryz.zeroValue48
 t25 := Tryz.underlying115
 a25 := Tryz.isAgg115
 z25 := Tryz.sizeOf115
 v25 := Tryz.zeroValue115
 t39 := Tryz.underlying132
 a39 := Tryz.isAgg132
 z39 := Tryz.sizeOf132
 v39 := Tryz.zeroValue132
 t45 := Tryz.underlying228
 a45 := Tryz.isAgg228
 z45 := Tryz.sizeOf228
 v45 := Tryz.zeroValue228
 t46 := Tryz.underlying229
 a46 := Tryz.isAgg229
 z46 := Tryz.sizeOf229
 v46 := Tryz.zeroValue229
 t50 := Tryz.underlying233
 a50 := Tryz.isAgg233
 z50 := Tryz.sizeOf233
 v50 := Tryz.zeroValue233
 t53 := Tryz.underlying54
 a53 := Tryz.isAgg54
 z53 := Tryz.sizeOf54
 v53 := Tryz.zeroValue54
 t55 := Tryz.underlying186
 a55 := Tryz.isAgg186
 z55 := Tryz.sizeOf186
 v55 := Tryz.zeroValue186
 t66 := Tryz.underlying249
 a66 := Tryz.isAgg249
 z66 := Tryz.sizeOf249
 v66 := Tryz.zeroValue249
 t70 := Tryz.underlying253
 a70 := Tryz.isAgg253
 z70 := Tryz.sizeOf253
 v70 := Tryz.zeroValue253
 t76 := Tryz.underlying278
 a76 := Tryz.isAgg278
 z76 := Tryz.sizeOf278
 v76 := Tryz.zeroValue278
 t77 := Tryz.underlying179
 a77 := Tryz.isAgg179
 z77 := Tryz.sizeOf179
 v77 := Tryz.zeroValue179 }
end Go.Proofs
namespace Go.Ab
open Go.Proofs Go.Maps Go.RowKit Go.Sort Go.Shelf Go.Lib ChangeMaps
def le3 (x y : L3) : Bool := !(ltOf cf3) y x
def srt3 (l : List L3) : List L3 := l.mergeSort le3
theorem lt3 (x y : L3) : ltOf cf3 x y = decide (x.1 < y.1 ∨ (x.1 = y.1 ∧ (x.2.1 < y.2.1 ∨ (x.2.1 = y.2.1 ∧ x.2.2 < y.2.2)))) := by
 obtain ⟨a, b, c⟩ := x;obtain ⟨a', b', c'⟩ := y;simp only [ltOf, cf3, or3, Lib.compareInt];rcases Int.lt_trichotomy a a' with h | h | h <;> rcases Int.lt_trichotomy b b' with h' | h' | h' <;> rcases Int.lt_trichotomy c c' with h'' | h'' | h'' <;> (congr 1; apply propext; constructor <;> intro q <;> (repeat' split at *) <;> omega)
theorem swo3 : SWO (ltOf cf3) where
 irrefl x := by rw [lt3]; simp
 trans x y z h1 h2 := by rw [lt3] at *; simp only [decide_eq_true_eq] at *; omega
 ntrans x y z h1 h2 := by rw [lt3] at *; simp only [decide_eq_false_iff_not] at *; omega
theorem tot3 (x y : L3) (h1 : ltOf cf3 x y = false) (h2 : ltOf cf3 y x = false) : x = y := by
 rw [lt3] at h1 h2;simp only [decide_eq_false_iff_not] at h1 h2;obtain ⟨a, b, c⟩ := x;obtain ⟨a', b', c'⟩ := y;simp only at h1 h2;have q1 : a = a' := by omega
 have q2 : b = b' := by omega
 have q3 : c = c' := by omega
 rw [q1, q2, q3]
theorem srt3_perm {l l' : List L3} (h : l.Perm l') : srt3 l = srt3 l' := by
 have ht : ∀ a b c : L3, le3 a b = true → le3 b c = true → le3 a c = true := fun a b c h1 h2 => by
  simp only [le3, Bool.not_eq_true'] at *
  exact swo3.ntrans c b a h2 h1
 have hto : ∀ a b : L3, (le3 a b || le3 b a) = true := fun a b => by
  simp only [le3, lt3, Bool.or_eq_true, Bool.not_eq_true', decide_eq_false_iff_not]; omega
 refine List.Perm.eq_of_pairwise (le := fun a b => le3 a b = true) (fun a b _ _ h1 h2 => ?_) (List.pairwise_mergeSort ht hto l) (List.pairwise_mergeSort ht hto l') (((List.mergeSort_perm l le3).trans h).trans (List.mergeSort_perm l' le3).symm);simp only [le3, Bool.not_eq_true'] at h1 h2;exact tot3 a b h2 h1
theorem grownBy_sortedK {w : World} {g n : Nat} {os : Array Obj} (d : Array L3) : w.grownBy (sortWorldK cs3 3 w g 0 n d os) (some g) := by
 refine ⟨rfl, rfl, rfl, by simp [sortWorldK, putRowK, putRow, mapBlock, Sort.ahead], fun k hk hne => ?_⟩;unfold sortWorldK;rw [heap_grow_old _ _ (by simpa [putRowK, putRow, mapBlock, Sort.ahead] using hk)];have : g ≠ k := fun e => hne (by rw [e]);simp [putRowK, putRow, mapBlock, Sort.ahead, Array.getElem?_modify, this]
theorem flat3 : ∀ (ss : List L3) (j : Nat), j < ss.length * 3 → (ss.flatMap cs3)[j]? = some ((cs3 ss[j / 3]!)[j % 3]!)
 | [], j, h => by simp at h
 | a :: r, 0, _ => rfl
 | a :: r, 1, _ => rfl
 | a :: r, 2, _ => rfl
 | a :: r, j + 3, h => by
   have h1 : (j + 3) / 3 = j / 3 + 1 := by omega
   have h2 : (j + 3) % 3 = j % 3 := by omega
   rw [h1, h2, List.flatMap_cons, List.getElem?_append_right (by simp [cs3])];have := flat3 r j (by simp only [List.length_cons] at h; omega);simpa [cs3] using this
theorem holdsK_of_block {w : World} {g : Nat} {cur : Array Value} {e : TypeId} {ss : List L3} (hb : w.heap[g]? = some (.cells cur e (0, 0))) (ht : cur.toList.take (ss.length * 3) = ss.flatMap cs3) : HoldsK cs3 3 w g 0 ss.toArray := by
 intro j hj;have hj' : j < ss.length * 3 := by simpa using hj
 refine ⟨?_, by simp [World.frozen?, hb]⟩;have h1 : (cur.toList.take (ss.length * 3))[j]? = (ss.flatMap cs3)[j]? := by rw [ht]
 rw [List.getElem?_take_of_lt hj', flat3 ss j hj'] at h1;simp only [World.cell?, hb, Nat.zero_add, Option.isSome_none, Bool.false_eq_true, if_false];rw [get_flatK _ _ _ j (by simpa using hj')];simpa using h1
theorem sorted3 (Bm b : Nat) (ents : Array MapEntry) (clock : Nat) (K : List L3) (hold : ∀ x ∈ ents.toList, x.born < clock) (hnd : (ents.toList.map (·.born)).Nodup) (hK : ents.toList.map (·.key) = K.map kv3) (hN : K.length * 24 ≤ 140737488355328)
  (w : World) (hm : w.cell? ⟨Bm, 0, none⟩ = some (.map (some b))) (hb : w.heap[b]? = some (.map ents clock)) :
  Calls Tryz.prog 42 #[.func (.func 93) #[] #[.pointer (some ⟨Bm, 0, none⟩)], .func (.func 44) #[] #[]] w fun e w' =>
   ∃ v, e = .returned v ∧ Below w.heap.size w w' ∧ ((v = .slice none 0 0 ∧ K = []) ∨ ∃ gb cap, v = .slice (some ⟨gb, 0, none⟩) K.length cap ∧ w.heap.size ≤ gb ∧ K.length ≤ cap ∧ cap ≤ maxLen ∧ HoldsK cs3 3 w' gb 0 (srt3 K).toArray) := by
 have hlen : ents.size = K.length := by have := congrArg List.length hK; simpa using this
 have hkey : ∀ x ∈ ents.toList, ∃ k, x.key = kv3 k := fun x hx => by
  have : x.key ∈ ents.toList.map (·.key) := List.mem_map.2 ⟨x, hx, rfl⟩;rw [hK] at this;obtain ⟨k, _, e⟩ := List.mem_map.1 this;exact ⟨k, e.symm⟩
 have hseq := keys3_gives Fence.wide (5 - 1 - 1) trivial rfl (by omega) Bm b ents clock hold hnd hkey w (cell_lt hm) hm hb
 have hcol := (callsIn_wide (n := 5)).1 (collect3 Fence.wide 5 trivial trivial rfl (by omega) 93 #[.pointer (some ⟨Bm, 0, none⟩)] trivial
  (enters_of Tryz.func93 (by kernel_rfl) rfl) _ ents.size (by simp only [maxLen]; omega) (by omega) w hseq)
 have hsf := fun blk off cap (d : Array L3) W hH hblk hsz => AnyQ.slices_SortFunc_total Tryz.sortL 3 Tryz.isAgg51 Tryz.sizeOf51 cs3 (fun _ => rfl) (fun x v hv => by simp [cs3] at hv; rcases hv with rfl | rfl | rfl <;> rfl) cf3 swo3 44 #[] blk off cap d W
  (enters_of Tryz.func44 (by kernel_rfl) rfl) (fun _ _ _ _ x y => linksCmp x y _) hH hblk hsz tot3
 have hsn := fun p cap fv W => AnyF.slices_SortFunc_none Tryz.sortL p cap fv W;change ∀ (blk off cap : Nat) (d : Array L3) W _ _ _, Calls Tryz.prog 92 _ _ _ at hsf;change ∀ (p : Option Addr) (cap : Nat) fv W, Calls Tryz.prog 92 _ _ _ at hsn
 go_enter Tryz.func42, Tryz.ntmps42
 go_wp2_with (go_at_call 91; refine hcol.mono ?_; rintro e W ⟨v, ss, rfl, hS, hrow, hnil, hbl⟩)
 have hSS : ss.Perm K := by
  rw [hK] at hS;obtain ⟨l', q1, q2⟩ := perm_of_map kv3 hS;rw [← (List.map_inj_right (fun x y => kv3_inj)).1 q2]; exact q1
 have hl : ss.length = K.length := hSS.length_eq;rcases hrow.2 with ⟨rfl, hz⟩ | ⟨gb, cap, cur, rfl, hbase, hgb, r1, r2, r3, r4⟩
 ·refine (hsn none 0 _ W).mono ?_;rintro e w' ⟨rfl, rfl⟩;go_wp2;go_ret;exact ⟨_, rfl, hbl, .inl ⟨rfl, List.eq_nil_of_length_eq_zero (by omega)⟩⟩
 ·have hH := holdsK_of_block hgb r4;have hgl : gb < W.heap.size := (Array.getElem?_eq_some_iff.1 hgb).1;have cS := hsf gb 0 cap ss.toArray W hH hgl (by simp only [List.size_toArray]; omega);have hw := fun n os => holdsK_sortWorldK_c cs3 3 W gb 0 ss.toArray (srt3 ss).toArray n os hH hgl (by simp [srt3]);have hg := fun n os => grownBy_sortedK (w := W) (g := gb) (n := n) (os := os) (srt3 ss).toArray;have hT : (ss.toArray.toList.mergeSort fun x y => !(ltOf cf3) y x).toArray = (srt3 ss).toArray := rfl;rw [hT] at cS;rw [srt3_perm hSS] at cS hw hg;simp only [List.size_toArray] at cS;refine cS.mono ?_;rintro e w' ⟨rfl, nn, os, rfl⟩;have hw := hw nn os;have hg := hg nn os;generalize sortWorldK cs3 3 W gb 0 nn (srt3 K).toArray os = W5 at hw hg;go_wp2;go_ret;exact ⟨_, rfl, hbl.grown hg hbl.size (fun j hj => by cases hj; exact hbase), .inr ⟨gb, cap, by rw [← hl]; rfl, hbase, by omega, r2, hw⟩⟩
end Go.Ab
end
section
namespace Go.Ab
def WrB (T E : TypeId) (bs : List Int) (b rb : Nat) (o1 o2 : Option Obj) : Prop :=
  ∃ p v, o1 = some (.cells #[p, v] T (0, 0)) ∧ (p = .pointer none ∨ p = .pointer (some ⟨b, 0, none⟩)) ∧
    ((v = .slice none 0 0 ∧ bs = [] ∧ rb = b) ∨
     ∃ cap cur, v = .slice (some ⟨rb, 0, none⟩) bs.length cap ∧ rb ≠ b ∧ o2 = some (.cells cur E (0, 0)) ∧ bs.length ≤ cap ∧ cap ≤ maxLen ∧ cur.size = cap ∧ cur.toList.take bs.length = bs.map (Value.int .u8))
def wrO (T E : TypeId) (bs : List Int) : Opq := ⟨bs, WrB T E⟩
def wrX : Opq := ⟨[], fun _ _ _ _ _ => True⟩
theorem wr_fresh (T E : TypeId) (b : Nat) (o : Option Obj) : (wrO T E []) b b (some (.cells #[.pointer none, .slice none 0 0] T (0, 0))) o :=
 ⟨_, _, rfl, .inl rfl, .inl ⟨rfl, rfl, rfl⟩⟩
theorem WrB.at {T E : TypeId} {bs : List Int} {b rb : Nat} {w : World} (h : WrB T E bs b rb (w.heap[b]?) (w.heap[rb]?)) :
  ∃ p v, w.heap[b]? = some (.cells #[p, v] T (0, 0)) ∧ (p = .pointer none ∨ p = .pointer (some ⟨b, 0, none⟩)) ∧ w.ownsRow 0 E 1 v bs.length (bs.map (Value.int .u8)) ∧
    v.ownBlock ≠ some b ∧ ((v.ownBlock = none ∧ rb = b) ∨ v.ownBlock = some rb) := by
 obtain ⟨p, v, h1, h2, h3⟩ := h;refine ⟨p, v, h1, h2, ?_⟩;rcases h3 with ⟨rfl, rfl, rfl⟩ | ⟨cap, cur, rfl, hne, ho, hc, hm, hs, ht⟩
 ·exact ⟨⟨by simp, .inl ⟨rfl, rfl⟩⟩, by simp [Value.ownBlock], .inl ⟨rfl, rfl⟩⟩
 ·exact ⟨⟨by simp, .inr ⟨rb, cap, cur, rfl, Nat.zero_le _, ho, hc, hm, by simpa using hs, by simpa using ht⟩⟩, by simpa [Value.ownBlock] using hne, .inr rfl⟩
theorem WrB.of {T E : TypeId} {bs : List Int} {b : Nat} {p v : Value} {w : World} (h1 : w.heap[b]? = some (.cells #[p, v] T (0, 0))) (h2 : p = .pointer none ∨ p = .pointer (some ⟨b, 0, none⟩))
  (h3 : w.ownsRow 0 E 1 v bs.length (bs.map (Value.int .u8))) (h4 : v.ownBlock ≠ some b) : WrB T E bs b (v.ownBlock.getD b) (w.heap[b]?) (w.heap[v.ownBlock.getD b]?) := by
 refine ⟨p, v, h1, h2, ?_⟩;rcases h3.2 with ⟨rfl, hn⟩ | ⟨g, cap, cur, rfl, _, ho, hc, hm, hs, ht⟩
 ·exact .inl ⟨rfl, List.eq_nil_of_length_eq_zero hn, rfl⟩
 ·simp only [Value.ownBlock, ne_eq, Option.some.injEq, Option.getD_some] at h4 ⊢;exact .inr ⟨cap, cur, rfl, h4, ho, hc, hm, by simpa using hs, by simpa using ht⟩
structure WrKeep (b : Nat) (ob : Option Nat) (w w' : World) : Prop where
 size : w.heap.size ≤ w'.heap.size
 os : w'.os = w.os
 output : w'.output = w.output
 block : ∀ k, k < w.heap.size → k ≠ b → some k ≠ ob → w'.heap[k]? = w.heap[k]?
theorem WrKeep.refl (b : Nat) (ob : Option Nat) (w : World) : WrKeep b ob w w := ⟨Nat.le_refl _, rfl, rfl, fun _ _ _ _ => rfl⟩
theorem WrKeep.trans {b : Nat} {ob : Option Nat} {w w' w'' : World} (h : WrKeep b ob w w') (h' : WrKeep b ob w' w'') : WrKeep b ob w w'' :=
 ⟨Nat.le_trans h.size h'.size, h'.os.trans h.os, h'.output.trans h.output, fun k h1 h2 h3 => (h'.block k (Nat.lt_of_lt_of_le h1 h.size) h2 h3).trans (h.block k h1 h2 h3)⟩
theorem WrKeep.grown {b : Nat} {ob : Option Nat} {w w' : World} (h : w.grownBy w' ob) : WrKeep b ob w w' := ⟨h.size, h.os, h.output, fun k h1 _ h3 => h.block k h1 h3⟩
theorem heap_setCell_ne {w : World} {b off k : Nat} {v : Value} (h : k ≠ b) : (w.setCell ⟨b, off, none⟩ v).heap[k]? = w.heap[k]? := by
 simp only [World.setCell, Array.getElem?_modify];rw [if_neg (fun e => h e.symm)]
theorem WrKeep.setCell (b off : Nat) (ob : Option Nat) (w : World) (v : Value) : WrKeep b ob w (w.setCell ⟨b, off, none⟩ v) :=
 ⟨by simp [World.setCell], rfl, rfl, fun _ _ h2 _ => heap_setCell_ne h2⟩
theorem run_append_w {P : Program} (w : World) (t tx ty e : TypeId) (i : TypeInfo) (z : Value) (ht : P.underlying t = some (.slice e)) (hi : P.info? e = some i) (hz : i.zero = some z)
  (hsize : i.size = 1) (hby : i.bytes = 1) (hzs : z.cells.size = 1) (v : Value) (n : Nat) (xs : List Value) (hown : w.ownsRow 0 e 1 v n xs) (x : Value) (m : Nat) (news : List Value) (hs : Src P 1 tx x m news w)
  (hm : 0 < m) (hbytes : n + m ≤ 140737488355328) :
  ∃ v' w', (Builtin.append_ #[t, tx] ty #[v, x]).run P w = .ok v' w' ∧ w'.ownsRow 0 e 1 v' (n + m) (xs ++ news) ∧ w.grownBy w' v.ownBlock ∧ (v'.ownBlock = v.ownBlock ∨ v'.ownBlock = some w.heap.size) ∧ v'.ownBlock ≠ none := by
 have hl : news.length = m := by simpa using hs.newsLen
 have hx : xs.length = n := by simpa using hown.1
 have hlen : (xs ++ news).length = (n + m) * 1 := by rw [List.length_append, hl, hx, Nat.mul_one]
 have h63 : n + m ≤ maxLen := by simp only [maxLen]; omega
 have hs' : Src P i.size tx x m news w := by rw [hsize]; exact hs
 have grow : ∀ (base : Option Addr) (cap : Nat), cap < n + m → v = .slice base n cap → (Builtin.firstCells i.size n (.slice base n cap)).run P w.drew = .ok xs.toArray w.drew → ∀ row,
   ∃ v' w', (Builtin.append_ #[t, tx] ty #[v, x]).run P w = .ok v' w' ∧ w'.ownsRow 0 e 1 v' (n + m) (xs ++ news) ∧ w.grownBy w' row ∧ (v'.ownBlock = v.ownBlock ∨ v'.ownBlock = some w.heap.size) ∧ v'.ownBlock ≠ none := by
  intro base cap hcap hv hf row;subst hv;have hr := run_append_grow_src (P := P) w t tx ty e i z ht hi hz base n cap xs hf x m news hs' hcap (by omega) (growslice_fits (by omega) (by rw [hby]; omega));refine ⟨_, _, hr, ⟨hlen, .inr ⟨w.heap.size, _, _, rfl, Nat.zero_le _, heap_alloc_new w.drew _, grownCap_ge w (n + m) cap e, grownCap_le_maxLen w (n + m) cap e h63, ?_, ?_⟩⟩, ⟨rfl, rfl, rfl, by simp, fun k hk _ => heap_alloc_old w.drew _ hk⟩, .inr rfl, by simp [Value.ownBlock]⟩
  ·have hge := grownCap_ge w (n + m) cap e;simp only [Array.size_append, List.size_toArray, size_zeroCells, hzs, hlen];omega
  ·simp only [Array.toList_append];rw [← hlen];exact List.take_left
 rcases hown.2 with ⟨rfl, rfl⟩ | ⟨g, cap, cur, rfl, _, hg, hnc, hcm, hcs, htake⟩
 ·have : xs = [] := List.eq_nil_of_length_eq_zero hx;subst this;exact grow none 0 (by omega) rfl (run_firstCells_none w.drew i.size 0 0 0) _
 ·by_cases hroom : n + m ≤ cap
  ·have hcell : ∀ j, j < cur.size → w.cell? ⟨g, j, none⟩ = some (cur.getD j undef) := fun j hj => by simp [World.cell?, hg, hj]
   have hr := run_append_room_src (P := P) w t tx ty e i ht hi g 0 n cap x m news hs' hroom
    (fun j hj => by rw [hcell _ (by rw [hsize]; simp only [Nat.mul_one] at hcs ⊢; omega)]; rfl) (fun j _ => by simp [World.frozen?, hg])
   have hst := run_storeCells_at P g n e news 0 cur w hg (by simp only [Nat.mul_one] at hcs; simpa using (by omega : n + news.length ≤ cur.size)) hs.one;have hst2 := run_storeCells_cells (P := P) g n news 0 w (fun j hj => by rw [hcell _ (by simp only [Nat.mul_one] at hcs; omega)]; rfl) (fun j _ => by simp [World.frozen?, hg]) hs.one;simp only [Nat.add_zero] at hst hst2
   have hW : w.setCells g n news = w.setRow g (cur.toList.take n ++ news ++ cur.toList.drop (n + news.length)).toArray := by
    rw [hst] at hst2;injection hst2 with _ h
    exact h.symm
   rw [hsize] at hr;simp only [Nat.zero_add, Nat.mul_one] at hr hcs htake;rw [hW] at hr;refine ⟨_, _, hr, ⟨hlen, .inr ⟨g, cap, _, rfl, Nat.zero_le _, setRow_heap w g cur _ e _ hg, hroom, hcm, ?_, ?_⟩⟩, ⟨rfl, rfl, rfl, by simp, fun k _ hk => setRow_other w g k _ (fun e => hk (by simp [Value.ownBlock, e]))⟩, .inl rfl, by simp [Value.ownBlock]⟩
   ·simp only [List.size_toArray, List.length_append, List.length_take, List.length_drop, Array.length_toList];omega
   ·rw [htake, ← hlen];exact List.take_left
  ·have holds : ∀ j u, xs[j]? = some u → w.cell? ((⟨g, 0, none⟩ : Addr).add j) = some u := hown.cells (g := g) rfl;exact grow (some ⟨g, 0, none⟩) cap (by omega) rfl (by rw [hsize]; exact run_firstCells_some w.drew 1 n _ n cap xs (by simpa using hx) (by simpa using holds)) _
theorem wpList_append_w {P : Program} {w : World} {ops : Array Oper} {rest : List Oper} {o : Oper} {a : Act} {Q : Exit → Act → World → Prop} (hgd : o.guard = none) (s x : Operand) (t tx : TypeId)
  (ho : o.op = .call { callee := .builtin .append, args := #[s, x], argTypes := #[t, tx] }) (e : TypeId) (i : TypeInfo) (z : Value) (ht : P.underlying t = some (.slice e)) (hi : P.info? e = some i) (hz : i.zero = some z)
  (hsize : i.size = 1) (hby : i.bytes = 1) (hzs : z.cells.size = 1) (v : Value) (n : Nat) (xs : List Value) (hsv : a.eval s = v) (hown : w.ownsRow 0 e 1 v n xs) (y : Value) (hx : a.eval x = y) (m : Nat) (news : List Value) (hs : Src P 1 tx y m news w)
  (hm : 0 < m) (hbytes : n + m ≤ 140737488355328)
  (h : ∀ v' w', w'.ownsRow 0 e 1 v' (n + m) (xs ++ news) → w.grownBy w' v.ownBlock → (v'.ownBlock = v.ownBlock ∨ v'.ownBlock = some w.heap.size) → v'.ownBlock ≠ none → wpList P ops Q rest (a.put o.dst v') w') : wpList P ops Q (o :: rest) a w :=
 wpList_plain hgd fun K hK => by
  obtain ⟨v', w', hr, h2, h3, h4, h5⟩ := run_append_w (P := P) w t tx o.type e i z ht hi hz hsize hby hzs v n xs hown y m news hs hm hbytes;unfold Oper.wp execOp;simp only [ho, resolve, invoke, builtin, Sem.run_bind, Sem.run_pure, Result.andThen_ok, List.map_toArray, List.map_cons, List.map_nil, hsv, hx, hr];exact hK _ _ (h v' w' h2 h3 h4 h5)
end Go.Ab
end
