import Derived.Test.YtpamnignoocogaaGreatDoorM17
import Derived.Test.YtpamnignoocogaaGreatDoorM06
import Derived.Shelf.SlSortCmp.NoneTotal
import Derived.Test.YtpamnignoocogaaGreatDoorM14
import Derived.Test.YtpamnignoocogaaGreatDoorM09
import Derived.Test.YtpamnignoocogaaGreatDoorM12
import Derived.Test.YtpamnignoocogaaGreatDoorM16
import Derived.Test.YtpamnignoocogaaGreatDoorM18
import Derived.Test.YtpamnignoocogaaGreatDoorM13
import Derived.Test.YtpamnignoocogaaGreatDoorM10
import Derived.Test.YtpamnignoocogaaGreatDoorM05
import Derived.Test.YtpamnignoocogaaGreatDoorTy
import Derived.Test.YtpamnignoocogaaGreatDoorM04
section
set_option maxRecDepth 100000
set_option maxHeartbeats 2000000
namespace Go.Ab
open Go.Proofs Go.Maps Go.RowKit Go.Sort Go.Shelf Go.Lib ChangeMaps
def le3 (x y : L3) : Bool := !(ltOf cf3) y x
def srt3 (l : List L3) : List L3 := l.mergeSort le3
theorem lt3 (x y : L3) : ltOf cf3 x y = decide (x.1 < y.1 ∨ (x.1 = y.1 ∧ (x.2.1 < y.2.1 ∨ (x.2.1 = y.2.1 ∧ x.2.2 < y.2.2)))) := by
 obtain ⟨a, b, c⟩ := x;obtain ⟨a', b', c'⟩ := y;simp only [ltOf, cf3, or3, Lib.compareInt];rcases Int.lt_trichotomy a a' with h | h | h <;> rcases Int.lt_trichotomy b b' with h' | h' | h' <;> rcases Int.lt_trichotomy c c' with h'' | h'' | h'' <;> (congr 1; apply propext; constructor <;> intro q <;> (repeat' split at *) <;> omega)
theorem swo3 : SWO (ltOf cf3) where
 irrefl x := by rw [lt3]; simp
 trans x y z h1 h2 := by rw [lt3] at *; simp only [decide_eq_true_eq] at *; omega
 ntrans x y z h1 h2 := by rw [lt3] at *; simp only [decide_eq_false_iff_not] at *; omega
theorem tot3 (x y : L3) (h1 : ltOf cf3 x y = false) (h2 : ltOf cf3 y x = false) : x = y := by
 rw [lt3] at h1 h2;simp only [decide_eq_false_iff_not] at h1 h2;obtain ⟨a, b, c⟩ := x;obtain ⟨a', b', c'⟩ := y;simp only at h1 h2;have q1 : a = a' := by omega
 have q2 : b = b' := by omega
 have q3 : c = c' := by omega
 rw [q1, q2, q3]
theorem srt3_perm {l l' : List L3} (h : l.Perm l') : srt3 l = srt3 l' := by
 have ht : ∀ a b c : L3, le3 a b = true → le3 b c = true → le3 a c = true := fun a b c h1 h2 => by
  simp only [le3, Bool.not_eq_true'] at *
  exact swo3.ntrans c b a h2 h1
 have hto : ∀ a b : L3, (le3 a b || le3 b a) = true := fun a b => by
  simp only [le3, lt3, Bool.or_eq_true, Bool.not_eq_true', decide_eq_false_iff_not]; omega
 refine List.Perm.eq_of_pairwise (le := fun a b => le3 a b = true) (fun a b _ _ h1 h2 => ?_) (List.pairwise_mergeSort ht hto l) (List.pairwise_mergeSort ht hto l') (((List.mergeSort_perm l le3).trans h).trans (List.mergeSort_perm l' le3).symm);simp only [le3, Bool.not_eq_true'] at h1 h2;exact tot3 a b h2 h1
theorem grownBy_sortedK {w : World} {g n : Nat} {os : Array Obj} (d : Array L3) : w.grownBy (sortWorldK cs3 3 w g 0 n d os) (some g) := by
 refine ⟨rfl, rfl, rfl, by simp [sortWorldK, putRowK, putRow, mapBlock, Sort.ahead], fun k hk hne => ?_⟩;unfold sortWorldK;rw [heap_grow_old _ _ (by simpa [putRowK, putRow, mapBlock, Sort.ahead] using hk)];have : g ≠ k := fun e => hne (by rw [e]);simp [putRowK, putRow, mapBlock, Sort.ahead, Array.getElem?_modify, this]
theorem flat3 : ∀ (ss : List L3) (j : Nat), j < ss.length * 3 → (ss.flatMap cs3)[j]? = some ((cs3 ss[j / 3]!)[j % 3]!)
 | [], j, h => by simp at h
 | a :: r, 0, _ => rfl
 | a :: r, 1, _ => rfl
 | a :: r, 2, _ => rfl
 | a :: r, j + 3, h => by
   have h1 : (j + 3) / 3 = j / 3 + 1 := by omega
   have h2 : (j + 3) % 3 = j % 3 := by omega
   rw [h1, h2, List.flatMap_cons, List.getElem?_append_right (by simp [cs3])];have := flat3 r j (by simp only [List.length_cons] at h; omega);simpa [cs3] using this
theorem holdsK_of_block {w : World} {g : Nat} {cur : Array Value} {e : TypeId} {ss : List L3} (hb : w.heap[g]? = some (.cells cur e (0, 0))) (ht : cur.toList.take (ss.length * 3) = ss.flatMap cs3) : HoldsK cs3 3 w g 0 ss.toArray := by
 intro j hj;have hj' : j < ss.length * 3 := by simpa using hj
 refine ⟨?_, by simp [World.frozen?, hb]⟩;have h1 : (cur.toList.take (ss.length * 3))[j]? = (ss.flatMap cs3)[j]? := by rw [ht]
 rw [List.getElem?_take_of_lt hj', flat3 ss j hj'] at h1;simp only [World.cell?, hb, Nat.zero_add, Option.isSome_none, Bool.false_eq_true, if_false];rw [get_flatK _ _ _ j (by simpa using hj')];simpa using h1
theorem sorted3 (Bm b : Nat) (ents : Array MapEntry) (clock : Nat) (K : List L3) (hold : ∀ x ∈ ents.toList, x.born < clock) (hnd : (ents.toList.map (·.born)).Nodup) (hK : ents.toList.map (·.key) = K.map kv3) (hN : K.length * 24 ≤ 140737488355328)
  (w : World) (hm : w.cell? ⟨Bm, 0, none⟩ = some (.map (some b))) (hb : w.heap[b]? = some (.map ents clock)) :
  Calls Tryz.prog 270 #[.func (.func 359) #[] #[.pointer (some ⟨Bm, 0, none⟩)], .func (.func 272) #[] #[]] w fun e w' =>
   ∃ v, e = .returned v ∧ Below w.heap.size w w' ∧ ((v = .slice none 0 0 ∧ K = []) ∨ ∃ gb cap, v = .slice (some ⟨gb, 0, none⟩) K.length cap ∧ w.heap.size ≤ gb ∧ K.length ≤ cap ∧ cap ≤ maxLen ∧ HoldsK cs3 3 w' gb 0 (srt3 K).toArray) := by
 have hlen : ents.size = K.length := by have := congrArg List.length hK; simpa using this
 have hkey : ∀ x ∈ ents.toList, ∃ k, x.key = kv3 k := fun x hx => by
  have : x.key ∈ ents.toList.map (·.key) := List.mem_map.2 ⟨x, hx, rfl⟩;rw [hK] at this;obtain ⟨k, _, e⟩ := List.mem_map.1 this;exact ⟨k, e.symm⟩
 have hseq := keys3_gives Fence.wide (5 - 1 - 1) trivial rfl (by omega) Bm b ents clock hold hnd hkey w (cell_lt hm) hm hb
 have hcol := (callsIn_wide (n := 5)).1 (collect3 Fence.wide 5 trivial trivial rfl (by omega) 359 #[.pointer (some ⟨Bm, 0, none⟩)] trivial
  (enters_of Tryz.func359 (by kernel_rfl) rfl) _ ents.size (by simp only [maxLen]; omega) (by omega) w hseq)
 have hsf := fun blk off cap (d : Array L3) W hH hblk hsz => AnyQ.slices_SortFunc_total Tryz.sortL 3 Tryz.isAgg303 Tryz.sizeOf303 cs3 (fun _ => rfl) (fun x v hv => by simp [cs3] at hv; rcases hv with rfl | rfl | rfl <;> rfl) cf3 swo3 272 #[] blk off cap d W
  (enters_of Tryz.func272 (by kernel_rfl) rfl) (fun _ _ _ _ x y => linksCmp x y _) hH hblk hsz tot3
 have hsn := fun p cap fv W => AnyF.slices_SortFunc_none Tryz.sortL p cap fv W;change ∀ (blk off cap : Nat) (d : Array L3) W _ _ _, Calls Tryz.prog 358 _ _ _ at hsf;change ∀ (p : Option Addr) (cap : Nat) fv W, Calls Tryz.prog 358 _ _ _ at hsn
 go_enter Tryz.func270, Tryz.ntmps270
 go_wp2_with (go_at_call 357; refine hcol.mono ?_; rintro e W ⟨v, ss, rfl, hS, hrow, hnil, hbl⟩)
 have hSS : ss.Perm K := by
  rw [hK] at hS;obtain ⟨l', q1, q2⟩ := perm_of_map kv3 hS;rw [← (List.map_inj_right (fun x y => kv3_inj)).1 q2]; exact q1
 have hl : ss.length = K.length := hSS.length_eq;rcases hrow.2 with ⟨rfl, hz⟩ | ⟨gb, cap, cur, rfl, hbase, hgb, r1, r2, r3, r4⟩
 ·refine (hsn none 0 _ W).mono ?_;rintro e w' ⟨rfl, rfl⟩;go_wp2;go_ret;exact ⟨_, rfl, hbl, .inl ⟨rfl, List.eq_nil_of_length_eq_zero (by omega)⟩⟩
 ·have hH := holdsK_of_block hgb r4;have hgl : gb < W.heap.size := (Array.getElem?_eq_some_iff.1 hgb).1;have cS := hsf gb 0 cap ss.toArray W hH hgl (by simp only [List.size_toArray]; omega);have hw := fun n os => holdsK_sortWorldK_c cs3 3 W gb 0 ss.toArray (srt3 ss).toArray n os hH hgl (by simp [srt3]);have hg := fun n os => grownBy_sortedK (w := W) (g := gb) (n := n) (os := os) (srt3 ss).toArray;have hT : (ss.toArray.toList.mergeSort fun x y => !(ltOf cf3) y x).toArray = (srt3 ss).toArray := rfl;rw [hT] at cS;rw [srt3_perm hSS] at cS hw hg;simp only [List.size_toArray] at cS;refine cS.mono ?_;rintro e w' ⟨rfl, nn, os, rfl⟩;have hw := hw nn os;have hg := hg nn os;generalize sortWorldK cs3 3 W gb 0 nn (srt3 K).toArray os = W5 at hw hg;go_wp2;go_ret;exact ⟨_, rfl, hbl.grown hg hbl.size (fun j hj => by cases hj; exact hbase), .inr ⟨gb, cap, by rw [← hl]; rfl, hbase, by omega, r2, hw⟩⟩
end Go.Ab
end
section
set_option maxRecDepth 100000
namespace Go.Ab
open Go.Proofs Go.Maps Go.RowKit Go.Sort Go.Shelf Go.Lib ChangeMaps
def c3 (x : L3) : List AV := [.lit (.int .i64 x.1), .lit (.int .i64 x.2.1), .lit (.int .i64 x.2.2)]
def d3 : AV → L3
 | .agg [.lit (.int _ a), .lit (.int _ b), .lit (.int _ c)] => (a, b, c)
 | _ => (0, 0, 0)
def keys3 (es : List (AV × AV)) : List L3 := es.map fun e => d3 e.1
def Keys3Z (l : List L3) : Prop := l.length * 24 ≤ 140737488355328
def Keys3 (es : List (AV × AV)) : Prop := ∀ e ∈ es, e.1 = .agg (c3 (d3 e.1))
@[simp] def keysLS (k : Nat) : Sp
  | [.mp i], M => match M[i]? with
    | some (.mapo _) => some { av := .fn k [.mp i] }
    | _ => none
  | _, _ => none
@[simp] def sortedLS (k c : Nat) : Sp
  | [.fn k' [.mp i], .lit v], M => (match M[i]? with
    | some (.mapo es) => some { av := .sl ((srt3 (keys3 es)).map c3) .no, obl := Keys3 es ∧ Keys3Z (keys3 es) ∧ k' = k ∧ v = .func (.func c) #[] #[] }
    | _ => none)
  | _, _ => none
theorem keysL_c (mb : Option Nat) (w : World) : Calls Tryz.prog 271 #[.map mb] w fun e w' => e = .returned (.func (.func 359) #[] #[.pointer (some ⟨w.heap.size, 0, none⟩)]) ∧ w' = w.alloc (.cells #[.map mb] 150) := by
 go_enter Tryz.func271, Tryz.ntmps271
 go_wp2;go_ret;exact ⟨rfl, rfl⟩
theorem keysL_ok : SpecOk Tryz.prog 271 (keysLS 359) := by
 intro l M out h;unfold keysLS at h;split at h
 ·rename_i i;split at h
  ·cases h;intro g vs hM sm hr _;cases hr with | cons hv hr => cases hr with | nil =>
   cases hv with
   | mp _ hi =>
   refine ⟨enters_of Tryz.func271 (by kernel_rfl) rfl _ _, ?_⟩;refine (keysL_c _ _).mono fun e w' => ?_;rintro ⟨rfl, rfl⟩;have hw : (g.w.alloc (.cells #[.map (some (g.β i))] 150)).heap = g.w.heap.push (.cells #[.map (some (g.β i))] 150) := rfl;refine ⟨_, rfl, g.β, g.ρ, ?_, ?_, ?_⟩
   ·simp only [G.out, Option.getD_none];exact sim_push hw sm
   ·simp only [G.out, Option.getD_none];refine .fn _ [.mp i] (fun _ => g.w.heap.size) (fun _ => .map (some (g.β i))) (fun j hj => ?_) (fun j hj hreg => ?_) (fun j hj => ?_)
    ·simp [World.cell?, hw]
    ·have := sm.inb _ hreg;simp at this
    ·have hj0 : j = 0 := by simp at hj; omega
     subst hj0;exact .mp (g := { g with w := g.w.alloc (.cells #[.map (some (g.β i))] 150) }) i hi
   ·simp only [G.out, Option.getD_none];exact keep_push hw
  ·cases h
 ·cases h
theorem R.rows3 {g : G} {w' : World} (sm : Sim g) {gb cap : Nat} {l : List L3} (hH : HoldsK cs3 3 w' gb 0 l.toArray) (hbase : g.w.heap.size ≤ gb) (hc : l.length ≤ cap) : R { g with w := w' } (.sl (l.map c3) .no) (.slice (some ⟨gb, 0, none⟩) l.length cap) := by
 have hlen : (l.map c3).length = l.length := by simp
 have q : R { g with w := w' } (.sl (l.map c3) .no) (.slice (some ⟨gb, 0, none⟩) (l.map c3).length cap) := by
  refine .sl _ .no gb 0 3 cap (fun i j => (cs3 l[i]!)[j]!) (fun i hi => by simp [c3]) (fun i j hi hj => ?_) (fun i j hi hj hr => ?_) (fun i j hi hj => ?_) (fun i j hi hj => ?_) trivial (by omega)
  ·have h1 := (hH (i * 3 + j) (by simp only [size_flatK, List.size_toArray]; omega)).1;rw [get_flatK _ _ _ _ (by simp only [List.size_toArray]; omega)] at h1;have e1 : (i * 3 + j) / 3 = i := by omega
   have e2 : (i * 3 + j) % 3 = j := by omega
   rw [e1, e2] at h1;simp only [id, ← Nat.add_assoc] at h1;simpa using h1
  ·have := sm.inb _ hr;simp only at this;omega
  ·have hi' : i < l.length := by omega
   have hj' : j < 3 := by simpa [c3] using hj
   have e : l[i]! = l[i] := by simp [hi']
   simp only [List.getElem_map, e];rcases (show j = 0 ∨ j = 1 ∨ j = 2 by omega) with rfl | rfl | rfl <;> exact .lit _
  ·rcases (show j = 0 ∨ j = 1 ∨ j = 2 by omega) with rfl | rfl | rfl <;> rfl
 rw [hlen] at q; exact q
theorem fn_inv3 {g : G} {f : Nat} {i : Nat} {v : Value} (h : R g (.fn f [.mp i]) v) : ∃ b, v = .func (.func f) #[] #[.pointer (some ⟨b, 0, none⟩)] ∧ g.w.cell? ⟨b, 0, none⟩ = some (.map (some (g.β i))) ∧ i < g.M.length := by
 cases h with
 | fn _ _ bs us h1 h2 h3 =>
   have h4 := h3 0 (by simp);simp only [List.getElem_cons_zero] at h4;generalize hu : us 0 = u at h4;cases h4 with
   | mp _ hi =>
     refine ⟨bs 0, by simp [List.range_succ], ?_, hi⟩;have := h1 0 (by simp);rw [hu] at this; exact this
theorem sortedL_ok : SpecOk Tryz.prog 270 (sortedLS 359 272) := by
 intro l M out h;unfold sortedLS at h;split at h
 ·rename_i k' i v0;split at h
  ·rename_i es hMi
   ·cases h;intro g vs hM sm hr ho;subst hM;obtain ⟨ho1, ho2, rfl, rfl⟩ := ho;cases hr with | cons hv hr => cases hr with | cons hu hr => cases hr with | nil =>
    obtain ⟨b, rfl, hcell, hi⟩ := fn_inv3 hv;obtain rfl := hu.lit_inv;refine ⟨enters_of Tryz.func270 (by kernel_rfl) rfl _ _, ?_⟩;obtain ⟨ents, clock, hh, hst, he⟩ := map_at sm hMi
    have hK : ents.toList.map (·.key) = (keys3 es).map kv3 := by
     have : ∀ (es : List (AV × AV)) (l : List MapEntry), EntR g es l → Keys3 es → l.map (·.key) = (keys3 es).map kv3 := by
      intro es l h
      induction h with
      | nil => intro _; rfl
      | @cons a v es e l hk hv r ih =>
        intro q;have h1 := q (a, v) (.head _);simp only at h1;rw [h1] at hk;have h2 := hk.keyVal rfl;simp only [List.map_cons, keys3];rw [h2, ih fun e he => q e (.tail _ he)]; rfl
     exact this es ents.toList he ho1
    refine (sorted3 b (g.β i) ents clock (keys3 es) hst.1 hst.2.1 hK ho2 g.w hcell hh).mono fun e w' => ?_;rintro ⟨v, rfl, hbel, hrow⟩;refine ⟨_, rfl, g.β, g.ρ, ?_, ?_, ?_⟩
    ·simp only [G.out, Option.getD_none]; exact sim_below hbel sm
    ·simp only [G.out, Option.getD_none];rcases hrow with ⟨rfl, hz⟩ | ⟨gb, cap, rfl, hbase, hc, _, hH⟩
     ·have hn : srt3 (keys3 es) = [] := by rw [hz]; simp [srt3]
      rw [hn]; exact .nil _ trivial
     ·have hl : (keys3 es).length = (srt3 (keys3 es)).length := by simp [srt3]
      rw [hl];exact R.rows3 sm hH hbase (by rw [← hl]; exact hc)
    ·simp only [G.out, Option.getD_none]; exact keep_below hbel
  ·cases h
 ·cases h
end Go.Ab
end
section
set_option maxRecDepth 100000
namespace Go.Ab
open Go.Proofs Go.Maps Go.RowKit Go.Sort Go.Shelf Go.Lib ChangeMaps
theorem keysU_c (mb : Option Nat) (w : World) : Calls Tryz.prog 169 #[.map mb] w fun e w' => e = .returned (.func (.func 237) #[] #[.pointer (some ⟨w.heap.size, 0, none⟩)]) ∧ w' = w.alloc (.cells #[.map mb] 148) := by
 go_enter Tryz.func169, Tryz.ntmps169
 go_wp2;go_ret;exact ⟨rfl, rfl⟩
theorem keysU_ok : SpecOk Tryz.prog 169 (keysLS 237) := by
 intro l M out h;unfold keysLS at h;split at h
 ·rename_i i;split at h
  ·cases h;intro g vs hM sm hr _;cases hr with | cons hv hr => cases hr with | nil =>
   cases hv with
   | mp _ hi =>
   refine ⟨enters_of Tryz.func169 (by kernel_rfl) rfl _ _, ?_⟩;refine (keysU_c _ _).mono fun e w' => ?_;rintro ⟨rfl, rfl⟩;have hw : (g.w.alloc (.cells #[.map (some (g.β i))] 148)).heap = g.w.heap.push (.cells #[.map (some (g.β i))] 148) := rfl;refine ⟨_, rfl, g.β, g.ρ, ?_, ?_, ?_⟩
   ·simp only [G.out, Option.getD_none];exact sim_push hw sm
   ·simp only [G.out, Option.getD_none];refine .fn _ [.mp i] (fun _ => g.w.heap.size) (fun _ => .map (some (g.β i))) (fun j hj => ?_) (fun j hj hreg => ?_) (fun j hj => ?_)
    ·simp [World.cell?, hw]
    ·have := sm.inb _ hreg;simp at this
    ·have hj0 : j = 0 := by simp at hj; omega
     subst hj0;exact .mp (g := { g with w := g.w.alloc (.cells #[.map (some (g.β i))] 148) }) i hi
   ·simp only [G.out, Option.getD_none];exact keep_push hw
  ·cases h
 ·cases h
theorem keysLS_free {k : Nat} (l : List AV) (M : List AObj) (o : Out) (h : keysLS k l M = some o) : o.obl := by
 unfold keysLS at h;split at h
 ·split at h <;> first | (cases h; trivial) | cases h
 ·cases h
theorem collectES_free {k : Nat} (l : List AV) (M : List AObj) (o : Out) (h : collectES k l M = some o) : o.obl := by
 unfold collectES at h;split at h
 ·split at h
  ·split at h <;> first | (cases h; trivial) | cases h
  ·cases h
 ·cases h
theorem libCloneI.ok : SpecOk Tryz.prog 155 (cloneS 1 8) := by
 intro l M out h;unfold cloneS at h;split at h
 ·rename_i els tok;cases h;refine callOk_nil ?_ ?_
  ·refine call_of_vc Tryz.mixed Tryz.tyOk gamL_nil (fun | 0 => [2] | 1 => [4] | 2 => [2] | 3 => [2] | _ => []) (fun _ => []) Tryz.func155 rfl (by kernel_rfl) rfl rfl (by simp) ?_;intro _ hbM hbA;simp [hbM]
  ·refine call_of_vc Tryz.mixed Tryz.tyOk gamL_nil (fun | 0 => [2] | 1 => [4] | 2 => [2] | 3 => [2] | _ => []) (fun _ => []) Tryz.func155 rfl (by kernel_rfl) rfl rfl (by simp) ?_;intro ho hbM hbA;simp at hbA ho;simp [hbA, hbM, ho, appL]
   try exact ho.1
 ·cases h
@[simp] def letterA : Sp
  | [.lit (.int .i32 r)], _ => if Lib.latin1 r then some { av := .lit (.bool (Lib.isLetterL r)) } else none
  | _, _ => none
theorem letterA_ok : LibOk Tryz.prog 75 letterA := by
 intro l M o q;unfold letterA at q;split at q
 ·rename_i r;split at q
  ·rename_i h;cases q;have hr : 0 ≤ r ∧ r ≤ 255 := by simpa [Lib.latin1] using h
   have e : letterR r = Lib.isLetterL r := by unfold letterR Lib.isLetterU; rw [if_pos h]
   refine ⟨?_, trivial⟩;intro g vs hM sm hv _;have := gat.ok [.lit (.int .i32 r)] M { av := .lit (.bool (letterR r)), obl := I32B r } rfl g vs hM sm hv ⟨by omega, by omega⟩;rw [e] at this; exact this
  ·cases q
 ·cases q
@[simp] def digitA : Sp
  | [.lit (.int .i32 r)], _ => if Lib.latin1 r then some { av := .lit (.bool (Lib.isDigitL r)) } else none
  | _, _ => none
theorem digitA_ok : LibOk Tryz.prog 76 digitA := by
 intro l M o q;unfold digitA at q;split at q
 ·rename_i r;split at q
  ·rename_i h;cases q;have hr : 0 ≤ r ∧ r ≤ 255 := by simpa [Lib.latin1] using h
   have e : digitR r = Lib.isDigitL r := by unfold digitR Lib.isDigitU; rw [if_pos hr.2]
   refine ⟨?_, trivial⟩;intro g vs hM sm hv _;have := gau.ok [.lit (.int .i32 r)] M { av := .lit (.bool (digitR r)), obl := I32B r } rfl g vs hM sm hv ⟨by omega, by omega⟩;rw [e] at this; exact this
  ·cases q
 ·cases q
instance (bs : List Int) : Decidable (TextE bs) := inferInstanceAs (Decidable (∀ x ∈ bs, 0 ≤ x ∧ x < 256))
def textEOb (T E : TypeId) (l : List AV) (M : List AObj) : Bool := isWr T E M l && decide (TextE (wrBs M l))
theorem textEOb_spec {T E : TypeId} (l : List AV) (M : List AObj) (o : Out) (h : wrTextE T E l M = some o) (hb : textEOb T E l M = true) : o.obl := by
 unfold textEOb at hb;simp only [Bool.and_eq_true, decide_eq_true_eq] at hb;unfold wrTextE at h;split at h
 ·split at h
  ·rename_i φ hM;cases h;have := hb.2;simp only [wrBs, hM] at this;exact ⟨isWr_spec hb.1 hM, this⟩
  ·cases h
 ·cases h
def isC3 : AV → Bool
 | .agg [.lit (.int .i64 _), .lit (.int .i64 _), .lit (.int .i64 _)] => true
 | _ => false
theorem isC3_spec {a : AV} (h : isC3 a = true) : a = .agg (c3 (d3 a)) := by
 unfold isC3 at h;split at h
 ·rfl
 ·cases h
def isFn (c : Nat) : Value → Bool
 | .func (.func c') ⟨[]⟩ ⟨[]⟩ => c' == c
 | _ => false
theorem isFn_spec {c : Nat} {v : Value} (h : isFn c v = true) : v = .func (.func c) #[] #[] := by
 unfold isFn at h;split at h
 ·rw [eq_of_beq h]
 ·cases h
def sortedLOb (k c : Nat) (l : List AV) (M : List AObj) : Bool := match l with
 | [.fn k' [.mp i], .lit v] => match M[i]? with
   | some (.mapo es) => (es.all fun e => isC3 e.1) && decide ((keys3 es).length * 24 ≤ 140737488355328) && k' == k && isFn c v
   | _ => false
 | _ => false
theorem sortedLOb_spec {k c : Nat} (l : List AV) (M : List AObj) (o : Out) (h : sortedLS k c l M = some o) (hb : sortedLOb k c l M = true) : o.obl := by
 unfold sortedLS at h;split at h
 ·rename_i k' i v;split at h
  ·rename_i es hM;cases h;simp only [sortedLOb, hM, Bool.and_eq_true, decide_eq_true_eq] at hb;exact ⟨fun e he => isC3_spec (List.all_eq_true.1 hb.1.1.1 e he), hb.1.1.2, eq_of_beq hb.1.2, isFn_spec hb.2⟩
  ·cases h
 ·cases h
end Go.Ab
end
section
set_option maxRecDepth 100000
set_option maxHeartbeats 4000000
namespace Go.Proofs
open Go.Ab
@[simp] def gm.out (_x0 : ByteArray) (_x1 : ByteArray) (r : Bool) : Out := { av := .lit (.bool r), M := none }
theorem gm.can (x0 : ByteArray) (x1 : ByteArray) (r : Bool) (hr : gm x0 x1 = some r) : CallOk Tryz.prog 142 [.lit (.string x0), .lit (.string x1)] [] (gm.out x0 x1 r) := by
 unfold gm at hr;have hΓ := gamL_nil (P := Tryz.prog);refine cw Tryz.func142 rfl (by kernel_rfl) rfl rfl (by simp) fun _ _ _ => ?_;refine tq hΓ [] [] ?_;obtain ⟨h2, hr⟩ := Lb hr;refine tq hΓ [4] [0, 1] ?_ (by simp [h2]; exact rr);obtain rfl := La hr;exact AWp.ret (Ld (by simp))
@[simp] noncomputable def gm.S : Sp
  | [.lit (.string x0), .lit (.string x1)], _ => some { av := .lit (.bool ((gm x0 x1).getD dflt)), M := none, obl := (gm x0 x1).isSome = true }
  | _, _ => none
theorem gm.ok : SpecOk Tryz.prog 142 gm.S := by
 intro l M out h;unfold gm.S at h;split at h
 ·rename_i x0 x1;cases h;refine callOk_of fun ho => ?_;have hs := ho;obtain ⟨r, hr⟩ := so1 hs;simp only [hr, gd1];have q := Lg (M := M) [] (gm.can x0 x1 r hr) (by simp) rfl ixn;exact callOk_conv q trivial (by simp) (by simp [frameOut]) (by simp [frameOut])
 ·cases h
@[simp] def gM.out (_x0 : ByteArray) (_x1 : ByteArray) (r : Bool) : Out := { av := .lit (.bool r), M := none }
theorem gM.can (x0 : ByteArray) (x1 : ByteArray) (r : Bool) (hr : gM x0 x1 = some r) : CallOk Tryz.prog 99 [.lit (.string x0), .lit (.string x1)] [] (gM.out x0 x1 r) := by
 unfold gM at hr;have hΓ := (gamL_cons gm.ok (gamL_nil) : GamOk Tryz.prog _);refine cw Tryz.func99 rfl (by kernel_rfl) rfl rfl (by simp) fun _ _ _ => ?_;refine tq hΓ [] [] ?_;obtain ⟨r1, h2, hr⟩ := Le hr;refine tq hΓ [4] [0, 1] ?_ (by simp [h2]; exact rr);obtain rfl := La hr;exact AWp.ret (Ld (by simp))
@[simp] noncomputable def gM.S : Sp
  | [.lit (.string x0), .lit (.string x1)], _ => some { av := .lit (.bool ((gM x0 x1).getD dflt)), M := none, obl := (gM x0 x1).isSome = true }
  | _, _ => none
theorem gM.ok : SpecOk Tryz.prog 99 gM.S := by
 intro l M out h;unfold gM.S at h;split at h
 ·rename_i x0 x1;cases h;refine callOk_of fun ho => ?_;have hs := ho;obtain ⟨r, hr⟩ := so1 hs;simp only [hr, gd1];have q := Lg (M := M) [] (gM.can x0 x1 r hr) (by simp) rfl ixn;exact callOk_conv q trivial (by simp) (by simp [frameOut]) (by simp [frameOut])
 ·cases h
@[simp] def gZ.out (_x0 : Int) (r : Int) : Out := { av := .lit (.int .i64 r), M := none }
theorem gZ.can (x0 : Int) (r : Int) (hr : gZ x0 = some r) : CallOk Tryz.prog 98 [.lit (.int .i32 x0)] [] (gZ.out x0 r) := by
 unfold gZ at hr;have hΓ := (gamL_cons gau.ok (gamL_cons gat.ok (gamL_nil)) : GamOk Tryz.prog _);refine cw Tryz.func98 rfl (by kernel_rfl) rfl rfl (by simp) fun _ _ _ => ?_;refine tq hΓ [] [] ?_;refine AWp.seq ?_;refine AWp.block ?_;refine tq hΓ [3] [] ?_;refine AWp.cnd hr (by simp) (fun h6 hr => ?_) (fun h6 hr => ?_)
 ·refine tq hΓ [2] [3, 0] ?_ (by simp [h6]; exact rr);obtain rfl := La hr;exact AWp.ret (Ld (by simp))
 ·obtain ⟨h7, hr⟩ := Lb hr;refine tq hΓ [14] [3] ?_ (by simp [h6, h7]; exact rr);refine AWp.cnd hr (by simp) (fun h8 hr => ?_) (fun h8 hr => ?_)
  ·refine tq hΓ [2] [14, 0] ?_ (by simp [h8]; exact rr);obtain rfl := La hr;exact AWp.ret (Ld (by simp))
  ·obtain ⟨h9, hr⟩ := Lb hr;refine tq hΓ [17] [14, 0] ?_ (by simp [h7, h8]; exact rr);refine AWp.cnd hr (by simp) (fun h10 hr => ?_) (fun h10 hr => ?_)
   ·refine tq hΓ [2] [17] ?_ (by simp [h10]; exact rr);obtain rfl := La hr;exact AWp.ret (Ld (by simp))
   ·refine AWp.skip ?_;refine tq hΓ [2] [17] ?_ (by simp [h10]; exact rr);obtain rfl := La hr;exact AWp.ret (Ld (by simp))
@[simp] noncomputable def gZ.S : Sp
  | [.lit (.int .i32 x0)], _ => some { av := .lit (.int .i64 ((gZ x0).getD dflt)), M := none, obl := (gZ x0).isSome = true }
  | _, _ => none
theorem gZ.ok : SpecOk Tryz.prog 98 gZ.S := by
 intro l M out h;unfold gZ.S at h;split at h
 ·rename_i x0;cases h;refine callOk_of fun ho => ?_;have hs := ho;obtain ⟨r, hr⟩ := so1 hs;simp only [hr, gd1];have q := Lg (M := M) [] (gZ.can x0 r hr) (by simp) rfl ixn;exact callOk_conv q trivial (by simp) (by simp [frameOut]) (by simp [frameOut])
 ·cases h
@[simp] def gw.out (_x0 : ByteArray) (r : Int) : Out := { av := .lit (.int .i64 r), M := none }
def gw.fin (x0 : ByteArray) (r : Int) (σ : St) : Prop := finK (gw.out x0 r) [] σ.M (resA Tryz.ty σ.A σ.M Tryz.f66.results.toList)
theorem gw.can (x0 : ByteArray) (r : Int) (hr : gw x0 = some r) : CallOk Tryz.prog 66 [.lit (.string x0)] [] (gw.out x0 r) := by
 unfold gw at hr;have hΓ := (gamL_cons gZ.ok (gamL_cons gM.ok (gamL_nil)) : GamOk Tryz.prog _);refine cw Tryz.func66 rfl (by kernel_rfl) rfl rfl (by simp) fun _ _ _ => ?_;refine tq hΓ [] [] ?_;refine AWp.seq ?_;refine tq hΓ [14] [] ?_;refine AWp.cnd hr (by simp) (fun h8 hr => ?_) (fun h8 hr => ?_)
 ·refine tq hΓ [2] [14, 0] ?_ (by simp [h8]; exact rr);obtain rfl := La hr;exact AWp.ret (Ld (by simp))
 ·refine AWp.skip ?_;refine tq hΓ [3, 4] [14] ?_ (by simp [h8]; exact rr);refine AWp.seq ?_;refine tq hΓ [16] [] ?_ (by simp; exact rr);refine AWp.loopE (fun (s1 : Int × Int × Nat) (γ1 : Unit) => ⟨[⟨16, none, .it 0⟩, ⟨3, none, .n s1.1⟩, ⟨4, none, .n s1.2.1⟩, ⟨0, none, .s x0⟩], [.iter x0 s1.2.2]⟩) (fun (v1 : Int × Int) (γ1a : Unit) => ⟨[⟨3, none, .n v1.1⟩, ⟨4, none, .n v1.2⟩], [.dead]⟩) (gw.fin x0) hr () 1 (by simp) (fun s1 f γ1 hr => ?_) (fun v1 γ1a σ1 m1 hr hc => ?_) (fun _ h => h)
  ·unfold gw.loop1 at hr;cases h9 : (nextB x0 s1.2.2) with
   | true =>
     have hr := cond_t h9 hr;refine tq hΓ [17, 18] [] ?_ (by simp [h9]; exact rr);refine AWp.seq ?_;refine AWp.cond (b := true) (by simp) (fun hb => ?_) (fun hb => ?_)
     ·refine AWp.skip ?_;refine AWp.block ?_;refine tq hΓ [5, 6] [17, 18] ?_ (by simp; exact rr);obtain ⟨r1, h10, hr⟩ := Le hr;refine tq hΓ [7] [] ?_ (by simp [h10]; exact rr);refine AWp.seq ?_;obtain ⟨h11, hr⟩ := Lb hr;obtain ⟨h12, hr⟩ := Lb hr;refine tq hΓ [43] [5, 6, 4] ?_ (by simp [h11, h12]; exact rr);refine AWp.cnd hr (by simp) (fun h13 hr => ?_) (fun h13 hr => ?_)
      ·refine tq hΓ [2] [43, 7, 16, 3, 0] ?_ (by simp [h13]; exact rr);refine AWp.ret ?_;obtain rfl := La hr;refine round_ret ?_;refine Ld ?_;simp
      ·refine AWp.skip ?_;refine tl hΓ [3, 4] [43, 7] ?_ (by simp [h13]; exact rr);obtain rfl := La hr;exact Lo () 1 (by first | (simp; done) | simp [h8, h9, h10, h11, h12, h13])
     ·cases hb
   | false =>
     have hr := cond_f h9 hr;refine tq hΓ [17, 18] [] ?_ (by simp [h9]; exact rr);refine AWp.seq ?_;refine AWp.cond (b := false) (by simp) (fun hb => ?_) (fun hb => ?_)
     ·cases hb
     ·refine AWp.exit ?_;obtain rfl := La hr;exact Lp () 1 (by first | (simp; done) | simp [h8, h9])
  ·refine AWp.conv hc ?_;refine AWp.seq ?_;refine tq hΓ [52] [3, 4] ?_ (by simp; exact rr);refine AWp.cnd hr (by simp) (fun h14 hr => ?_) (fun h14 hr => ?_)
   ·refine tq hΓ [2] [52] ?_ (by simp [h14]; exact rr);obtain rfl := La hr;exact AWp.ret (Ld (by simp))
   ·refine AWp.skip ?_;refine tq hΓ [2] [52] ?_ (by simp [h14]; exact rr);obtain rfl := La hr;exact AWp.ret (Ld (by simp))
@[simp] noncomputable def gw.S : Sp
  | [.lit (.string x0)], _ => some { av := .lit (.int .i64 ((gw x0).getD dflt)), M := none, obl := (gw x0).isSome = true }
  | _, _ => none
theorem gw.ok : SpecOk Tryz.prog 66 gw.S := by
 intro l M out h;unfold gw.S at h;split at h
 ·rename_i x0;cases h;refine callOk_of fun ho => ?_;have hs := ho;obtain ⟨r, hr⟩ := so1 hs;simp only [hr, gd1];have q := Lg (M := M) [] (gw.can x0 r hr) (by simp) rfl ixn;exact callOk_conv q trivial (by simp) (by simp [frameOut]) (by simp [frameOut])
 ·cases h
end Go.Proofs
end
