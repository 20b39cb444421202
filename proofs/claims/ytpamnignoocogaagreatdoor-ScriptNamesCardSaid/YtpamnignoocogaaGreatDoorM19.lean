import Derived.Test.YtpamnignoocogaaGreatDoorM11
import Derived.Shelf.SlIter.Nil
import Derived.Test.YtpamnignoocogaaGreatDoorM15
import Derived.Test.YtpamnignoocogaaGreatDoorProg
import Derived.Sort.CutIn
section
namespace Go.Ab
open Go.Proofs Go.Shelf Go.Sort Go.Maps
def keysVS (es : List (AV × AV)) : List ByteArray := es.map fun e => dkS e.1
def StrKeys (es : List (AV × AV)) : Prop := ∀ e ∈ es, e.1 = kS (dkS e.1)
@[simp] theorem keysVS_nil : keysVS [] = [] := rfl
def KeysBS (l : List ByteArray) : Prop := (∀ x ∈ l, x.size ≤ maxLen) ∧ l.length * 16 ≤ 140737488355328
def kbytesOf (x : ByteArray) : List UInt8 := x.data.toList
def kofBytes (x : List UInt8) : ByteArray := ⟨x.toArray⟩
def sortS (l : List ByteArray) : List ByteArray := ((l.map kbytesOf).mergeSort fun x y => decide (x ≤ y)).map kofBytes
theorem R.ownsRowG {α : Type} (f : α → Value) (hf : ∀ a, (f a).oneCell' = true) {g : G} {w' : World} (sm : Sim g) {e : TypeId} {v : Value} {l : List α} (h : w'.ownsRow g.w.heap.size e 1 v l.length (l.map f)) :
  R { g with w := w' } (.sl (l.map fun a => [.lit (f a)]) .no) v := by
 rcases h.2 with ⟨rfl, hz⟩ | ⟨gb, cap, cur, rfl, hbase, hgb, hcap, _, hsz, htake⟩
 ·have : l = [] := List.eq_nil_of_length_eq_zero hz;subst this;exact .nil _ trivial
 ·have hlen : (l.map fun a => [AV.lit (f a)]).length = l.length := by simp
  have q : R { g with w := w' } (.sl (l.map fun a => [.lit (f a)]) .no) (.slice (some ⟨gb, 0, none⟩) (l.map fun a => [AV.lit (f a)]).length cap) := by
   have hcur : ∀ i (hi : i < l.length), cur[i]? = some (f l[i]) := fun i hi => by
    have : (cur.toList.take (l.length * 1))[i]? = some (f l[i]) := by
     rw [htake, List.getElem?_map];simp [hi]
    rw [List.getElem?_take_of_lt (by omega)] at this;simpa using this
   refine .sl _ .no gb 0 1 cap (fun i _ => ((l[i]?).map f).getD undef) (fun i hi => by simp) (fun i j hi hj => ?_) (fun i j hi hj hr => ?_) (fun i j hi hj => ?_) (fun i j hi hj => ?_) trivial (by omega)
   ·have hj0 : j = 0 := by omega
    subst hj0;have hi' : i < l.length := by omega
    have := hcur i hi';simp only [World.cell?, hgb, Nat.zero_add, Nat.mul_one, Nat.add_zero];rw [List.getElem?_eq_getElem hi'];simpa using this
   ·have := sm.inb _ hr;simp only at this;omega
   ·have hj0 : j = 0 := by simp at hj; omega
    subst hj0;have hi' : i < l.length := by omega
    simp only [List.getElem_map, List.getElem_cons_zero];rw [List.getElem?_eq_getElem hi'];exact .lit _
   ·have hi' : i < l.length := by omega
    rw [List.getElem?_eq_getElem hi'];exact hf _
  rw [hlen] at q; exact q
theorem ownsS_of {g : G} (sm : Sim g) {i : Nat} {es : List (AV × AV)} (hM : g.M[i]? = some (.mapo es)) (hk : StrKeys es) (hb : KeysBS (keysVS es)) {P : Program} {k : TypeId} (hkt : P.underlying k = some .string) :
  ∃ (D0 : DataW Unit) (R0 : Value → Option (DataW Unit × List MemPlace)), g.w.ownsMap P k R0 (g.β i) es.length D0 ∧ (strKeys D0).Perm ((keysVS es).map kbytesOf) ∧ Maps.size D0 = es.length := by
 obtain ⟨ents, clock, hh, hst, he⟩ := map_at sm hM;have hlen := he.len;simp only [Array.length_toList] at hlen
 have hkey : ∀ (es : List (AV × AV)) (l : List MapEntry), EntR g es l → StrKeys es → l.map (·.key) = (keysVS es).map .string := by
  intro es l h
  induction h with
  | nil => intro _; rfl
  | @cons a v es e l hk hv r ih =>
    intro q;have h1 := q (a, v) (.head _);simp only at h1;rw [h1] at hk;have h2 : e.key = .string (dkS a) := hk.lit_inv;simp only [List.map_cons, keysVS, h2];rw [ih fun e he => q e (.tail _ he)]; rfl
 have hks := hkey es ents.toList he hk
 have hread : ∀ x ∈ ents.toList, ∃ n : ByteArray, x.key = .string n ∧ n ∈ keysVS es := fun x hx => by
  have : x.key ∈ ents.toList.map (·.key) := List.mem_map.2 ⟨x, hx, rfl⟩;rw [hks] at this;obtain ⟨n, hn, e⟩ := List.mem_map.1 this;exact ⟨n, e.symm, hn⟩
 let R0 : Value → Option (DataW Unit × List MemPlace) := fun _ => some (.nil, [])
 have hrd : ∀ x ∈ ents.toList, ∃ n : ByteArray, x.key = .string n ∧ WideElems.rd P k R0 x = some (.string (kbytesOf n), .nil) := fun x hx => by
  obtain ⟨n, hn, hmem⟩ := hread x hx;refine ⟨n, hn, ?_⟩;have hsz := hb.1 n hmem;simp only [WideElems.rd, hn, R0, Option.map_some]
  have : keyOf P k (.string n) = some (.string (kbytesOf n)) := by
   simp [keyOf, hkt, mapKey, kbytesOf];exact hsz
  rw [this];rfl
 refine ⟨.map ((ents.toList.map (WideElems.rg P k R0)).foldr DataW.insert []), R0, ⟨ents, clock, hh, ⟨?_, hst, fun x hx => ?_⟩, by omega, rfl⟩, ?_, ?_⟩
 ·have := hb.2;simp only [keysVS, List.length_map] at this;simp only [maxLen]; omega
 ·obtain ⟨n, _, h⟩ := hrd x hx;exact ⟨_, h⟩
 ·show (((ents.toList.map (WideElems.rg P k R0)).foldr DataW.insert []).map fun p => strOf p.1).Perm _;refine ((WideShapes.sorted_perm _).map _).trans ?_;rw [List.map_map]
  have : ents.toList.map ((fun p => strOf p.1) ∘ WideElems.rg P k R0) = (keysVS es).map kbytesOf := by
   have h2 : (ents.toList.map (·.key)).map (fun v => match v with | .string n => kbytesOf n | _ => []) = (keysVS es).map kbytesOf := by
    rw [hks, List.map_map];exact List.map_congr_left fun n _ => rfl
   rw [← h2, List.map_map];refine List.map_congr_left fun x hx => ?_;obtain ⟨n, h3, h4⟩ := hrd x hx;simp only [Function.comp, WideElems.rg, h4, Option.getD_some, strOf, h3]
  rw [this]
 ·rw [Maps.size_eq, Go.length_read]; omega
theorem keysS_okZ {P : Program} {ρ : Ren} (L : SlLaysZ.n7 P ρ) {f k : Nat} (hf : ρ.f 7 = f) (hk : ρ.f 10 = k) (hent : ∀ args w, (callFunc f args).run P w = .ok (.enter f args) w) : SpecOk P f (keysS k) := by
 subst hf; subst hk;intro l M out h;unfold keysS at h;split at h
 ·rename_i i
  have h : some ({ av := .fn (ρ.f 10) [.mp i] } : Out) = some out := by
   split at h
   ·exact h
   ·exact h
   ·cases h
  ·cases h;intro g vs hM sm hr _;cases hr with | cons hv hr => cases hr with | nil =>
   cases hv with
   | mp _ hi =>
   refine ⟨hent _ _, ?_⟩;refine ((callsIn_wide (n := 5)).1 (AnyZ.keys_in L Fence.wide 5 trivial rfl _ _)).mono fun e w' => ?_;rintro ⟨rfl, rfl⟩;have hw : (g.w.alloc (.cells #[.map (some (g.β i))] (ρ.t 23))).heap = g.w.heap.push (.cells #[.map (some (g.β i))] (ρ.t 23)) := rfl;refine ⟨_, rfl, g.β, g.ρ, ?_, ?_, ?_⟩
   ·simp only [G.out, Option.getD_none];exact sim_push hw sm
   ·simp only [G.out, Option.getD_none]
    have q : R { g with w := g.w.alloc (.cells #[.map (some (g.β i))] (ρ.t 23)) } (.fn (ρ.f 10) [.mp i]) (.func (.func (ρ.f 10)) #[] ((List.range [AV.mp i].length).map fun j => Value.pointer (some ⟨(fun _ => g.w.heap.size) j, 0, none⟩)).toArray) := by
     refine .fn (ρ.f 10) [.mp i] (fun _ => g.w.heap.size) (fun _ => .map (some (g.β i))) (fun j hj => ?_) (fun j hj hreg => ?_) (fun j hj => ?_)
     ·simp [World.cell?, hw]
     ·have := sm.inb _ hreg;simp at this
     ·have hj0 : j = 0 := by simp at hj; omega
      subst hj0;exact .mp (g := { g with w := g.w.alloc (.cells #[.map (some (g.β i))] (ρ.t 23)) }) i hi
    exact q
   ·simp only [G.out, Option.getD_none];exact keep_push hw
 ·cases h
@[simp] def sortedSS (k : Nat) : Sp
  | [.fn k' [.mp i]], M => if k' = k then (match M[i]? with
    | some (.mapo es) => some { av := .sl ((sortS (keysVS es)).map eTxt) .no, obl := StrKeys es ∧ KeysBS (keysVS es) }
    | _ => none) else none
  | _, _ => none
theorem sortedS_ok {P : Program} {ρ ρ' : Ren} (L : SlLaysZ.n6 P ρ) (L' : SlLaysZ.n10 P ρ') {f k : Nat} (hf : ρ.f 6 = f) (hk : ρ'.f 10 = k) (hent : ∀ args w, (callFunc f args).run P w = .ok (.enter f args) w)
  (hsort : ∀ m, AnyZ.SortsIn P ρ Fence.wide m) (e9 : ∀ args w, (callFunc (ρ.f 9) args).run P w = .ok (.enter (ρ.f 9) args) w) (eg : ∀ args w, (callFunc k args).run P w = .ok (.enter k args) w) : SpecOk P f (sortedSS k) := by
 subst hf; subst hk;intro l M out h;unfold sortedSS at h;split at h
 ·rename_i k' i;split at h
  ·rename_i hkk;subst hkk;split at h
   ·rename_i es hMi;cases h;intro g vs hM sm hr ho;subst hM;cases hr with | cons hv hr => cases hr with | nil =>
    obtain ⟨b, rfl, hcell, hi⟩ := fn_inv hv;refine ⟨hent _ _, ?_⟩;obtain ⟨D0, R0, hown, hperm, hsize⟩ := ownsS_of sm hMi ho.1 ho.2 (P := P) (k := ρ'.t 26) L'.t26
    have hseq : SeqGives Fence.wide 2 P (ρ'.f 10) #[.pointer (some ⟨b, 0, none⟩)] encStr (fun ss => ss.Perm (strKeys D0)) (Maps.size D0) g.w :=
     AnyZ.keys_gives L' Fence.wide 2 trivial rfl (by omega) b (g.β i) es.length D0 g.w (cell_lt hcell) hcell hown
    have hbd := ho.2.2;simp only [keysVS, List.length_map] at hbd;have cS := AnyZ.sorted_in L Fence.wide 5 trivial trivial trivial trivial rfl (by omega) (hsort _) e9 (ρ'.f 10) #[.pointer (some ⟨b, 0, none⟩)] trivial eg _ _ (by rw [hsize]; simp only [maxLen]; omega) (by rw [hsize]; exact hbd) g.w hseq;refine ((callsIn_wide (n := 5)).1 cS).mono fun e w' => ?_;rintro ⟨v, ss, rfl, hS, hrow, _, hbel⟩;have hss : ss.mergeSort (fun x y => decide (x ≤ y)) = ((keysVS es).map kbytesOf).mergeSort (fun x y => decide (x ≤ y)) := mergeSort_of_perm (hS.trans hperm);rw [hss] at hrow;have hl : ss.length = (((keysVS es).map kbytesOf).mergeSort (fun x y => decide (x ≤ y))).length := by rw [← hss]; simp
    rw [hl] at hrow;refine ⟨_, rfl, g.β, g.ρ, ?_, ?_, ?_⟩
    ·simp only [G.out, Option.getD_none]; exact sim_below hbel sm
    ·simp only [G.out, Option.getD_none];have q := R.ownsRowG encStr (fun _ => rfl) sm hrow
     have e : (sortS (keysVS es)).map eTxt = (((keysVS es).map kbytesOf).mergeSort (fun x y => decide (x ≤ y))).map fun a => [AV.lit (encStr a)] := by
      unfold sortS;rw [List.map_map]; rfl
     rw [e]; exact q
    ·simp only [G.out, Option.getD_none]; exact keep_below hbel
   ·cases h
  ·cases h
 ·cases h
end Go.Ab
end
section
set_option maxRecDepth 100000
set_option maxHeartbeats 2000000
namespace Go.Ab
open Go.Proofs Go.Maps Go.RowKit Go.Sort Go.Shelf ChangeMaps
abbrev L3 := Int × Int × Int
def kv3 (x : L3) : Value := .agg #[.int .i64 x.1, .int .i64 x.2.1, .int .i64 x.2.2]
def cs3 (x : L3) : List Value := [.int .i64 x.1, .int .i64 x.2.1, .int .i64 x.2.2]
theorem kv3_inj {x y : L3} (h : kv3 x = kv3 y) : x = y := by
 obtain ⟨a, b, c⟩ := x;obtain ⟨a', b', c'⟩ := y;simp only [kv3, Value.agg.injEq, Array.mk.injEq, List.cons.injEq, Value.int.injEq, true_and, and_true] at h;rw [h.1, h.2.1, h.2.2]
theorem keys3_in (F : Fence) (n : Nat) (h10 : F.fn 359) (hro : F.round = none) (hn : 1 ≤ n) (l Bm b : Nat) (ents : Array MapEntry) (clock : Nat) (J : List L3 → World → Prop)
  (hold : ∀ x ∈ ents.toList, x.born < clock) (hnd : (ents.toList.map (·.born)).Nodup) (hkey : ∀ x ∈ ents.toList, ∃ k, x.key = kv3 k)
  (hY : ∀ pre x W, J pre W → pre.length < ents.size → YieldAt F (n - 1) Tryz.prog l #[kv3 x] W fun e W' => e = .returned (.bool true) ∧ J (pre ++ [x]) W' ∧ KeepsWalks W W')
  (W : World) (hJ : AbidesFrom W.heap.size J) (hm : W.cell? ⟨Bm, 0, none⟩ = some (.map (some b))) (hb : W.heap[b]? = some (.map ents clock)) (h0 : J [] W) :
  CallsIn F n Tryz.prog 359 #[.func (.yield l) #[] #[], .pointer (some ⟨Bm, 0, none⟩)] W fun e W' => (∃ v, e = .returned v) ∧ ∃ ss : List L3, (ss.map kv3).Perm (ents.toList.map (·.key)) ∧ J ss W' := by
 refine callsIn_of_wp Tryz.func359 rfl h10 ?_ hro;simp only [Tryz.ntmps359, List.size_toArray, List.length_cons, List.length_nil, Nat.reduceAdd, Nat.reduceSub, Array.replicate_succ, Array.replicate_zero, List.push_toArray, List.append_toArray, List.nil_append, List.cons_append]
 gi_wp2_with (first
  | (gi_at_range; refine wpListIn_range_K rfl _ _ rfl (k := 303) (e := 309) (b := b) (ents := ents) (clock := clock) (by kernel_rfl) rfl hb ?_; intro w0 hrg0 hg0 hs0)
  | gi_in)
 go_frame
 gi_loopw [3] (fun _ wr => ∃ (es : List MapEntry) (ss : List L3), KR wr b W.heap.size ents clock es ∧ ss.map kv3 = es.map (·.key) ∧ J ss wr)
  (fun _ wr => wr.rangeLeft b W.heap.size)
 case atStart =>
  exact ⟨[], [], hrg0, rfl, hJ [] W w0 none h0 hg0 (fun r e => by cases e)⟩
 case round =>
  obtain ⟨es, ss, hrg, hss, hJs⟩ := hrel
  gi_wp2_with (first
   | (gi_at_next; refine wpListIn_next_K rfl _ rfl rfl hrg hold hnd ?_ ?_)
   | gi_in)
  ·intro hp
   gi_wp2
   go_end0
   refine ⟨⟨_, rfl⟩, ss, ?_, hJs⟩;rw [hss]; exact hp.map _
  ·intro e w2 hem hrg2 hlen hlt hg2 hs2 hen;obtain ⟨x, hx⟩ := hkey e (by simpa using hem);rw [hx] at hen;rw [hx];obtain ⟨p, q, s⟩ := x;simp only [kv3] at hen ⊢;have hJ2 : J ss w2 := hJ ss wr w2 (some W.heap.size) hJs hg2 (fun r e => by cases e; exact ⟨Nat.le_refl _, hrg.walk⟩)
   gi_upto_region 3 with gi_in
   have hlen3 : ss.length < ents.size := by
    have := congrArg List.length hss;simp only [List.length_map] at this;omega
   have hJ4 : J ss (w2.alloc (.cells #[.int .i64 p, .int .i64 q, .int .i64 s] 303)) := hJ ss w2 _ none hJ2 (World.grownBy_alloc w2 _ none) (fun r e => by cases e);have hrg4 := hrg2.of_walks (KeepsWalks.alloc w2 (.cells #[.int .i64 p, .int .i64 q, .int .i64 s] 303));obtain ⟨fn, tmps, assign, body, hy, hR⟩ := hY ss (p, q, s) _ hJ4 hlen3;simp only [kv3] at hy hR
   gi_wp2
   refine hR.mono ?_;rintro e' W3 ⟨rfl, hJ3, hk3⟩
   gi_wp2
   have hrg3 := hrg4.of_walks hk3
   go_roundw
   case rel => exact ⟨es ++ [e], ss ++ [(p, q, s)], hrg3, by simp [hss, hx], hJ3⟩
   case measure => rw [hrg3.left, ← hrg2.left]; exact hlt
theorem keys3_gives (F : Fence) (n : Nat) (h10 : F.fn 359) (hro : F.round = none) (hn : 1 ≤ n) (Bm b : Nat) (ents : Array MapEntry) (clock : Nat)
  (hold : ∀ x ∈ ents.toList, x.born < clock) (hnd : (ents.toList.map (·.born)).Nodup) (hkey : ∀ x ∈ ents.toList, ∃ k, x.key = kv3 k)
  (w : World) (hBm : Bm < w.heap.size) (hm : w.cell? ⟨Bm, 0, none⟩ = some (.map (some b))) (hb : w.heap[b]? = some (.map ents clock)) :
  SeqGives F n Tryz.prog 359 #[.pointer (some ⟨Bm, 0, none⟩)] kv3 (fun ss => (ss.map kv3).Perm (ents.toList.map (·.key))) ents.size w := fun l J W hW hJ hY h0 =>
 keys3_in F n h10 hro hn l Bm b ents clock J hold hnd hkey hY W hJ ((hW.cell (p := ⟨Bm, 0, none⟩) hBm).trans hm) ((hW.block b (Array.getElem?_eq_some_iff.1 hb).1).trans hb) h0
def apAssign3 : Code := (Code.region 2 #[{ dst := some 5, op := Op.alloc 303, type := 0, pos := "iter.go:51", after := #[], guard := none }, { dst := none, op := Op.store 303 (Operand.tmp 5) (Operand.tmp 7), type := 0, pos := "iter.go:51", after := #[{ on := 0, ground := Ground.data }, { on := 0, ground := Ground.phase }], guard := none }] false)
def apBody3 : Code := (Code.block 1 (Code.region 3 #[{ dst := some 8, op := Op.load 321 (Operand.tmp 2), type := 321, pos := "iter.go:52", after := #[], guard := none }, { dst := some 9, op := Op.load 303 (Operand.tmp 5), type := 303, pos := "iter.go:52", after := #[], guard := none }, { dst := some 10, op := Op.buildSlice 321 1 #[(0, Operand.tmp 9)], type := 321, pos := "iter.go:52", after := #[{ on := 1, ground := Ground.data }], guard := none }, { dst := some 11, op := Op.call { callee := Callee.builtin Builtin.append, args := #[Operand.tmp 8, Operand.tmp 10], argTypes := #[321, 321] }, type := 321, pos := "iter.go:52", after := #[{ on := 0, ground := Ground.data }, { on := 2, ground := Ground.data }], guard := none }, { dst := none, op := Op.store 321 (Operand.tmp 2) (Operand.tmp 11), type := 0, pos := "iter.go:52", after := #[{ on := 3, ground := Ground.data }, { on := 3, ground := Ground.chain }, { on := 0, ground := Ground.phase }, { on := 1, ground := Ground.phase }, { on := 2, ground := Ground.phase }, { on := 3, ground := Ground.phase }], guard := none }] false))
def apRec3 (fn : FuncId) (sv : Value) (Bs D : Nat) (st : LoopState) (pend : Option Code) : Loop :=
 { state := st, pending := pend, fn, tmps := #[.slice none 0 0, sv, .pointer (some ⟨Bs, 0, none⟩), undef, .slice none 0 0, undef, sv, undef, undef, undef, undef, undef, undef], params := #[7], assign := apAssign3, body := apBody3, defers := D }
structure ApAt3 (w0 : World) (fn : FuncId) (sv : Value) (Bs l D : Nat) (ss : List L3) (W : World) : Prop where
 box : ∃ v, W.heap[Bs]? = some (.cells #[v] 321 (0, 0)) ∧ W.ownsRow w0.heap.size 303 3 v ss.length (ss.flatMap cs3) ∧ (v = .slice none 0 0 ↔ ss = [])
 L : W.heap[l]? = some (.loop (apRec3 fn sv Bs D .ready none))
 K : W.heap[D]? = some (.deferred (some []))
 below : Below w0.heap.size w0 W
theorem ap_abides3 (w0 : World) (fn : FuncId) (sv : Value) (Bs l D B : Nat) (hB : w0.heap.size ≤ B) : AbidesFrom B (ApAt3 w0 fn sv Bs l D) := fun s W W' row h hg hrow => by
 have hrow' : ∀ r, row = some r → ∃ o : Obj, W.heap[r]? = some o ∧ o.isWalk = true := fun r e => (hrow r e).2;obtain ⟨v, hv, hr, hn⟩ := h.box
 exact ⟨⟨v, (grownBy_keeps hg hrow' hv rfl).trans hv, ownsRow_abides_a hr hg hrow', hn⟩, (grownBy_keeps hg hrow' h.L rfl).trans h.L, (grownBy_keeps hg hrow' h.K rfl).trans h.K,
  h.below.grown hg h.below.size (fun k e => Nat.le_trans hB (hrow k e).1)⟩
theorem cell_three_new (w : World) (x : L3) (t : TypeId) : ∀ j u, (cs3 x)[j]? = some u → (w.alloc (.cells #[.int .i64 x.1, .int .i64 x.2.1, .int .i64 x.2.2] t)).cell? ((⟨w.heap.size, 0, none⟩ : Addr).add j) = some u := by
 intro j u hj
 match j, hj with
 | 0, hj => simp [cs3] at hj; subst hj; simp [Addr.add]
 | 1, hj => simp [cs3] at hj; subst hj; simp [Addr.add]
 | 2, hj => simp [cs3] at hj; subst hj; simp [Addr.add]
theorem apYield3 (F : Fence) (m : Nat) (w0 : World) (fn : FuncId) (hfn : F.fn fn) (sv : Value) (Bs l D : Nat) (hBl : Bs ≠ l) (hDl : D ≠ l) (hDB : D ≠ Bs) (h0B : w0.heap.size ≤ Bs) (h0l : w0.heap.size ≤ l)
    (N : Nat) (hN : N ≤ maxLen) (hNb : N * 24 ≤ 140737488355328) (ss : List L3) (x : L3) (W : World) (h : ApAt3 w0 fn sv Bs l D ss W) (hlen : ss.length < N) :
    YieldAt F m Tryz.prog l #[kv3 x] W fun e W' => e = .returned (.bool true) ∧ ApAt3 w0 fn sv Bs l D (ss ++ [x]) W' ∧ KeepsWalks W W' := by
  refine ⟨fn, #[.slice none 0 0, sv, .pointer (some ⟨Bs, 0, none⟩), undef, .slice none 0 0, undef, sv, kv3 x, undef, undef, undef, undef, undef], apAssign3, apBody3, by simpa [apRec3] using run_yield (P := Tryz.prog) (args := #[kv3 x]) h.L rfl, roundIn_of_wpIn hfn ?_⟩;obtain ⟨p, q, s⟩ := x;simp only [kv3];obtain ⟨Wa, hWa⟩ : ∃ Wa, W.alloc (.cells #[.int .i64 p, .int .i64 q, .int .i64 s] 303) = Wa := ⟨_, rfl⟩;have hsa : Wa.heap.size = W.heap.size + 1 := by rw [← hWa]; simp
  have hga : W.grownBy Wa none := by rw [← hWa]; exact World.grownBy_alloc W _ none
  have hka : KeepsWalks W Wa := by rw [← hWa]; exact KeepsWalks.alloc _ _
  have hva : Wa.heap[W.heap.size]? = some (.cells #[.int .i64 p, .int .i64 q, .int .i64 s] 303 (0, 0)) := by rw [← hWa]; exact World.alloc_heap_new W _
  have hAt : ApAt3 w0 fn sv Bs l D ss Wa := ap_abides3 w0 fn sv Bs l D w0.heap.size (Nat.le_refl _) ss W Wa none h hga (fun r e => by cases e);obtain ⟨v, hv, hrow, _⟩ := hAt.box;have hl : l < Wa.heap.size := (Array.getElem?_eq_some_iff.1 hAt.L).1;have hbr := run_beginRound (P := Tryz.prog) hAt.L rfl;obtain ⟨W2, hW2⟩ : ∃ W2, Wa.putObj l (.loop { apRec3 fn sv Bs D .ready none with state := .busy }) = W2 := ⟨_, rfl⟩;rw [hW2] at hbr;have hg2 : Wa.grownBy W2 (some l) := by rw [← hW2]; exact grownBy_putObj_a _ _ _
  have hk2 : KeepsWalks Wa W2 := by rw [← hW2]; exact KeepsWalks.putObj _ hAt.L rfl
  have hlw : l < W.heap.size := (Array.getElem?_eq_some_iff.1 h.L).1;have hva2 : W2.heap[W.heap.size]? = some (.cells #[.int .i64 p, .int .i64 q, .int .i64 s] 303 (0, 0)) := by rw [← hW2]; exact (World.putObj_heap_other (by omega)).trans hva
  have hv2 : W2.heap[Bs]? = some (.cells #[v] 321 (0, 0)) := by rw [← hW2]; exact (World.putObj_heap_other hBl).trans hv
  have hK2 : W2.heap[D]? = some (.deferred (some [])) := by rw [← hW2]; exact (World.putObj_heap_other hDl).trans hAt.K
  have hL2 : W2.heap[l]? = some (.loop { apRec3 fn sv Bs D .ready none with state := .busy }) := by rw [← hW2]; exact World.putObj_heap_same hl
  have hrow2 : W2.ownsRow w0.heap.size 303 3 v ss.length (ss.flatMap cs3) := hrow.kept hg2 (ownsRow_ne_a hrow hAt.L (fun cur e => by cases e));have hb2 : Below w0.heap.size w0 W2 := hAt.below.grown hg2 hAt.below.size (fun k e => by cases e; exact h0l);obtain ⟨hc2, hf2⟩ := cell_of_box_a hv2;have hx0 : W2.cell? ⟨W.heap.size, 0, none⟩ = some (.int .i64 p) := by simp [World.cell?, hva2]
  have hx1 : W2.cell? ⟨W.heap.size, 1, none⟩ = some (.int .i64 q) := by simp [World.cell?, hva2]
  have hx2 : W2.cell? ⟨W.heap.size, 2, none⟩ = some (.int .i64 s) := by simp [World.cell?, hva2]
  have hBlt : Bs < W2.heap.size := (Array.getElem?_eq_some_iff.1 hv2).1;have hl2 : l < W2.heap.size := (Array.getElem?_eq_some_iff.1 hL2).1;have hDlt : D < W2.heap.size := (Array.getElem?_eq_some_iff.1 hK2).1
  have ne_of : ∀ {j : Nat} {o : Obj}, W2.heap[j]? = some o → (∀ cur, o ≠ .cells cur 303 (0, 0)) → some j ≠ v.ownBlock := fun hj hno => by
    rcases ownsRow_ne_a hrow2 hj hno with e | e
    · rw [e]; simp
    · exact fun e' => e e'.symm
  clear hW2;unfold apAssign3
  gi_wp2_with gi_round_op_a
  clear hbr hWa hva;unfold apBody3
  gi_wp2_with (first
    | (gi_at_builtin; refine wpListIn_append_own _ rfl _ _ 321 rfl w0.heap.size 303 (Tryz.types[303]) (.agg #[.int .i64 0, .int .i64 0, .int .i64 0]) 3 24 (by kernel_rfl) (by kernel_rfl) (by kernel_rfl) (by kernel_rfl) (by kernel_rfl) rfl (by decide) _ _ _ rfl (hrow2.alloc _) ⟨W2.heap.size, 0, none⟩ 1 1 (cs3 (p, q, s)) rfl rfl (cell_three_new _ (p, q, s) _) (by simp [Value.oneCell', cs3]) (by omega) (by omega) (by have := hb2.size; simp; omega) ?_; intro v' w3 hown' hg3 hnil3
       have hv3 : w3.heap[Bs]? = some (.cells #[v] 321 (0, 0)) := (hg3.block Bs (by simp; omega) (ne_of hv2 (fun cur e => by cases e))).trans ((Below.heap_alloc _ _ Bs hBlt).trans hv2);obtain ⟨hc3, hf3⟩ := cell_of_box_a hv3
       obtain ⟨g', cap', cur', rfl, hbase', hgb', hr1, hr2, hr3, hr4⟩ : ∃ g' cap' cur', v' = .slice (some ⟨g', 0, none⟩) (ss.length + 1) cap' ∧ w0.heap.size ≤ g' ∧ w3.heap[g']? = some (.cells cur' 303 (0, 0)) ∧ ss.length + 1 ≤ cap' ∧ cap' ≤ maxLen ∧ cur'.size = cap' * 3 ∧ cur'.toList.take ((ss.length + 1) * 3) = ss.flatMap cs3 ++ cs3 (p, q, s) := by
         rcases hown'.2 with ⟨_, h0⟩ | h'
         · exact absurd h0 (by omega)
         · exact h'
       go_frame)
    | gi_round_op_a)
  have hg3' : (W2.alloc (.cells #[.int .i64 p, .int .i64 q, .int .i64 s] 303)).grownBy w3 v.ownBlock := hg3;have hL3 : w3.heap[l]? = some (.loop { apRec3 fn sv Bs D .ready none with state := .busy }) := (hg3'.block l (by simp; omega) (ne_of hL2 (fun cur e => by cases e))).trans ((Below.heap_alloc _ _ l hl2).trans hL2);have hK3 : w3.heap[D]? = some (.deferred (some [])) := (hg3'.block D (by simp; omega) (ne_of hK2 (fun cur e => by cases e))).trans ((Below.heap_alloc _ _ D hDlt).trans hK2);obtain ⟨w4, hw4⟩ : ∃ w4, w3.setCell ⟨Bs, 0, none⟩ (.slice (some ⟨g', 0, none⟩) (ss.length + 1) cap') = w4 := ⟨_, rfl⟩;rw [hw4];have hg4 : w3.grownBy w4 (some Bs) := by rw [← hw4]; exact grownBy_setCell0_a _ _ _
  have hv4 : w4.heap[Bs]? = some (.cells #[.slice (some ⟨g', 0, none⟩) (ss.length + 1) cap'] 321 (0, 0)) := by rw [← hw4]; exact heap_setCell_box_a _ hv3
  have hL4 : w4.heap[l]? = some (.loop { apRec3 fn sv Bs D .ready none with state := .busy }) := (hg4.block l (Array.getElem?_eq_some_iff.1 hL3).1 (fun e => hBl (by cases e; rfl))).trans hL3;have hK4 : w4.heap[D]? = some (.deferred (some [])) := (hg4.block D (Array.getElem?_eq_some_iff.1 hK3).1 (fun e => hDB (by cases e; rfl))).trans hK3;have hrow4 := hown'.kept hg4 (ownsRow_ne_a hown' hv3 (fun cur e => by cases e));have hl4 : l < w4.heap.size := (Array.getElem?_eq_some_iff.1 hL4).1;have hb3 : Below w0.heap.size w0 w3 := (hb2.alloc hb2.size _).grown hg3' (by have := hb2.size; simp; omega) (fun k e => (hrow2.lt k e).1);have hb4 : Below w0.heap.size w0 w4 := hb3.grown hg4 hb3.size (fun k e => by cases e; exact h0B);have hk4 : KeepsWalks W w4 := (((hka.trans hk2).trans (KeepsWalks.alloc _ _)).trans (KeepsWalks.of_grownBy hg3' (ownsRow_not_walk_a (hrow2.alloc _)))).trans (by rw [← hw4]; exact KeepsWalks.setCell _ _ _);clear hw4;refine ⟨_, _, run_endRound none hL4, rfl, ⟨⟨_, (World.putObj_heap_other hBl).trans hv4, ?_, by simp⟩, World.putObj_heap_same hl4, (World.putObj_heap_other hDl).trans hK4, hb4.grown (grownBy_putObj_a _ _ _) hb4.size (fun k e => by cases e; exact h0l)⟩, hk4.trans (KeepsWalks.putObj _ hL4 rfl)⟩;have := hrow4.kept (grownBy_putObj_a w4 l (.loop { { apRec3 fn sv Bs D .ready none with state := .busy } with state := if (none : Option Code).isNone then .ready else .done, pending := none })) (ownsRow_ne_a hrow4 hL4 (fun cur e => by cases e));simpa using this
theorem appendSeq3 (F : Fence) (n : Nat) (h11 : F.fn 423) (hro : F.round = none) (hn : 2 ≤ n) (g : Nat) (lb : Array Value) (hFg : F.fn g) (eg : ∀ args w, (callFunc g args).run Tryz.prog w = .ok (.enter g args) w)
    (S : List L3 → Prop) (N : Nat) (hN : N ≤ maxLen) (hNb : N * 24 ≤ 140737488355328) (w : World) (hseq : SeqGives F (n - 1) Tryz.prog g lb kv3 S N w) :
    CallsIn F n Tryz.prog 423 #[.slice none 0 0, .func (.func g) #[] lb] w fun e w' => ∃ (v : Value) (ss : List L3), e = .returned v ∧ S ss ∧ w'.ownsRow w.heap.size 303 3 v ss.length (ss.flatMap cs3) ∧ (v = .slice none 0 0 ↔ ss = []) ∧ Below w.heap.size w w' := by
  have h1 : 1 ≤ n := by omega
  refine callsIn_of_wp_marks Tryz.func423 rfl h11 ?_ hro;simp only [Tryz.ntmps423, List.size_toArray, List.length_cons, List.length_nil, Nat.reduceAdd, Nat.reduceSub, Array.replicate_succ, Array.replicate_zero, List.push_toArray, List.append_toArray, List.nil_append, List.cons_append]
  gi_wp2
  refine wpIn_rangeFunc ?_;intro fn hfn;rw [hro];obtain ⟨W0, hW0⟩ : ∃ W0, w.alloc (.cells #[.slice none 0 0] 321) = W0 := ⟨_, rfl⟩;have hs0 : W0.heap.size = w.heap.size + 1 := by rw [← hW0]; simp
  have hv0 : W0.heap[w.heap.size]? = some (.cells #[.slice none 0 0] 321 (0, 0)) := by rw [← hW0]; exact World.alloc_heap_new w _
  have hb0 : Below w.heap.size w W0 := by rw [← hW0]; exact (Below.refl _ w).alloc (Nat.le_refl _) _
  rw [hW0];obtain ⟨W1, hW1⟩ : ∃ W1, (W0.alloc (.deferred (some []))).alloc (.loop (apRec3 fn (.func (.func g) #[] lb) w.heap.size W0.heap.size .ready none)) = W1 := ⟨_, rfl⟩
  have hold : ∀ k, k < W0.heap.size → W1.heap[k]? = W0.heap[k]? := fun k hk => by
    rw [← hW1]; exact (Below.heap_alloc _ _ k (by simp; omega)).trans (Below.heap_alloc _ _ k hk)
  have hb1 : Below w.heap.size w W1 := by rw [← hW1]; exact (hb0.alloc hb0.size _).alloc (by have := hb0.size; simp; omega) _
  have hs1 : W1.heap.size = W0.heap.size + 2 := by rw [← hW1]; simp
  have hM : ApAt3 w fn (.func (.func g) #[] lb) w.heap.size (W0.heap.size + 1) W0.heap.size [] W1 :=
    ⟨⟨_, (hold w.heap.size (by omega)).trans hv0, ⟨rfl, .inl ⟨rfl, rfl⟩⟩, by simp⟩,
     by rw [← hW1]; have := World.alloc_heap_new (W0.alloc (.deferred (some []))) (.loop (apRec3 fn (.func (.func g) #[] lb) w.heap.size W0.heap.size .ready none)); rwa [World.size_alloc] at this,
     by rw [← hW1]; exact (Below.heap_alloc _ _ _ (by simp)).trans (World.alloc_heap_new W0 _), hb1⟩
  refine ⟨W0.heap.size + 1, [{ target := .collected W0.heap.size, args := #[] }], W1, { target := .fn (.func g) lb, args := #[.func (.yield (W0.heap.size + 1)) #[] #[]] }, W1, g,
    #[.func (.yield (W0.heap.size + 1)) #[] #[]] ++ lb, W1, ?_, ?_, ?_, ?_, fun _ => h1, ?_⟩
  · rw [← hW1]; exact run_enterLoop_outer _ _ _ _ _
  · simp [resolve, go_sem]
  · intro f' hf'; simp [Target.leads] at hf'; subst hf'; exact hFg
  · simp [invoke, go_sem, eg]
  · refine (hseq (W0.heap.size + 1) (ApAt3 w fn (.func (.func g) #[] lb) w.heap.size (W0.heap.size + 1) W0.heap.size) W1 hb1 (ap_abides3 _ _ _ _ _ _ _ hb1.size)
      (fun pre x W hJ hl => apYield3 F (n - 1 - 1) w fn hfn _ w.heap.size (W0.heap.size + 1) W0.heap.size (by omega) (by omega) (by omega) (Nat.le_refl _) (by omega) N hN hNb pre x W hJ hl) hM).mono ?_
    rintro e W2 ⟨⟨v0, rfl⟩, ss, hS, h2⟩;obtain ⟨v, hv, hrow, hnil⟩ := h2.box;have hend := run_endLoop (P := Tryz.prog) h2.L (by simp [apRec3]);obtain ⟨W3, hW3⟩ : ∃ W3, W2.putObj (W0.heap.size + 1) (.loop { apRec3 fn (.func (.func g) #[] lb) w.heap.size W0.heap.size .ready none with state := .exhausted }) = W3 := ⟨_, rfl⟩;rw [hW3] at hend;have hg3 : W2.grownBy W3 (some (W0.heap.size + 1)) := by rw [← hW3]; exact grownBy_putObj_a _ _ _
    have hv3 : W3.heap[w.heap.size]? = some (.cells #[v] 321 (0, 0)) := by rw [← hW3]; exact (World.putObj_heap_other (by omega)).trans hv
    have hK3 : W3.heap[W0.heap.size]? = some (.deferred (some [])) := by rw [← hW3]; exact (World.putObj_heap_other (by omega)).trans h2.K
    have hrow3 := hrow.kept hg3 (ownsRow_ne_a hrow h2.L (fun cur e => by cases e));have hb3 : Below w.heap.size w W3 := h2.below.grown hg3 h2.below.size (fun k e => by cases e; omega);obtain ⟨hc3, hf3⟩ := cell_of_box_a hv3;clear hW3;refine ⟨none, W3, hend, ?_⟩
    gi_wp2
    rw [← hs0];refine ⟨by simp, .inl ⟨_, _, rfl, run_takeDeferred hK3, ?_⟩⟩;exact ⟨_, results_tmp rfl _ _ _, v, ss, rfl, hS, hrow3.kept (grownBy_putObj_a _ _ _) (ownsRow_ne_a hrow3 hK3 (fun cur e => by cases e)), hnil, hb3.grown (grownBy_putObj_a _ _ _) hb3.size (fun k e => by cases e; omega)⟩
theorem collect3 (F : Fence) (n : Nat) (h8 : F.fn 357) (h11 : F.fn 423) (hro : F.round = none) (hn : 3 ≤ n) (g : Nat) (lb : Array Value) (hFg : F.fn g) (eg : ∀ args w, (callFunc g args).run Tryz.prog w = .ok (.enter g args) w)
  (S : List L3 → Prop) (N : Nat) (hN : N ≤ maxLen) (hNb : N * 24 ≤ 140737488355328) (w : World) (hseq : SeqGives F (n - 1 - 1) Tryz.prog g lb kv3 S N w) :
  CallsIn F n Tryz.prog 357 #[.func (.func g) #[] lb] w fun e w' => ∃ (v : Value) (ss : List L3), e = .returned v ∧ S ss ∧ w'.ownsRow w.heap.size 303 3 v ss.length (ss.flatMap cs3) ∧ (v = .slice none 0 0 ↔ ss = []) ∧ Below w.heap.size w w' := by
 have h1 : 1 ≤ n := by omega
 refine callsIn_of_wp Tryz.func357 rfl h8 ?_ hro;simp only [Tryz.ntmps357, List.size_toArray, List.length_cons, List.length_nil, Nat.reduceAdd, Nat.reduceSub, Array.replicate_succ, Array.replicate_zero, List.push_toArray, List.append_toArray, List.nil_append, List.cons_append]
 gi_wp2
 refine (appendSeq3 F (n - 1) h11 hro (by omega) g lb hFg eg S N hN hNb _ hseq).mono ?_;rintro e w' ⟨v, ss, rfl, hS, hrow, hnil, hb⟩
 gi_wp2
 go_ret;exact ⟨v, ss, rfl, hS, hrow, hnil, hb⟩
end Go.Ab
end
section
namespace Go.Proofs
open Go.Ab
noncomputable def gah.loop1 (x0 : ByteArray) (s1 : Int × Int) : Option (Fl (Int × Int) (Fl Int (Int × Bool))) :=
 bif (ltI s1.1 (lenS x0)) then (
  need (InB s1.1 (lenS x0)) <|
  need (Under (ltI (idxS x0 s1.1) 48) false (InB s1.1 (lenS x0))) <|
  bif (pickB (ltI (idxS x0 s1.1) 48) true (ltI 57 (idxS x0 s1.1))) then (
   some (.out (.out (0, false)))
  ) else (
    need (InB s1.1 (lenS x0)) <|
    some (.go ((addI .i64 s1.1 1), (addI .i64 (mulI .i64 10 s1.2) (cvtI .i64 (subI .u8 (idxS x0 s1.1) 48)))))
  )
 ) else (
   some (.out (.go s1.2))
 )
noncomputable def gah (x0 : ByteArray) : Option (Int × Bool) :=
 need (Under (ltI 1 (lenS x0)) true (Under (pickB (ltI (lenS x0) 1) true (ltI 10 (lenS x0))) false (InB 0 (lenS x0)))) <|
 bif (pickB (pickB (ltI (lenS x0) 1) true (ltI 10 (lenS x0))) true (pickB (ltI 1 (lenS x0)) (eqI (idxS x0 0) 48) false)) then (
  some (0, false)
 ) else (
   ((loopF (gah.loop1 x0) (0, 0)).bind fun f => flC f fun (v1 : Int) =>
     some (v1, (ltI v1 4294967296))
   )
 )
noncomputable def gam.loop1 (x0 : List ByteArray) (s1 : Int × List Int) : Option (Fl (Int × List Int) (Fl (List Int) (List Int × Bool))) :=
 bif (ltI s1.1 (lenL x0)) then (
  need (InB s1.1 (lenL x0)) <|
  ((gah (nthI x0 s1.1))).bind fun r1 =>
  bif (notB r1.2) then (
   some (.out (.out ([], false)))
  ) else (
    need (AppB (lenL s1.2) 1 8) <|
    some (.go ((addI .i64 s1.1 1), (appL s1.2 [r1.1])))
  )
 ) else (
   some (.out (.go s1.2))
 )
noncomputable def gam (x0 : List ByteArray) : Option (List Int × Bool) :=
 ((loopF (gam.loop1 x0) (0, [])).bind fun f => flC f fun (v1 : List Int) =>
   some (v1, true)
 )
noncomputable def gRef27Plain (x0 : ByteArray) (x1 : List ByteArray) : Option (Td × Bool) :=
 bif (eqS x0 ⟨#[116, 105, 99, 107]⟩) then (
  some ((Td.mk 3 0 0 ⟨#[]⟩ (Ta.mk 0 ⟨#[]⟩ ⟨#[]⟩ 0 0 0 0 false false [])), (eqI (lenL x1) 0))
 ) else (
   bif (neI (lenL x1) 2) then (
    some ((Td.mk 0 0 0 ⟨#[]⟩ (Ta.mk 0 ⟨#[]⟩ ⟨#[]⟩ 0 0 0 0 false false [])), false)
   ) else (
     need (InB 0 (lenL x1)) <|
     ((gah (nthI x1 0))).bind fun r1 =>
     bif (eqS x0 ⟨#[99, 114, 101, 100, 105, 116]⟩) then (
      need (InB 1 (lenL x1)) <|
      ((gah (nthI x1 1))).bind fun r2 =>
      some ((Td.mk 4 r1.1 r2.1 ⟨#[]⟩ (Ta.mk 0 ⟨#[]⟩ ⟨#[]⟩ 0 0 0 0 false false [])), (pickB r1.2 r2.2 false))
     ) else (
       need (InB 1 (lenL x1)) <|
       ((gas (nthI x1 1))).bind fun r3 =>
       some ((Td.mk 1 r1.1 0 r3.1 (Ta.mk 0 ⟨#[]⟩ ⟨#[]⟩ 0 0 0 0 false false [])), (pickB r1.2 r3.2 false))
     )
   )
 )
noncomputable def gak.loop1 (r1 : List Int × Bool) (s1 : Int × List Int) : Option (Fl (Int × List Int) (Fl (List Int) (Ta × Bool))) :=
 bif (ltI s1.1 (lenL (cutL r1.1 2 (lenL r1.1)))) then (
  need (InB s1.1 (lenL (cutL r1.1 2 (lenL r1.1)))) <|
  need (AppB (lenL s1.2) 1 4) <|
  some (.go ((addI .i64 s1.1 1), (appL s1.2 [(cvtI .u32 (nthI (cutL r1.1 2 (lenL r1.1)) s1.1))])))
 ) else (
   some (.out (.go s1.2))
 )
noncomputable def gak (x0 : Bool) (x1 : List ByteArray) : Option (Ta × Bool) :=
 ((gam x1)).bind fun r1 =>
 bif (pickB (notB r1.2) true (ltI (lenL r1.1) 3)) then (
  some ((Ta.mk 0 ⟨#[]⟩ ⟨#[]⟩ 0 0 0 0 false false []), false)
 ) else (
   need (InB 0 (lenL r1.1)) <|
   need (InB 1 (lenL r1.1)) <|
   need (CutB 2 (lenL r1.1) (lenL r1.1)) <|
   ((loopF (gak.loop1 r1) (0, [])).bind fun f => flC f fun (v1 : List Int) =>
     some ((Ta.mk 3 ⟨#[]⟩ ⟨#[]⟩ (nthI r1.1 0) 0 (nthI r1.1 1) 0 false x0 v1), true)
   )
 )
noncomputable def gau (x0 : Int) (x1 : List ByteArray) : Option (Ta × Bool) :=
 bif (eqI (lenL x1) 0) then (
  some ((Ta.mk 0 ⟨#[]⟩ ⟨#[]⟩ 0 0 0 0 false false []), false)
 ) else (
   need (InB (subI .i64 (lenL x1) 1) (lenL x1)) <|
   need (CutB 0 (subI .i64 (lenL x1) 1) (lenL x1)) <|
   ((gam (cutL x1 0 (subI .i64 (lenL x1) 1)))).bind fun r1 =>
   bif (pickB (notB r1.2) true (pickB (neS (nthI x1 (subI .i64 (lenL x1) 1)) ⟨#[111, 110]⟩) (neS (nthI x1 (subI .i64 (lenL x1) 1)) ⟨#[111, 102, 102]⟩) false)) then (
    some ((Ta.mk 0 ⟨#[]⟩ ⟨#[]⟩ 0 0 0 0 false false []), false)
   ) else (
     bif (pickB (eqI x0 7) (eqI (lenL r1.1) 2) false) then (
      need (InB 0 (lenL r1.1)) <|
      need (InB 1 (lenL r1.1)) <|
      some ((Ta.mk 7 ⟨#[]⟩ ⟨#[]⟩ (nthI r1.1 0) 0 (nthI r1.1 1) 0 (eqS (nthI x1 (subI .i64 (lenL x1) 1)) ⟨#[111, 110]⟩) false []), true)
     ) else (
       bif (pickB (eqI x0 8) (eqI (lenL r1.1) 3) false) then (
        need (InB 0 (lenL r1.1)) <|
        need (InB 1 (lenL r1.1)) <|
        need (InB 2 (lenL r1.1)) <|
        some ((Ta.mk 8 ⟨#[]⟩ ⟨#[]⟩ (nthI r1.1 0) (nthI r1.1 1) (nthI r1.1 2) 0 (eqS (nthI x1 (subI .i64 (lenL x1) 1)) ⟨#[111, 110]⟩) false []), true)
       ) else (
         some ((Ta.mk 0 ⟨#[]⟩ ⟨#[]⟩ 0 0 0 0 false false []), false)
       )
     )
   )
 )
noncomputable def gRef27Command (x0 : ByteArray) (x1 : List ByteArray) : Option (Ta × Bool) :=
 bif (eqS x0 ⟨#[106, 111, 105, 110]⟩) then (
  bif (neI (lenL x1) 2) then (
   some ((Ta.mk 0 ⟨#[]⟩ ⟨#[]⟩ 0 0 0 0 false false []), false)
  ) else (
    need (InB 0 (lenL x1)) <|
    need (InB 1 (lenL x1)) <|
    some ((Ta.mk 1 (nthI x1 0) (nthI x1 1) 0 0 0 0 false false []), true)
  )
 ) else (
   bif (eqS x0 ⟨#[118, 105, 100, 101, 111]⟩) then (
    ((gak true x1)).bind fun r1 =>
    some (r1.1, r1.2)
   ) else (
     bif (eqS x0 ⟨#[97, 117, 100, 105, 111]⟩) then (
      ((gak false x1)).bind fun r2 =>
      some (r2.1, r2.2)
     ) else (
       bif (eqS x0 ⟨#[109, 117, 116, 101]⟩) then (
        ((gau 7 x1)).bind fun r3 =>
        some (r3.1, r3.2)
       ) else (
         bif (eqS x0 ⟨#[112, 97, 117, 115, 101]⟩) then (
          ((gau 8 x1)).bind fun r4 =>
          some (r4.1, r4.2)
         ) else (
           ((gam x1)).bind fun r5 =>
           bif (notB r5.2) then (
            some ((Ta.mk 0 ⟨#[]⟩ ⟨#[]⟩ 0 0 0 0 false false []), false)
           ) else (
             bif (pickB (eqS x0 ⟨#[108, 101, 97, 118, 101]⟩) (eqI (lenL r5.1) 1) false) then (
              need (InB 0 (lenL r5.1)) <|
              some ((Ta.mk 2 ⟨#[]⟩ ⟨#[]⟩ (nthI r5.1 0) 0 0 0 false false []), true)
             ) else (
               bif (pickB (eqS x0 ⟨#[117, 110, 112, 117, 98, 108, 105, 115, 104]⟩) (eqI (lenL r5.1) 2) false) then (
                need (InB 0 (lenL r5.1)) <|
                need (InB 1 (lenL r5.1)) <|
                some ((Ta.mk 4 ⟨#[]⟩ ⟨#[]⟩ (nthI r5.1 0) 0 (nthI r5.1 1) 0 false false []), true)
               ) else (
                 bif (pickB (eqS x0 ⟨#[115, 117, 98, 115, 99, 114, 105, 98, 101]⟩) (eqI (lenL r5.1) 4) false) then (
                  need (InB 0 (lenL r5.1)) <|
                  need (InB 1 (lenL r5.1)) <|
                  need (InB 2 (lenL r5.1)) <|
                  need (InB 3 (lenL r5.1)) <|
                  some ((Ta.mk 5 ⟨#[]⟩ ⟨#[]⟩ (nthI r5.1 0) (nthI r5.1 1) (nthI r5.1 2) (nthI r5.1 3) false false []), true)
                 ) else (
                   bif (pickB (eqS x0 ⟨#[117, 110, 115, 117, 98, 115, 99, 114, 105, 98, 101]⟩) (eqI (lenL r5.1) 3) false) then (
                    need (InB 0 (lenL r5.1)) <|
                    need (InB 1 (lenL r5.1)) <|
                    need (InB 2 (lenL r5.1)) <|
                    some ((Ta.mk 6 ⟨#[]⟩ ⟨#[]⟩ (nthI r5.1 0) (nthI r5.1 1) (nthI r5.1 2) 0 false false []), true)
                   ) else (
                     some ((Ta.mk 0 ⟨#[]⟩ ⟨#[]⟩ 0 0 0 0 false false []), false)
                   )
                 )
               )
             )
           )
         )
       )
     )
   )
 )
noncomputable def gat.loop1 (x0 : ByteArray) (s1 : Int) : Option (Fl Int (Fl Unit Bool)) :=
 bif (ltI s1 12) then (
  need (InB s1 12) <|
  bif (eqS (nthI [⟨#[97, 117, 100, 105, 111]⟩, ⟨#[99, 114, 101, 100, 105, 116]⟩, ⟨#[100, 97, 116, 97]⟩, ⟨#[106, 111, 105, 110]⟩, ⟨#[108, 101, 97, 118, 101]⟩, ⟨#[109, 117, 116, 101]⟩, ⟨#[112, 97, 117, 115, 101]⟩, ⟨#[115, 117, 98, 115, 99, 114, 105, 98, 101]⟩, ⟨#[116, 105, 99, 107]⟩, ⟨#[117, 110, 112, 117, 98, 108, 105, 115, 104]⟩, ⟨#[117, 110, 115, 117, 98, 115, 99, 114, 105, 98, 101]⟩, ⟨#[118, 105, 100, 101, 111]⟩] s1) x0) then (
   some (.out (.out true))
  ) else (
    some (.go (addI .i64 s1 1))
  )
 ) else (
   some (.out (.go ()))
 )
noncomputable def gat (x0 : ByteArray) : Option Bool :=
 ((loopF (gat.loop1 x0) 0).bind fun f => flC f fun (_v1 : Unit) =>
   some false
 )
end Go.Proofs
end
