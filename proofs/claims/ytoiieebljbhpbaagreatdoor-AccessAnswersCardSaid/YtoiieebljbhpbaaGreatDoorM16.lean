/- The library's iterators over a map's keys that are strings, as contracts on abstract values: over any program that bears the library's bodies. No condition. -/
import Derived.Test.YtoiieebljbhpbaaGreatDoorKl
import Derived.Shelf.SlIter.Nil
import Derived.Test.YtoiieebljbhpbaaGreatDoorTs
import Derived.Test.YtoiieebljbhpbaaGreatDoorM03
import Derived.Test.YtoiieebljbhpbaaGreatDoorM18
import Derived.Test.YtoiieebljbhpbaaGreatDoorM02
import Derived.Test.YtoiieebljbhpbaaGreatDoorM08
import Derived.Lib.UnsafeStr
import Derived.Test.YtoiieebljbhpbaaGreatDoorTy
import Derived.Test.YtoiieebljbhpbaaGreatDoorM15
import Derived.Test.YtoiieebljbhpbaaGreatDoorGl
section
namespace Go.Ab
open Go.Proofs Go.Shelf Go.Sort Go.Maps

def keysVS (es : List (AV × AV)) : List ByteArray := es.map fun e => dkS e.1
def StrKeys (es : List (AV × AV)) : Prop := ∀ e ∈ es, e.1 = kS (dkS e.1)
@[simp] theorem keysVS_encM {V : Type} (vE : V → AV) (m : List (ByteArray × V)) : keysVS (encM kS vE m) = keysM m := by
  simp only [keysVS, encM, keysM, List.map_map]
  exact List.map_congr_left fun e _ => rfl
@[simp] theorem strKeys_encM {V : Type} (vE : V → AV) (m : List (ByteArray × V)) : StrKeys (encM kS vE m) ↔ True :=
  ⟨fun _ => trivial, fun _ e he => by obtain ⟨p, _, rfl⟩ := List.mem_map.1 he; rfl⟩
@[simp] theorem keysVS_nil : keysVS [] = [] := rfl
def KeysBS (l : List ByteArray) : Prop := (∀ x ∈ l, x.size ≤ maxLen) ∧ l.length * 16 ≤ 140737488355328
def kbytesOf (x : ByteArray) : List UInt8 := x.data.toList
def kofBytes (x : List UInt8) : ByteArray := ⟨x.toArray⟩
def sortS (l : List ByteArray) : List ByteArray := ((l.map kbytesOf).mergeSort fun x y => decide (x ≤ y)).map kofBytes
theorem R.ownsRowG {α : Type} (f : α → Value) (hf : ∀ a, (f a).oneCell' = true) {g : G} {w' : World} (sm : Sim g) {e : TypeId} {v : Value} {l : List α} (h : w'.ownsRow g.w.heap.size e 1 v l.length (l.map f)) :
  R { g with w := w' } (.sl (l.map fun a => [.lit (f a)]) .no) v := by
 rcases h.2 with ⟨rfl, hz⟩ | ⟨gb, cap, cur, rfl, hbase, hgb, hcap, _, hsz, htake⟩
 ·have : l = [] := List.eq_nil_of_length_eq_zero hz
  subst this
  exact .nil _ trivial
 ·have hlen : (l.map fun a => [AV.lit (f a)]).length = l.length := by simp
  have q : R { g with w := w' } (.sl (l.map fun a => [.lit (f a)]) .no) (.slice (some ⟨gb, 0, none⟩) (l.map fun a => [AV.lit (f a)]).length cap) := by
   have hcur : ∀ i (hi : i < l.length), cur[i]? = some (f l[i]) := fun i hi => by
    have : (cur.toList.take (l.length * 1))[i]? = some (f l[i]) := by
     rw [htake, List.getElem?_map]
     simp [hi]
    rw [List.getElem?_take_of_lt (by omega)] at this
    simpa using this
   refine .sl _ .no gb 0 1 cap (fun i _ => ((l[i]?).map f).getD undef) (fun i hi => by simp) (fun i j hi hj => ?_) (fun i j hi hj hr => ?_) (fun i j hi hj => ?_) (fun i j hi hj => ?_) trivial (by omega)
   ·have hj0 : j = 0 := by omega
    subst hj0
    have hi' : i < l.length := by omega
    have := hcur i hi'
    simp only [World.cell?, hgb, Nat.zero_add, Nat.mul_one, Nat.add_zero]
    rw [List.getElem?_eq_getElem hi']
    simpa using this
   ·have := sm.inb _ hr
    simp only at this
    omega
   ·have hj0 : j = 0 := by simp at hj; omega
    subst hj0
    have hi' : i < l.length := by omega
    simp only [List.getElem_map, List.getElem_cons_zero]
    rw [List.getElem?_eq_getElem hi']
    exact .lit _
   ·have hi' : i < l.length := by omega
    rw [List.getElem?_eq_getElem hi']
    exact hf _
  rw [hlen] at q; exact q

theorem ownsS_of {g : G} (sm : Sim g) {i : Nat} {es : List (AV × AV)} (hM : g.M[i]? = some (.mapo es)) (hk : StrKeys es) (hb : KeysBS (keysVS es)) {P : Program} {k : TypeId} (hkt : P.underlying k = some .string) :
  ∃ (D0 : DataW Unit) (R0 : Value → Option (DataW Unit × List MemPlace)), g.w.ownsMap P k R0 (g.β i) es.length D0 ∧ (strKeys D0).Perm ((keysVS es).map kbytesOf) ∧ Maps.size D0 = es.length := by
 obtain ⟨ents, clock, hh, hst, he⟩ := map_at sm hM
 have hlen := he.len
 simp only [Array.length_toList] at hlen
 have hkey : ∀ (es : List (AV × AV)) (l : List MapEntry), EntR g es l → StrKeys es → l.map (·.key) = (keysVS es).map .string := by
  intro es l h
  induction h with
  | nil => intro _; rfl
  | @cons a v es e l hk hv r ih =>
    intro q
    have h1 := q (a, v) (.head _)
    simp only at h1
    rw [h1] at hk
    have h2 : e.key = .string (dkS a) := hk.lit_inv
    simp only [List.map_cons, keysVS, h2]
    rw [ih fun e he => q e (.tail _ he)]; rfl
 have hks := hkey es ents.toList he hk
 have hread : ∀ x ∈ ents.toList, ∃ n : ByteArray, x.key = .string n ∧ n ∈ keysVS es := fun x hx => by
  have : x.key ∈ ents.toList.map (·.key) := List.mem_map.2 ⟨x, hx, rfl⟩
  rw [hks] at this
  obtain ⟨n, hn, e⟩ := List.mem_map.1 this
  exact ⟨n, e.symm, hn⟩
 let R0 : Value → Option (DataW Unit × List MemPlace) := fun _ => some (.nil, [])
 have hrd : ∀ x ∈ ents.toList, ∃ n : ByteArray, x.key = .string n ∧ WideElems.rd P k R0 x = some (.string (kbytesOf n), .nil) := fun x hx => by
  obtain ⟨n, hn, hmem⟩ := hread x hx
  refine ⟨n, hn, ?_⟩
  have hsz := hb.1 n hmem
  simp only [WideElems.rd, hn, R0, Option.map_some]
  have : keyOf P k (.string n) = some (.string (kbytesOf n)) := by
   simp [keyOf, hkt, mapKey, kbytesOf]
   exact hsz
  rw [this]
  rfl
 refine ⟨.map ((ents.toList.map (WideElems.rg P k R0)).foldr DataW.insert []), R0, ⟨ents, clock, hh, ⟨?_, hst, fun x hx => ?_⟩, by omega, rfl⟩, ?_, ?_⟩
 ·have := hb.2
  simp only [keysVS, List.length_map] at this
  simp only [maxLen]; omega
 ·obtain ⟨n, _, h⟩ := hrd x hx
  exact ⟨_, h⟩
 ·show (((ents.toList.map (WideElems.rg P k R0)).foldr DataW.insert []).map fun p => strOf p.1).Perm _
  refine ((WideShapes.sorted_perm _).map _).trans ?_
  rw [List.map_map]
  have : ents.toList.map ((fun p => strOf p.1) ∘ WideElems.rg P k R0) = (keysVS es).map kbytesOf := by
   have h2 : (ents.toList.map (·.key)).map (fun v => match v with | .string n => kbytesOf n | _ => []) = (keysVS es).map kbytesOf := by
    rw [hks, List.map_map]
    exact List.map_congr_left fun n _ => rfl
   rw [← h2, List.map_map]
   refine List.map_congr_left fun x hx => ?_
   obtain ⟨n, h3, h4⟩ := hrd x hx
   simp only [Function.comp, WideElems.rg, h4, Option.getD_some, strOf, h3]
  rw [this]
 ·rw [Maps.size_eq, Go.length_read]; omega

theorem keysS_okZ {P : Program} {ρ : Ren} (L : SlLaysZ.n7 P ρ) {f k : Nat} (hf : ρ.f 7 = f) (hk : ρ.f 10 = k) (hent : ∀ args w, (callFunc f args).run P w = .ok (.enter f args) w) : SpecOk P f (keysS k) := by
 subst hf; subst hk
 intro l M out h
 unfold keysS at h
 split at h
 ·rename_i i
  have h : some ({ av := .fn (ρ.f 10) [.mp i] } : Out) = some out := by
   split at h
   ·exact h
   ·exact h
   ·cases h
  ·cases h
   intro g vs hM sm hr _
   cases hr with | cons hv hr => cases hr with | nil =>
   cases hv with
   | mp _ hi =>
   refine ⟨hent _ _, ?_⟩
   refine ((callsIn_wide (n := 5)).1 (AnyZ.keys_in L Fence.wide 5 trivial rfl _ _)).mono fun e w' => ?_
   rintro ⟨rfl, rfl⟩
   have hw : (g.w.alloc (.cells #[.map (some (g.β i))] (ρ.t 23))).heap = g.w.heap.push (.cells #[.map (some (g.β i))] (ρ.t 23)) := rfl
   refine ⟨_, rfl, g.β, g.ρ, ?_, ?_, ?_⟩
   ·simp only [G.out, Option.getD_none]
    exact sim_push hw sm
   ·simp only [G.out, Option.getD_none]
    have q : R { g with w := g.w.alloc (.cells #[.map (some (g.β i))] (ρ.t 23)) } (.fn (ρ.f 10) [.mp i]) (.func (.func (ρ.f 10)) #[] ((List.range [AV.mp i].length).map fun j => Value.pointer (some ⟨(fun _ => g.w.heap.size) j, 0, none⟩)).toArray) := by
     refine .fn (ρ.f 10) [.mp i] (fun _ => g.w.heap.size) (fun _ => .map (some (g.β i))) (fun j hj => ?_) (fun j hj hreg => ?_) (fun j hj => ?_)
     ·simp [World.cell?, hw]
     ·have := sm.inb _ hreg
      simp at this
     ·have hj0 : j = 0 := by simp at hj; omega
      subst hj0
      exact .mp (g := { g with w := g.w.alloc (.cells #[.map (some (g.β i))] (ρ.t 23)) }) i hi
    exact q
   ·simp only [G.out, Option.getD_none]
    exact keep_push hw
 ·cases h
@[simp] def sortedSS (k : Nat) : Sp
  | [.fn k' [.mp i]], M => if k' = k then (match M[i]? with
    | some (.mapo es) => some { av := .sl ((sortS (keysVS es)).map eTxt) .no, obl := StrKeys es ∧ KeysBS (keysVS es) }
    | _ => none) else none
  | _, _ => none

theorem sortedS_ok {P : Program} {ρ ρ' : Ren} (L : SlLaysZ.n6 P ρ) (L' : SlLaysZ.n10 P ρ') {f k : Nat} (hf : ρ.f 6 = f) (hk : ρ'.f 10 = k) (hent : ∀ args w, (callFunc f args).run P w = .ok (.enter f args) w)
  (hsort : ∀ m, AnyZ.SortsIn P ρ Fence.wide m) (e9 : ∀ args w, (callFunc (ρ.f 9) args).run P w = .ok (.enter (ρ.f 9) args) w) (eg : ∀ args w, (callFunc k args).run P w = .ok (.enter k args) w) : SpecOk P f (sortedSS k) := by
 subst hf; subst hk
 intro l M out h
 unfold sortedSS at h
 split at h
 ·rename_i k' i
  split at h
  ·rename_i hkk
   subst hkk
   split at h
   ·rename_i es hMi
    cases h
    intro g vs hM sm hr ho
    subst hM
    cases hr with | cons hv hr => cases hr with | nil =>
    obtain ⟨b, rfl, hcell, hi⟩ := fn_inv hv
    refine ⟨hent _ _, ?_⟩
    obtain ⟨D0, R0, hown, hperm, hsize⟩ := ownsS_of sm hMi ho.1 ho.2 (P := P) (k := ρ'.t 26) L'.t26
    have hseq : SeqGives Fence.wide 2 P (ρ'.f 10) #[.pointer (some ⟨b, 0, none⟩)] encStr (fun ss => ss.Perm (strKeys D0)) (Maps.size D0) g.w :=
     AnyZ.keys_gives L' Fence.wide 2 trivial rfl (by omega) b (g.β i) es.length D0 g.w (cell_lt hcell) hcell hown
    have hbd := ho.2.2
    simp only [keysVS, List.length_map] at hbd
    have cS := AnyZ.sorted_in L Fence.wide 5 trivial trivial trivial trivial rfl (by omega) (hsort _) e9 (ρ'.f 10) #[.pointer (some ⟨b, 0, none⟩)] trivial eg _ _ (by rw [hsize]; simp only [maxLen]; omega) (by rw [hsize]; exact hbd) g.w hseq
    refine ((callsIn_wide (n := 5)).1 cS).mono fun e w' => ?_
    rintro ⟨v, ss, rfl, hS, hrow, _, hbel⟩
    have hss : ss.mergeSort (fun x y => decide (x ≤ y)) = ((keysVS es).map kbytesOf).mergeSort (fun x y => decide (x ≤ y)) := mergeSort_of_perm (hS.trans hperm)
    rw [hss] at hrow
    have hl : ss.length = (((keysVS es).map kbytesOf).mergeSort (fun x y => decide (x ≤ y))).length := by rw [← hss]; simp
    rw [hl] at hrow
    refine ⟨_, rfl, g.β, g.ρ, ?_, ?_, ?_⟩
    ·simp only [G.out, Option.getD_none]; exact sim_below hbel sm
    ·simp only [G.out, Option.getD_none]
     have q := R.ownsRowG encStr (fun _ => rfl) sm hrow
     have e : (sortS (keysVS es)).map eTxt = (((keysVS es).map kbytesOf).mergeSort (fun x y => decide (x ≤ y))).map fun a => [AV.lit (encStr a)] := by
      unfold sortS
      rw [List.map_map]; rfl
     rw [e]; exact q
    ·simp only [G.out, Option.getD_none]; exact keep_below hbel
   ·cases h
  ·cases h
 ·cases h
end Go.Ab
end
section
namespace Go.Ab
def leLk (x y : Tb) : Bool := decide (x.fu < y.fu ∨ (x.fu = y.fu ∧ (x.fOf.fd < y.fOf.fd ∨ (x.fOf.fd = y.fOf.fd ∧ x.fOf.fh ≤ y.fOf.fh))))
def sortLk (l : List Tb) : List Tb := l.mergeSort leLk
def Keys3B {α : Type} (l : List α) : Prop := l.length * 24 ≤ 140737488355328
end Go.Ab
end
section

end
section
namespace Go.Proofs
open Go.Ab
noncomputable def gv (x0 : ByteArray) (x1 : ByteArray) : Option Bool :=
 need (Under (leqI (lenS x1) (lenS x0)) true (CutB 0 (lenS x1) (lenS x0))) <|
 some (pickB (leqI (lenS x1) (lenS x0)) (eqS (cutS x0 0 (lenS x1)) x1) false)

noncomputable def gT (x0 : ByteArray) (x1 : ByteArray) : Option Bool :=
 ((gv x0 x1)).bind fun r1 =>
 some r1

noncomputable def gad (x0 : Int) : Option Int :=
 bif (pickB (pickB (eqI x0 45) true (eqI x0 95)) true (eqI x0 46)) then (
  some 3
 ) else (
   need (I32B x0) <|
   bif (letterR x0) then (
    some 1
   ) else (
     need (I32B x0) <|
     bif (digitR x0) then (
      some 2
     ) else (
       some 0
     )
   )
 )

noncomputable def gC.loop1 (x0 : ByteArray) (s1 : Int × Int × Nat) : Option (Fl (Int × Int × Nat) (Fl (Int × Int) Int)) :=
 bif (nextB x0 s1.2.2) then (
  ((gad (runeS x0 s1.2.2))).bind fun r1 =>
  need (Under (eqI (runeS x0 s1.2.2) 65533) true (Under (pickB (eqI r1 0) true (pickB (eqI r1 3) (eqI s1.2.1 3) false)) false (CutB (posI s1.2.2) (lenS x0) (lenS x0)))) <|
  need (Under (eqI (runeS x0 s1.2.2) 65533) true (Under (pickB (eqI r1 0) true (pickB (eqI r1 3) (eqI s1.2.1 3) false)) false ((gT (cutS x0 (posI s1.2.2) (lenS x0)) ⟨#[239, 191, 189]⟩).isSome = true))) <|
  bif (pickB (pickB (eqI r1 0) true (pickB (eqI r1 3) (eqI s1.2.1 3) false)) true (pickB (eqI (runeS x0 s1.2.2) 65533) (notB ((gT (cutS x0 (posI s1.2.2) (lenS x0)) ⟨#[239, 191, 189]⟩).getD dflt)) false)) then (
   some (.out (.out 6))
  ) else (
    some (.go ((addI .i64 s1.1 1), r1, (stepS x0 s1.2.2)))
  )
 ) else (
   some (.out (.go (s1.1, s1.2.1)))
 )

noncomputable def gC (x0 : ByteArray) : Option Int :=
 bif (pickB (eqS x0 ⟨#[]⟩) true (ltI 64 (lenS x0))) then (
  some 6
 ) else (
   ((loopF (gC.loop1 x0) (0, 3, 0)).bind fun f => flC f fun (v1 : Int × Int) =>
     bif (pickB (ltI 16 v1.1) true (eqI v1.2 3)) then (
      some 6
     ) else (
       some 0
     )
   )
 )

noncomputable def gQ.loop1 (x0 : ByteArray) (s1 : List Int × Nat) : Option (Fl (List Int × Nat) (Fl (List Int) ByteArray)) :=
 bif (nextB x0 s1.2) then (
  need (I32B (lowerR (runeS x0 s1.2))) <|
  need (AppB (lenL s1.1) 4 1) <|
  some (.go ((appL s1.1 (runeZ (lowerR (runeS x0 s1.2)))), (stepS x0 s1.2)))
 ) else (
   some (.out (.go s1.1))
 )

noncomputable def gQ (x0 : ByteArray) : Option ByteArray :=
 ((loopF (gQ.loop1 x0) ([], 0)).bind fun f => flC f fun (v1 : List Int) =>
   need (TextB v1) <|
   some (strOfNums v1)
 )

noncomputable def gW (x0 : ByteArray) (x1 : ByteArray) : Option Bool :=
 ((gQ x0)).bind fun r1 =>
 ((gQ x1)).bind fun r2 =>
 some (eqS r1 r2)
end Go.Proofs
end
section

end
section
namespace Go.Proofs
open Go.Ab
def gal (x0 : Th) (x1 : Int) : Option Int :=
 some (x0.ff.foldr (fun e n => bif eqI e.1.fu x1 then addI .i64 n 1 else n) 0)
end Go.Proofs
end
section
namespace Go.Proofs
open Go.Ab
noncomputable def gH (x0 : Th) (x1 : Int) : Option Int :=
 ((gal x0 x1)).bind fun r1 =>
 some r1
end Go.Proofs
end
section
set_option maxRecDepth 100000
namespace Go.Proofs
open Go.Ab Go.Sort Go.Lib
def toL3 (x : Tb) : L3 := (x.fu, x.fOf.fd, x.fOf.fh)
theorem c3_toL3 (x : Tb) : c3 (toL3 x) = x.enc := rfl
theorem keys3_encM (m : List (Tb × Tg)) : keys3 (encM (vA Tb.enc) (vA Tg.enc) m) = (keysM m).map toL3 := by
 simp only [keys3, encM, keysM, List.map_map]
 exact List.map_congr_left fun e _ => rfl
theorem le3_toL3 (x y : Tb) : leLk x y = le3 (toL3 x) (toL3 y) := by
 refine Bool.eq_iff_iff.2 ?_
 rw [le3, lt3]
 constructor
 ·intro h
  have h := of_decide_eq_true h
  rw [Bool.not_eq_true']
  refine decide_eq_false ?_
  simp only [toL3]
  omega
 ·intro h
  refine decide_eq_true ?_
  rw [Bool.not_eq_true'] at h
  have h := of_decide_eq_false h
  simp only [toL3] at h
  omega
theorem srt3_toL3 (l : List Tb) : srt3 (l.map toL3) = (sortLk l).map toL3 :=
 (List.map_mergeSort (fun a _ b _ => le3_toL3 a b)).symm
@[simp] noncomputable def sortedLT (k c : Nat) : Sp
  | [.fn k' [.mp i], .lit v], M => (rdE M i).bind fun es => some { av := .sl ((sortLk (keysM (decM (dvA Tb.dec) (dvA Tg.dec) es))).map Tb.enc) .no, obl := k' = k ∧ v = .func (.func c) #[] #[] ∧ es = encM (vA Tb.enc) (vA Tg.enc) (decM (dvA Tb.dec) (dvA Tg.dec) es) ∧ Keys3B (keysM (decM (dvA Tb.dec) (dvA Tg.dec) es)) }
  | _, _ => none
theorem libKeys.gMapsKeysMapAccessLinkAccessSubAccessLinkAccessSub.ok : SpecOk Tryz.prog 43 (keysLS 93) := keysL_ok
theorem libSorted.gSlicesSortedFuncAccessLink.ok : SpecOk Tryz.prog 42 (sortedLT 93 44) := by
 intro l M out h
 unfold sortedLT at h
 split at h
 ·rename_i k' i v
  obtain ⟨es, hM, h⟩ := bE h
  cases h
  intro g vs hM' sm hr ho
  obtain ⟨rfl, rfl, he, hb⟩ := ho
  generalize decM (dvA Tb.dec) (dvA Tg.dec) es = m at *
  subst he
  have hk : Keys3 (encM (vA Tb.enc) (vA Tg.enc) m) := fun e he => by
   obtain ⟨q, _, rfl⟩ := List.mem_map.1 he
   rfl
  have hz : Keys3Z (keys3 (encM (vA Tb.enc) (vA Tg.enc) m)) := by
   rw [keys3_encM]; simpa [Keys3Z, Keys3B] using hb
  have q := sortedL_ok [.fn 93 [.mp i], .lit (.func (.func 44) #[] #[])] M { av := .sl ((srt3 (keys3 (encM (vA Tb.enc) (vA Tg.enc) m))).map c3) .no, obl := Keys3 (encM (vA Tb.enc) (vA Tg.enc) m) ∧ Keys3Z (keys3 (encM (vA Tb.enc) (vA Tg.enc) m)) ∧ 93 = 93 ∧ Value.func (.func 44) #[] #[] = Value.func (.func 44) #[] #[] } (by simp only [sortedLS, hM]) g vs hM' sm hr ⟨hk, hz, rfl, rfl⟩
  have e : (srt3 (keys3 (encM (vA Tb.enc) (vA Tg.enc) m))).map c3 = (sortLk (keysM m)).map Tb.enc := by
   rw [keys3_encM, srt3_toL3, List.map_map]
   exact List.map_congr_left fun x _ => c3_toL3 x
  rw [e] at q
  exact q
 ·cases h
end Go.Proofs
end
section
namespace Go.Proofs
end Go.Proofs
namespace Go.Ab
open Go.Proofs

@[simp] theorem bel_opq (m : Nat) (φ : Opq) : (AObj.opq φ).bel m ↔ True := Iff.rfl
@[simp] theorem wrO_bs (T E : TypeId) (bs : List Int) : (wrO T E bs).bs = bs := rfl
@[simp] def wrTextS (T E : TypeId) : Sp
  | [.ptr i 0], M => match M[i]? with
    | some (.opq φ) => some { av := .lit (.string (strOfNums φ.bs)), M := some (M.set i (.opq wrX)), obl := φ = wrO T E φ.bs ∧ TextB φ.bs }
    | _ => none
  | _, _ => none

theorem bytes_of {bs : List Int} (h : ∀ x ∈ bs, 0 ≤ x ∧ x < 256) : bs.map (Value.int .u8) = Lib.byteCells (bs.map fun n => n.toNat.toUInt8) := by
 simp only [Lib.byteCells, List.map_map]
 refine List.map_congr_left fun x hx => ?_
 obtain ⟨h1, h2⟩ := h x hx
 simp only [Function.comp, Nat.toUInt8, UInt8.toNat_ofNat']
 congr 1
 omega

theorem textW_ok {P : Program} {f : FuncId} {T E : TypeId} (hent : ∀ args w, (callFunc f args).run P w = .ok (.enter f args) w)
  (hS : ∀ (b g cap : Nat) (w : World) (p : Value) (l : List UInt8) (cur : Array Value), w.heap[b]? = some (.cells #[p, .slice (some ⟨g, 0, none⟩) l.length cap] T (0, 0)) → w.heap[g]? = some (.cells cur E (0, 0)) →
   l.length ≤ cap → cap ≤ maxLen → cur.size = cap → cur.toList.take l.length = Lib.byteCells l → l ≠ [] →
   Calls P f #[.pointer (some ⟨b, 0, none⟩)] w fun e w' => e = .returned (.string ⟨l.toArray⟩) ∧ WrKeep b (some g) w w' ∧ w'.heap.size = w.heap.size) : SpecOk P f (wrTextS T E) := by
 intro l M out h
 unfold wrTextS at h
 split at h
 ·rename_i i
  split at h
  ·rename_i φ hMi
   cases h
   intro g vs hM sm hr ho
   subst hM
   obtain ⟨hφ, hne, hbb⟩ := ho
   cases hr with | cons hv hr => cases hr with | nil =>
   cases hv with
   | ptr _ _ hi =>
   refine ⟨hent _ _, ?_⟩
   have hq := sm.opq i φ hMi
   rw [hφ] at hq
   obtain ⟨p, v, h1, h2, h3⟩ := hq
   rcases h3 with ⟨_, h, _⟩ | ⟨cap, cur, rfl, h4, h5, h6, h7, h8, h9⟩
   ·exact absurd h hne
   generalize hl : φ.bs.map (fun n => n.toNat.toUInt8) = ls
   have hll : ls.length = φ.bs.length := by rw [← hl]; simp
   have hb : φ.bs.map (Value.int .u8) = Lib.byteCells ls := by rw [← hl]; exact bytes_of hbb
   have hstr : (⟨ls.toArray⟩ : ByteArray) = strOfNums φ.bs := by
    rw [← hl]; rfl
   simp only [wrO] at h1 h5 h6 h9
   refine (hS (g.β i) (g.ρ i).b cap g.w p ls cur (by rw [hll]; exact h1) h5 (by omega) h7 h8 (by rw [hll, ← hb]; exact h9) (fun e => hne (List.eq_nil_of_length_eq_zero (by rw [← hll, e]; rfl)))).mono ?_
   rintro e w' ⟨rfl, k1, k2⟩
   obtain ⟨kk, ss⟩ := opq_turn sm hMi (φ' := wrX) (w' := w') (rb := (g.ρ i).b) k1.size ⟨k1.os, k1.output⟩ (fun k q1 q2 q3 => k1.block k q1 q2 (by simpa using q3)) (.inl rfl) trivial
   refine ⟨_, rfl, g.β, _, ss, ?_, kk⟩
   rw [hstr]
   exact .lit _
  ·cases h
 ·cases h
end Go.Ab
end
section
namespace Go.Proofs
open Go.Ab
end Go.Proofs
end
section
namespace Go.Proofs
open Go.Ab
end Go.Proofs
end
section
namespace Go.Ab

def ofB (l : List UInt8) : ByteArray := ⟨l.toArray⟩
theorem ofB_b (l : List UInt8) : bytesOf (ofB l) = l := lit_b l
/-! ### Numbers, the highest byte first -/
def val (l : List UInt8) : Int := l.foldl (fun x b => x * 256 + (b.toNat : Int)) 0
def be : Nat → Int → List UInt8
 | 0, _ => []
 | n + 1, x => be n (x / 256) ++ [(x % 256).toNat.toUInt8]
/-! ### Programs -/
inductive Rd (α : Type) where
 | ret (a : α)
 | rd (n : Nat) (k : List UInt8 → Rd α)
 | bad (e : Int) (k : Rd α)
/-! ### What they are made of -/
section
variable {α : Type}
def num (n : Nat) (k : Int → Rd α) : Rd α := .rd n fun b => k (val b)
def many : Nat → List Int → (List Int → Rd α) → Rd α
 | 0, acc, k => k acc
 | m + 1, acc, k => num 4 fun x => many m (acc ++ [x]) k
end
end Go.Ab
end
section
namespace Go.Ab
end Go.Ab
end
