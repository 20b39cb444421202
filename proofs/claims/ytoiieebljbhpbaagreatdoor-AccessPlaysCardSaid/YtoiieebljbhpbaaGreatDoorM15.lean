import Derived.Test.YtoiieebljbhpbaaGreatDoorM20
import Derived.Shelf.SlIter.Nil
import Derived.Test.YtoiieebljbhpbaaGreatDoorTs
import Derived.Shelf.Unicode.CaseLaid
import Derived.Lib.RuneBytes
import Derived.Test.YtoiieebljbhpbaaGreatDoorM12
import Derived.Test.YtoiieebljbhpbaaGreatDoorM05
import Derived.Test.YtoiieebljbhpbaaGreatDoorProg
import Derived.StillTailTactics
import Derived.Sort.Grow
import Derived.Lib.Small
import Derived.Lib.Walk
import Derived.BigRegion
import Derived.Deep.Draws
import Derived.Sort.CutIn
import Derived.Test.YtoiieebljbhpbaaGreatDoorSh
section
namespace Go.Ab
open Go.Proofs Go.Shelf Go.Sort Go.Maps
def keysVS (es : List (AV × AV)) : List ByteArray := es.map fun e => dkS e.1
def StrKeys (es : List (AV × AV)) : Prop := ∀ e ∈ es, e.1 = kS (dkS e.1)
@[simp] theorem keysVS_encM {V : Type} (vE : V → AV) (m : List (ByteArray × V)) : keysVS (encM kS vE m) = keysM m := by
  simp only [keysVS, encM, keysM, List.map_map];exact List.map_congr_left fun e _ => rfl
@[simp] theorem strKeys_encM {V : Type} (vE : V → AV) (m : List (ByteArray × V)) : StrKeys (encM kS vE m) ↔ True :=
  ⟨fun _ => trivial, fun _ e he => by obtain ⟨p, _, rfl⟩ := List.mem_map.1 he; rfl⟩
@[simp] theorem keysVS_nil : keysVS [] = [] := rfl
def KeysBS (l : List ByteArray) : Prop := (∀ x ∈ l, x.size ≤ maxLen) ∧ l.length * 16 ≤ 140737488355328
def kbytesOf (x : ByteArray) : List UInt8 := x.data.toList
def kofBytes (x : List UInt8) : ByteArray := ⟨x.toArray⟩
theorem kofB_kbOf (x : ByteArray) : kofBytes (kbytesOf x) = x := by cases x; simp [kofBytes, kbytesOf]
theorem kbOf_kofB (x : List UInt8) : kbytesOf (kofBytes x) = x := by simp [kofBytes, kbytesOf]
def sortS (l : List ByteArray) : List ByteArray := ((l.map kbytesOf).mergeSort fun x y => decide (x ≤ y)).map kofBytes
theorem R.ownsRowG {α : Type} (f : α → Value) (hf : ∀ a, (f a).oneCell' = true) {g : G} {w' : World} (sm : Sim g) {e : TypeId} {v : Value} {l : List α} (h : w'.ownsRow g.w.heap.size e 1 v l.length (l.map f)) :
  R { g with w := w' } (.sl (l.map fun a => [.lit (f a)]) .no) v := by
 rcases h.2 with ⟨rfl, hz⟩ | ⟨gb, cap, cur, rfl, hbase, hgb, hcap, _, hsz, htake⟩
 ·have : l = [] := List.eq_nil_of_length_eq_zero hz;subst this;exact .nil _ trivial
 ·have hlen : (l.map fun a => [AV.lit (f a)]).length = l.length := by simp
  have q : R { g with w := w' } (.sl (l.map fun a => [.lit (f a)]) .no) (.slice (some ⟨gb, 0, none⟩) (l.map fun a => [AV.lit (f a)]).length cap) := by
   have hcur : ∀ i (hi : i < l.length), cur[i]? = some (f l[i]) := fun i hi => by
    have : (cur.toList.take (l.length * 1))[i]? = some (f l[i]) := by
     rw [htake, List.getElem?_map];simp [hi]
    rw [List.getElem?_take_of_lt (by omega)] at this;simpa using this
   refine .sl _ .no gb 0 1 cap (fun i _ => ((l[i]?).map f).getD undef) (fun i hi => by simp) (fun i j hi hj => ?_) (fun i j hi hj hr => ?_) (fun i j hi hj => ?_) (fun i j hi hj => ?_) trivial (by omega)
   ·have hj0 : j = 0 := by omega
    subst hj0;have hi' : i < l.length := by omega
    have := hcur i hi';simp only [World.cell?, hgb, Nat.zero_add, Nat.mul_one, Nat.add_zero];rw [List.getElem?_eq_getElem hi'];simpa using this
   ·have := sm.inb _ hr;simp only at this;omega
   ·have hj0 : j = 0 := by simp at hj; omega
    subst hj0;have hi' : i < l.length := by omega
    simp only [List.getElem_map, List.getElem_cons_zero];rw [List.getElem?_eq_getElem hi'];exact .lit _
   ·have hi' : i < l.length := by omega
    rw [List.getElem?_eq_getElem hi'];exact hf _
  rw [hlen] at q; exact q
theorem ownsS_of {g : G} (sm : Sim g) {i : Nat} {es : List (AV × AV)} (hM : g.M[i]? = some (.mapo es)) (hk : StrKeys es) (hb : KeysBS (keysVS es)) {P : Program} {k : TypeId} (hkt : P.underlying k = some .string) :
  ∃ (D0 : DataW Unit) (R0 : Value → Option (DataW Unit × List MemPlace)), g.w.ownsMap P k R0 (g.β i) es.length D0 ∧ (strKeys D0).Perm ((keysVS es).map kbytesOf) ∧ Maps.size D0 = es.length := by
 obtain ⟨ents, clock, hh, hst, he⟩ := map_at sm hM;have hlen := he.len;simp only [Array.length_toList] at hlen
 have hkey : ∀ (es : List (AV × AV)) (l : List MapEntry), EntR g es l → StrKeys es → l.map (·.key) = (keysVS es).map .string := by
  intro es l h
  induction h with
  | nil => intro _; rfl
  | @cons a v es e l hk hv r ih =>
    intro q;have h1 := q (a, v) (.head _);simp only at h1;rw [h1] at hk;have h2 : e.key = .string (dkS a) := hk.lit_inv;simp only [List.map_cons, keysVS, h2];rw [ih fun e he => q e (.tail _ he)]; rfl
 have hks := hkey es ents.toList he hk
 have hread : ∀ x ∈ ents.toList, ∃ n : ByteArray, x.key = .string n ∧ n ∈ keysVS es := fun x hx => by
  have : x.key ∈ ents.toList.map (·.key) := List.mem_map.2 ⟨x, hx, rfl⟩;rw [hks] at this;obtain ⟨n, hn, e⟩ := List.mem_map.1 this;exact ⟨n, e.symm, hn⟩
 let R0 : Value → Option (DataW Unit × List MemPlace) := fun _ => some (.nil, [])
 have hrd : ∀ x ∈ ents.toList, ∃ n : ByteArray, x.key = .string n ∧ WideElems.rd P k R0 x = some (.string (kbytesOf n), .nil) := fun x hx => by
  obtain ⟨n, hn, hmem⟩ := hread x hx;refine ⟨n, hn, ?_⟩;have hsz := hb.1 n hmem;simp only [WideElems.rd, hn, R0, Option.map_some]
  have : keyOf P k (.string n) = some (.string (kbytesOf n)) := by
   simp [keyOf, hkt, mapKey, kbytesOf];exact hsz
  rw [this];rfl
 refine ⟨.map ((ents.toList.map (WideElems.rg P k R0)).foldr DataW.insert []), R0, ⟨ents, clock, hh, ⟨?_, hst, fun x hx => ?_⟩, by omega, rfl⟩, ?_, ?_⟩
 ·have := hb.2;simp only [keysVS, List.length_map] at this;simp only [maxLen]; omega
 ·obtain ⟨n, _, h⟩ := hrd x hx;exact ⟨_, h⟩
 ·show (((ents.toList.map (WideElems.rg P k R0)).foldr DataW.insert []).map fun p => strOf p.1).Perm _;refine ((WideShapes.sorted_perm _).map _).trans ?_;rw [List.map_map]
  have : ents.toList.map ((fun p => strOf p.1) ∘ WideElems.rg P k R0) = (keysVS es).map kbytesOf := by
   have h2 : (ents.toList.map (·.key)).map (fun v => match v with | .string n => kbytesOf n | _ => []) = (keysVS es).map kbytesOf := by
    rw [hks, List.map_map];exact List.map_congr_left fun n _ => rfl
   rw [← h2, List.map_map];refine List.map_congr_left fun x hx => ?_;obtain ⟨n, h3, h4⟩ := hrd x hx;simp only [Function.comp, WideElems.rg, h4, Option.getD_some, strOf, h3]
  rw [this]
 ·rw [Maps.size_eq, Go.length_read]; omega
theorem keysS_okZ {P : Program} {ρ : Ren} (L : SlLaysZ.n7 P ρ) {f k : Nat} (hf : ρ.f 7 = f) (hk : ρ.f 10 = k) (hent : ∀ args w, (callFunc f args).run P w = .ok (.enter f args) w) : SpecOk P f (keysS k) := by
 subst hf; subst hk;intro l M out h;unfold keysS at h;split at h
 ·rename_i i
  have h : some ({ av := .fn (ρ.f 10) [.mp i] } : Out) = some out := by
   split at h
   ·exact h
   ·exact h
   ·cases h
  ·cases h;intro g vs hM sm hr _;cases hr with | cons hv hr => cases hr with | nil =>
   cases hv with
   | mp _ hi =>
   refine ⟨hent _ _, ?_⟩;refine ((callsIn_wide (n := 5)).1 (AnyZ.keys_in L Fence.wide 5 trivial rfl _ _)).mono fun e w' => ?_;rintro ⟨rfl, rfl⟩;have hw : (g.w.alloc (.cells #[.map (some (g.β i))] (ρ.t 23))).heap = g.w.heap.push (.cells #[.map (some (g.β i))] (ρ.t 23)) := rfl;refine ⟨_, rfl, g.β, g.ρ, ?_, ?_, ?_⟩
   ·simp only [G.out, Option.getD_none];exact sim_push hw sm
   ·simp only [G.out, Option.getD_none]
    have q : R { g with w := g.w.alloc (.cells #[.map (some (g.β i))] (ρ.t 23)) } (.fn (ρ.f 10) [.mp i]) (.func (.func (ρ.f 10)) #[] ((List.range [AV.mp i].length).map fun j => Value.pointer (some ⟨(fun _ => g.w.heap.size) j, 0, none⟩)).toArray) := by
     refine .fn (ρ.f 10) [.mp i] (fun _ => g.w.heap.size) (fun _ => .map (some (g.β i))) (fun j hj => ?_) (fun j hj hreg => ?_) (fun j hj => ?_)
     ·simp [World.cell?, hw]
     ·have := sm.inb _ hreg;simp at this
     ·have hj0 : j = 0 := by simp at hj; omega
      subst hj0;exact .mp (g := { g with w := g.w.alloc (.cells #[.map (some (g.β i))] (ρ.t 23)) }) i hi
    exact q
   ·simp only [G.out, Option.getD_none];exact keep_push hw
 ·cases h
@[simp] def sortedSS (k : Nat) : Sp
  | [.fn k' [.mp i]], M => if k' = k then (match M[i]? with
    | some (.mapo es) => some { av := .sl ((sortS (keysVS es)).map eTxt) .no, obl := StrKeys es ∧ KeysBS (keysVS es) }
    | _ => none) else none
  | _, _ => none
theorem sortedS_ok {P : Program} {ρ ρ' : Ren} (L : SlLaysZ.n6 P ρ) (L' : SlLaysZ.n10 P ρ') {f k : Nat} (hf : ρ.f 6 = f) (hk : ρ'.f 10 = k) (hent : ∀ args w, (callFunc f args).run P w = .ok (.enter f args) w)
  (hsort : ∀ m, AnyZ.SortsIn P ρ Fence.wide m) (e9 : ∀ args w, (callFunc (ρ.f 9) args).run P w = .ok (.enter (ρ.f 9) args) w) (eg : ∀ args w, (callFunc k args).run P w = .ok (.enter k args) w) : SpecOk P f (sortedSS k) := by
 subst hf; subst hk;intro l M out h;unfold sortedSS at h;split at h
 ·rename_i k' i;split at h
  ·rename_i hkk;subst hkk;split at h
   ·rename_i es hMi;cases h;intro g vs hM sm hr ho;subst hM;cases hr with | cons hv hr => cases hr with | nil =>
    obtain ⟨b, rfl, hcell, hi⟩ := fn_inv hv;refine ⟨hent _ _, ?_⟩;obtain ⟨D0, R0, hown, hperm, hsize⟩ := ownsS_of sm hMi ho.1 ho.2 (P := P) (k := ρ'.t 26) L'.t26
    have hseq : SeqGives Fence.wide 2 P (ρ'.f 10) #[.pointer (some ⟨b, 0, none⟩)] encStr (fun ss => ss.Perm (strKeys D0)) (Maps.size D0) g.w :=
     AnyZ.keys_gives L' Fence.wide 2 trivial rfl (by omega) b (g.β i) es.length D0 g.w (cell_lt hcell) hcell hown
    have hbd := ho.2.2;simp only [keysVS, List.length_map] at hbd;have cS := AnyZ.sorted_in L Fence.wide 5 trivial trivial trivial trivial rfl (by omega) (hsort _) e9 (ρ'.f 10) #[.pointer (some ⟨b, 0, none⟩)] trivial eg _ _ (by rw [hsize]; simp only [maxLen]; omega) (by rw [hsize]; exact hbd) g.w hseq;refine ((callsIn_wide (n := 5)).1 cS).mono fun e w' => ?_;rintro ⟨v, ss, rfl, hS, hrow, _, hbel⟩;have hss : ss.mergeSort (fun x y => decide (x ≤ y)) = ((keysVS es).map kbytesOf).mergeSort (fun x y => decide (x ≤ y)) := mergeSort_of_perm (hS.trans hperm);rw [hss] at hrow;have hl : ss.length = (((keysVS es).map kbytesOf).mergeSort (fun x y => decide (x ≤ y))).length := by rw [← hss]; simp
    rw [hl] at hrow;refine ⟨_, rfl, g.β, g.ρ, ?_, ?_, ?_⟩
    ·simp only [G.out, Option.getD_none]; exact sim_below hbel sm
    ·simp only [G.out, Option.getD_none];have q := R.ownsRowG encStr (fun _ => rfl) sm hrow
     have e : (sortS (keysVS es)).map eTxt = (((keysVS es).map kbytesOf).mergeSort (fun x y => decide (x ≤ y))).map fun a => [AV.lit (encStr a)] := by
      unfold sortS;rw [List.map_map]; rfl
     rw [e]; exact q
    ·simp only [G.out, Option.getD_none]; exact keep_below hbel
   ·cases h
  ·cases h
 ·cases h
end Go.Ab
end
section
namespace Go.Ab
noncomputable def letterR (r : Int) : Bool := Lib.isLetterU r
noncomputable def digitR (r : Int) : Bool := Lib.isDigitU r
noncomputable def lowerR (r : Int) : Int := Lib.toLowerU r
def runeZ (r : Int) : List Int := Lib.encodeRuneZ r
def I32B (r : Int) : Prop := -2147483648 ≤ r ∧ r ≤ 2147483647
instance (r : Int) : Decidable (I32B r) := inferInstanceAs (Decidable (_ ∧ _))
end Go.Ab
end
section
namespace Go.Ab
def TextB (bs : List Int) : Prop := bs ≠ [] ∧ ∀ x ∈ bs, 0 ≤ x ∧ x < 256
instance (bs : List Int) : Decidable (TextB bs) := inferInstanceAs (Decidable (bs ≠ [] ∧ ∀ x ∈ bs, 0 ≤ x ∧ x < 256))
end Go.Ab
end
section

end
section
namespace Go.Proofs
open Go.Ab
noncomputable def gq (x0 : ByteArray) (x1 : ByteArray) : Option Bool :=
 need (Under (leqI (lenS x1) (lenS x0)) true (CutB 0 (lenS x1) (lenS x0))) <|
 some (pickB (leqI (lenS x1) (lenS x0)) (eqS (cutS x0 0 (lenS x1)) x1) false)
noncomputable def gai (x0 : ByteArray) (x1 : ByteArray) : Option Bool :=
 ((gq x0 x1)).bind fun r1 =>
 some r1
noncomputable def gav (x0 : Int) : Option Int :=
 bif (pickB (pickB (eqI x0 45) true (eqI x0 95)) true (eqI x0 46)) then (
  some 3
 ) else (
   need (I32B x0) <|
   bif (letterR x0) then (
    some 1
   ) else (
     need (I32B x0) <|
     bif (digitR x0) then (
      some 2
     ) else (
       some 0
     )
   )
 )
noncomputable def gB.loop1 (x0 : ByteArray) (s1 : Int × Int × Nat) : Option (Fl (Int × Int × Nat) (Fl (Int × Int) Int)) :=
 bif (nextB x0 s1.2.2) then (
  ((gav (runeS x0 s1.2.2))).bind fun r1 =>
  need (Under (eqI (runeS x0 s1.2.2) 65533) true (Under (pickB (eqI r1 0) true (pickB (eqI r1 3) (eqI s1.2.1 3) false)) false (CutB (posI s1.2.2) (lenS x0) (lenS x0)))) <|
  need (Under (eqI (runeS x0 s1.2.2) 65533) true (Under (pickB (eqI r1 0) true (pickB (eqI r1 3) (eqI s1.2.1 3) false)) false ((gai (cutS x0 (posI s1.2.2) (lenS x0)) ⟨#[239, 191, 189]⟩).isSome = true))) <|
  bif (pickB (pickB (eqI r1 0) true (pickB (eqI r1 3) (eqI s1.2.1 3) false)) true (pickB (eqI (runeS x0 s1.2.2) 65533) (notB ((gai (cutS x0 (posI s1.2.2) (lenS x0)) ⟨#[239, 191, 189]⟩).getD dflt)) false)) then (
   some (.out (.out 6))
  ) else (
    some (.go ((addI .i64 s1.1 1), r1, (stepS x0 s1.2.2)))
  )
 ) else (
   some (.out (.go (s1.1, s1.2.1)))
 )
noncomputable def gB (x0 : ByteArray) : Option Int :=
 bif (pickB (eqS x0 ⟨#[]⟩) true (ltI 64 (lenS x0))) then (
  some 6
 ) else (
   ((loopF (gB.loop1 x0) (0, 3, 0)).bind fun f => flC f fun (v1 : Int × Int) =>
     bif (pickB (ltI 16 v1.1) true (eqI v1.2 3)) then (
      some 6
     ) else (
       some 0
     )
   )
 )
noncomputable def gW.loop1 (x0 : ByteArray) (s1 : List Int × Nat) : Option (Fl (List Int × Nat) (Fl (List Int) ByteArray)) :=
 bif (nextB x0 s1.2) then (
  need (I32B (lowerR (runeS x0 s1.2))) <|
  need (AppB (lenL s1.1) 4 1) <|
  some (.go ((appL s1.1 (runeZ (lowerR (runeS x0 s1.2)))), (stepS x0 s1.2)))
 ) else (
   some (.out (.go s1.1))
 )
noncomputable def gW (x0 : ByteArray) : Option ByteArray :=
 ((loopF (gW.loop1 x0) ([], 0)).bind fun f => flC f fun (v1 : List Int) =>
   need (TextB v1) <|
   some (strOfNums v1)
 )
noncomputable def gan (x0 : ByteArray) (x1 : ByteArray) : Option Bool :=
 ((gW x0)).bind fun r1 =>
 ((gW x1)).bind fun r2 =>
 some (eqS r1 r2)
end Go.Proofs
end
section

end
section
set_option maxRecDepth 100000
set_option maxHeartbeats 1000000
namespace Go.Ab
open Go.Proofs Go.RowKit Go.Lib Go.Sort
theorem isNaN_c (x : Int) (w : World) : Calls Tryz.prog 94 #[.int .i64 x] w fun e w' => e = .returned (.bool false) ∧ w' = w := by
 go_enter Tryz.func94, Tryz.ntmps94
 go_wp2;go_ret;exact ⟨by simp, rfl⟩
theorem compare_c (x y : Int) (w : World) : Calls Tryz.prog 46 #[.int .i64 x, .int .i64 y] w fun e w' => e = .returned (.int .i64 (Lib.compareInt x y)) ∧ w' = w := by
 go_enter Tryz.func46, Tryz.ntmps46
 go_wp2_with (go_at_call 94; refine (isNaN_c _ _).mono ?_; rintro e w' ⟨rfl, hw⟩; rw [hw])
 all_goals (go_ret; refine ⟨?_, rfl⟩; unfold Lib.compareInt; (repeat' split) <;> first | rfl | (exfalso; omega))
def or3 (a b c : Int) : Int := if a ≠ 0 then a else if b ≠ 0 then b else c
theorem or_c (B : Nat) (a b c : Int) (w : World) (h0 : w.cell? ⟨B, 0, none⟩ = some (.int .i64 a)) (h1 : w.cell? ⟨B, 1, none⟩ = some (.int .i64 b)) (h2 : w.cell? ⟨B, 2, none⟩ = some (.int .i64 c)) :
  Calls Tryz.prog 45 #[.slice (some ⟨B, 0, none⟩) 3 3] w fun e w' => e = .returned (.int .i64 (or3 a b c)) ∧ w' = w := by
 go_enter Tryz.func45, Tryz.ntmps45
 go_wp2
 go_loopw [8] (fun v wr => ∃ i : Nat, v = .int .i64 i ∧ i ≤ 3 ∧ wr = w ∧ (1 ≤ i → a = 0) ∧ (2 ≤ i → b = 0) ∧ (3 ≤ i → c = 0)) (fun v _ => 3 - (match v with | .int _ n => n.toNat | _ => 0))
 case atStart => exact ⟨0, rfl, by omega, rfl, by omega, by omega, by omega⟩
 case round =>
  obtain ⟨i, rfl, hi, rfl, q1, q2, q3⟩ := hrel;rcases (show i = 0 ∨ i = 1 ∨ i = 2 ∨ i = 3 by omega) with rfl | rfl | rfl | rfl
  ·go_wp2
   ·rename_i hh;go_ret;have hh : a ≠ 0 := by simpa using hh
    exact ⟨by simp [or3, hh], rfl⟩
   ·rename_i hh;have hh : a = 0 := by simpa using hh
    exact ⟨⟨1, rfl, by omega, trivial, fun _ => hh, by omega, by omega⟩, by decide⟩
  ·have qa := q1 (by omega);go_wp2
   ·rename_i hh;go_ret;have hh : b ≠ 0 := by simpa using hh
    exact ⟨by simp [or3, hh, qa], rfl⟩
   ·rename_i hh;have hh : b = 0 := by simpa using hh
    exact ⟨⟨2, rfl, by omega, trivial, fun _ => qa, fun _ => hh, by omega⟩, by decide⟩
  ·have qa := q1 (by omega);have qb := q2 (by omega);go_wp2
   ·rename_i hh;go_ret;have hh : c ≠ 0 := by simpa using hh
    exact ⟨by simp [or3, qb, qa], rfl⟩
   ·rename_i hh;have hh : c = 0 := by simpa using hh
    exact ⟨⟨3, rfl, by omega, trivial, fun _ => qa, fun _ => qb, fun _ => hh⟩, by decide⟩
  ·have qa := q1 (by omega);have qb := q2 (by omega);have qc := q3 (by omega);go_wp2;go_ret;exact ⟨by simp [or3, qb, qa, qc], rfl⟩
def cf3 (x y : Int × Int × Int) : Int := or3 (Lib.compareInt x.1 y.1) (Lib.compareInt x.2.1 y.2.1) (Lib.compareInt x.2.2 y.2.2)
theorem linksCmp (x y : Int × Int × Int) (W : World) : Calls Tryz.prog 44 #[.agg #[.int .i64 x.1, .int .i64 x.2.1, .int .i64 x.2.2], .agg #[.int .i64 y.1, .int .i64 y.2.1, .int .i64 y.2.2]] W fun e w' => e = .returned (.int .i64 (cf3 x y)) ∧ ∃ q os', w' = grow (W.drewN q) os' := by
 obtain ⟨x1, x2, x3⟩ := x;obtain ⟨y1, y2, y3⟩ := y;have c1 := fun W' => compare_c x1 y1 W';have c2 := fun W' => compare_c x2 y2 W';have c3 := fun W' => compare_c x3 y3 W';simp only [cf3];generalize Lib.compareInt x1 y1 = r1 at c1 ⊢;generalize Lib.compareInt x2 y2 = r2 at c2 ⊢;generalize Lib.compareInt x3 y3 = r3 at c3 ⊢
 go_enter Tryz.func44, Tryz.ntmps44
 go_upto_region 1 with (fail)
 obtain ⟨W2, hW2⟩ : ∃ W2, (W.alloc (.cells #[.int .i64 x1, .int .i64 x2, .int .i64 x3] 51)).alloc (.cells #[.int .i64 y1, .int .i64 y2, .int .i64 y3] 51) = W2 := ⟨_, rfl⟩;change Code.wp _ _ _ _ ((W.alloc (.cells #[.int .i64 x1, .int .i64 x2, .int .i64 x3] 51)).alloc (.cells #[.int .i64 y1, .int .i64 y2, .int .i64 y3] 51));rw [hW2];have k0 : W2.cell? ⟨W.heap.size, 0, none⟩ = some (.int .i64 x1) := by rw [← hW2]; simp
 have k1 : W2.cell? ⟨W.heap.size, 1, none⟩ = some (.int .i64 x2) := by rw [← hW2]; simp
 have k2 : W2.cell? ⟨W.heap.size, 2, none⟩ = some (.int .i64 x3) := by rw [← hW2]; simp
 have l0 : W2.cell? ⟨W.heap.size + 1, 0, none⟩ = some (.int .i64 y1) := by rw [← hW2]; simp
 have l1 : W2.cell? ⟨W.heap.size + 1, 1, none⟩ = some (.int .i64 y2) := by rw [← hW2]; simp
 have l2 : W2.cell? ⟨W.heap.size + 1, 2, none⟩ = some (.int .i64 y3) := by rw [← hW2]; simp
 refine wp_region_still_tail 19 (by kernel_rfl) (by kernel_rfl) ?_;simp only [List.take_succ_cons, List.take_zero, List.drop_succ_cons, List.drop_zero]
 iterate 4 still_step
 still_call (c1 _)
 iterate 6 still_step
 still_call (c2 _)
 iterate 6 still_step
 still_call (c3 _)
 refine wpStill_nil ?_;change wpList _ _ _ _ _ W2.drew
 have fin : ∀ o : Obj, ∃ q os', W2.drew.alloc o = grow (W.drewN q) os' := fun o => by
  refine ⟨1, #[.cells #[.int .i64 x1, .int .i64 x2, .int .i64 x3] 51, .cells #[.int .i64 y1, .int .i64 y2, .int .i64 y3] 51] ++ #[o], ?_⟩;rw [← hW2, alloc_eq_grow, ← grow_grow, alloc_eq_grow, alloc_eq_grow, grow_grow]; rfl
 generalize W2.drew = W3 at fin ⊢;clear k0 k1 k2 l0 l1 l2 c1 c2 c3 hW2;have hor := fun W' h0 h1 h2 => or_c W3.heap.size r1 r2 r3 W' h0 h1 h2;go_wp2_with (go_at_call 45; refine (hor _ (by simp) (by simp) (by simp)).mono ?_; rintro e w' ⟨rfl, rfl⟩);go_ret;exact ⟨rfl, fin _⟩
end Go.Ab
end
section
namespace Go.Proofs
open Go.Ab Go.Shelf
theorem libKeys.gMapsKeysMapIntRoomPeerIntRoomPeer.ok : SpecOk Tryz.prog 122 (keysS 141) :=
 keys_ok Tryz.keysAD rfl rfl (enters_of Tryz.func122 (by kernel_rfl) rfl)
theorem Tryz.sortsD (m : Nat) : AnyZI.SortsIn Tryz.prog Tryz.sortedAD_ren Fence.wide m :=
  ⟨fun blk off cap ss W hH hblk hsz => callsIn_wide.2 (AnyM.slices_Sort_int Tryz.sortAD blk off cap ss W hH hblk hsz),
   fun p cap W => callsIn_wide.2 (AnyM.slices_Sort_int_none Tryz.sortAD p cap W)⟩
theorem libSorted.gSlicesSortedInt.ok : SpecOk Tryz.prog 121 (sortedS 141) :=
 sorted_ok Tryz.sortedAD { Tryz.keysAD with } rfl rfl (enters_of Tryz.func121 (by kernel_rfl) rfl) Tryz.sortsD (enters_of Tryz.func140 (by kernel_rfl) rfl) (enters_of Tryz.func141 (by kernel_rfl) rfl)
theorem libSorted.gSortedMapIntRoomPeerIntRoomPeer1.ok : SpecOk Tryz.prog 121 (sortedS 141) := libSorted.gSlicesSortedInt.ok
theorem libKeys.gMapsKeysMapStringIntStringInt.ok : SpecOk Tryz.prog 125 (keysS 144) :=
 keysS_okZ Tryz.keysAS rfl rfl (enters_of Tryz.func125 (by kernel_rfl) rfl)
theorem Tryz.sortsS (m : Nat) : AnyZ.SortsIn Tryz.prog Tryz.sortedAS_ren Fence.wide m :=
  ⟨fun blk off cap ss W hH hblk hsz => callsIn_wide.2 (AnyM.slices_Sort_string Tryz.sortAS blk off cap ss W hH hblk hsz),
   fun p cap W => callsIn_wide.2 (AnyM.slices_Sort_string_none Tryz.sortAS p cap W)⟩
theorem libSorted.gSlicesSortedString.ok : SpecOk Tryz.prog 124 (sortedSS 144) :=
 sortedS_ok Tryz.sortedAS { Tryz.keysAS with } rfl rfl (enters_of Tryz.func124 (by kernel_rfl) rfl) Tryz.sortsS (enters_of Tryz.func143 (by kernel_rfl) rfl) (enters_of Tryz.func144 (by kernel_rfl) rfl)
end Go.Proofs
end
section
namespace Go.Ab
end Go.Ab
end
