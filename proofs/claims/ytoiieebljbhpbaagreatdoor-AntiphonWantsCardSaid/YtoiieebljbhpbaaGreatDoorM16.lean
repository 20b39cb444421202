import Derived.Test.YtoiieebljbhpbaaGreatDoorM22
import Derived.Shelf.SlIter.Nil
import Derived.Test.YtoiieebljbhpbaaGreatDoorTs
import Derived.Shelf.Unicode.CaseLaid
import Derived.Lib.RuneBytes
import Derived.Test.YtoiieebljbhpbaaGreatDoorM13
import Derived.Test.YtoiieebljbhpbaaGreatDoorM07
import Derived.Test.YtoiieebljbhpbaaGreatDoorTy
import Derived.Laws.Externs
import Derived.Test.YtoiieebljbhpbaaGreatDoorAb8
import Derived.ProofKit
import Derived.OpenShut
import Derived.ChangeStays
import Derived.ReadAgain
section
namespace Go.Ab
open Go.Proofs Go.Shelf Go.Sort Go.Maps
def keysVS (es : List (AV × AV)) : List ByteArray := es.map fun e => dkS e.1
def StrKeys (es : List (AV × AV)) : Prop := ∀ e ∈ es, e.1 = kS (dkS e.1)
@[simp] theorem keysVS_encM {V : Type} (vE : V → AV) (m : List (ByteArray × V)) : keysVS (qas kS vE m) = keysM m := by
  simp only [keysVS, qas, keysM, List.map_map];exact List.map_congr_left fun e _ => rfl
@[simp] theorem strKeys_encM {V : Type} (vE : V → AV) (m : List (ByteArray × V)) : StrKeys (qas kS vE m) ↔ True :=
  ⟨fun _ => trivial, fun _ e he => by obtain ⟨p, _, rfl⟩ := List.mem_map.1 he; rfl⟩
@[simp] theorem keysVS_nil : keysVS [] = [] := rfl
def KeysBS (l : List ByteArray) : Prop := (∀ x ∈ l, x.size ≤ maxLen) ∧ l.length * 16 ≤ 140737488355328
def kbytesOf (x : ByteArray) : List UInt8 := x.data.toList
def kofBytes (x : List UInt8) : ByteArray := ⟨x.toArray⟩
def sortS (l : List ByteArray) : List ByteArray := ((l.map kbytesOf).mergeSort fun x y => decide (x ≤ y)).map kofBytes
theorem R.ownsRowG {α : Type} (f : α → Value) (hf : ∀ a, (f a).oneCell' = true) {g : G} {w' : World} (sm : Sim g) {e : TypeId} {v : Value} {l : List α} (h : w'.ownsRow g.w.heap.size e 1 v l.length (l.map f)) :
  R { g with w := w' } (.sl (l.map fun a => [.lit (f a)]) .no) v := by
 rcases h.2 with ⟨rfl, hz⟩ | ⟨gb, cap, cur, rfl, hbase, hgb, hcap, _, hsz, htake⟩
 ·have : l = [] := List.eq_nil_of_length_eq_zero hz;subst this;exact .nil _ trivial
 ·have hlen : (l.map fun a => [AV.lit (f a)]).length = l.length := by simp
  have q : R { g with w := w' } (.sl (l.map fun a => [.lit (f a)]) .no) (.slice (some ⟨gb, 0, none⟩) (l.map fun a => [AV.lit (f a)]).length cap) := by
   have hcur : ∀ i (hi : i < l.length), cur[i]? = some (f l[i]) := fun i hi => by
    have : (cur.toList.take (l.length * 1))[i]? = some (f l[i]) := by
     rw [htake, List.getElem?_map];simp [hi]
    rw [List.getElem?_take_of_lt (by omega)] at this;simpa using this
   refine .sl _ .no gb 0 1 cap (fun i _ => ((l[i]?).map f).getD undef) (fun i hi => by simp) (fun i j hi hj => ?_) (fun i j hi hj hr => ?_) (fun i j hi hj => ?_) (fun i j hi hj => ?_) trivial (by omega)
   ·have hj0 : j = 0 := by omega
    subst hj0;have hi' : i < l.length := by omega
    have := hcur i hi';simp only [World.cell?, hgb, Nat.zero_add, Nat.mul_one, Nat.add_zero];rw [List.getElem?_eq_getElem hi'];simpa using this
   ·have := sm.inb _ hr;simp only at this;omega
   ·have hj0 : j = 0 := by simp at hj; omega
    subst hj0;have hi' : i < l.length := by omega
    simp only [List.getElem_map, List.getElem_cons_zero];rw [List.getElem?_eq_getElem hi'];exact .lit _
   ·have hi' : i < l.length := by omega
    rw [List.getElem?_eq_getElem hi'];exact hf _
  rw [hlen] at q; exact q
theorem ownsS_of {g : G} (sm : Sim g) {i : Nat} {es : List (AV × AV)} (hM : g.M[i]? = some (.mapo es)) (hk : StrKeys es) (hb : KeysBS (keysVS es)) {P : Program} {k : TypeId} (hkt : P.underlying k = some .string) :
  ∃ (D0 : DataW Unit) (R0 : Value → Option (DataW Unit × List MemPlace)), g.w.ownsMap P k R0 (g.β i) es.length D0 ∧ (strKeys D0).Perm ((keysVS es).map kbytesOf) ∧ Maps.size D0 = es.length := by
 obtain ⟨ents, clock, hh, hst, he⟩ := map_at sm hM;have hlen := he.len;simp only [Array.length_toList] at hlen
 have hkey : ∀ (es : List (AV × AV)) (l : List MapEntry), EntR g es l → StrKeys es → l.map (·.key) = (keysVS es).map .string := by
  intro es l h
  induction h with
  | nil => intro _; rfl
  | @cons a v es e l hk hv r ih =>
    intro q;have h1 := q (a, v) (.head _);simp only at h1;rw [h1] at hk;have h2 : e.key = .string (dkS a) := hk.lit_inv;simp only [List.map_cons, keysVS, h2];rw [ih fun e he => q e (.tail _ he)]; rfl
 have hks := hkey es ents.toList he hk
 have hread : ∀ x ∈ ents.toList, ∃ n : ByteArray, x.key = .string n ∧ n ∈ keysVS es := fun x hx => by
  have : x.key ∈ ents.toList.map (·.key) := List.mem_map.2 ⟨x, hx, rfl⟩;rw [hks] at this;obtain ⟨n, hn, e⟩ := List.mem_map.1 this;exact ⟨n, e.symm, hn⟩
 let R0 : Value → Option (DataW Unit × List MemPlace) := fun _ => some (.nil, [])
 have hrd : ∀ x ∈ ents.toList, ∃ n : ByteArray, x.key = .string n ∧ WideElems.rd P k R0 x = some (.string (kbytesOf n), .nil) := fun x hx => by
  obtain ⟨n, hn, hmem⟩ := hread x hx;refine ⟨n, hn, ?_⟩;have hsz := hb.1 n hmem;simp only [WideElems.rd, hn, R0, Option.map_some]
  have : keyOf P k (.string n) = some (.string (kbytesOf n)) := by
   simp [keyOf, hkt, mapKey, kbytesOf];exact hsz
  rw [this];rfl
 refine ⟨.map ((ents.toList.map (WideElems.rg P k R0)).foldr DataW.insert []), R0, ⟨ents, clock, hh, ⟨?_, hst, fun x hx => ?_⟩, by omega, rfl⟩, ?_, ?_⟩
 ·have := hb.2;simp only [keysVS, List.length_map] at this;simp only [maxLen]; omega
 ·obtain ⟨n, _, h⟩ := hrd x hx;exact ⟨_, h⟩
 ·show (((ents.toList.map (WideElems.rg P k R0)).foldr DataW.insert []).map fun p => strOf p.1).Perm _;refine ((WideShapes.sorted_perm _).map _).trans ?_;rw [List.map_map]
  have : ents.toList.map ((fun p => strOf p.1) ∘ WideElems.rg P k R0) = (keysVS es).map kbytesOf := by
   have h2 : (ents.toList.map (·.key)).map (fun v => match v with | .string n => kbytesOf n | _ => []) = (keysVS es).map kbytesOf := by
    rw [hks, List.map_map];exact List.map_congr_left fun n _ => rfl
   rw [← h2, List.map_map];refine List.map_congr_left fun x hx => ?_;obtain ⟨n, h3, h4⟩ := hrd x hx;simp only [Function.comp, WideElems.rg, h4, Option.getD_some, strOf, h3]
  rw [this]
 ·rw [Maps.size_eq, Go.length_read]; omega
theorem keysS_okZ {P : Program} {ρ : Ren} (L : SlLaysZ.n7 P ρ) {f k : Nat} (hf : ρ.f 7 = f) (hk : ρ.f 10 = k) (hent : ∀ args w, (callFunc f args).run P w = .ok (.enter f args) w) : qap P f (keysS k) := by
 subst hf; subst hk;intro l M out h;unfold keysS at h;split at h
 ·rename_i i
  have h : some ({ av := .fn (ρ.f 10) [.mp i] } : Out) = some out := by
   split at h
   ·exact h
   ·exact h
   ·cases h
  ·cases h;intro g vs hM sm hr _;cases hr with | cons hv hr => cases hr with | nil =>
   cases hv with
   | mp _ hi =>
   refine ⟨hent _ _, ?_⟩;refine ((callsIn_wide (n := 5)).1 (AnyZ.keys_in L Fence.wide 5 trivial rfl _ _)).mono fun e w' => ?_;rintro ⟨rfl, rfl⟩;have hw : (g.w.alloc (.cells #[.map (some (g.β i))] (ρ.t 23))).heap = g.w.heap.push (.cells #[.map (some (g.β i))] (ρ.t 23)) := rfl;refine ⟨_, rfl, g.β, g.ρ, ?_, ?_, ?_⟩
   ·simp only [G.out, Option.getD_none];exact sim_push hw sm
   ·simp only [G.out, Option.getD_none]
    have q : R { g with w := g.w.alloc (.cells #[.map (some (g.β i))] (ρ.t 23)) } (.fn (ρ.f 10) [.mp i]) (.func (.func (ρ.f 10)) #[] ((List.range [AV.mp i].length).map fun j => Value.pointer (some ⟨(fun _ => g.w.heap.size) j, 0, none⟩)).toArray) := by
     refine .fn (ρ.f 10) [.mp i] (fun _ => g.w.heap.size) (fun _ => .map (some (g.β i))) (fun j hj => ?_) (fun j hj hreg => ?_) (fun j hj => ?_)
     ·simp [World.cell?, hw]
     ·have := sm.inb _ hreg;simp at this
     ·have hj0 : j = 0 := by simp at hj; omega
      subst hj0;exact .mp (g := { g with w := g.w.alloc (.cells #[.map (some (g.β i))] (ρ.t 23)) }) i hi
    exact q
   ·simp only [G.out, Option.getD_none];exact keep_push hw
 ·cases h
@[simp] def sortedSS (k : Nat) : Sp
  | [.fn k' [.mp i]], M => if k' = k then (match M[i]? with
    | some (.mapo es) => some { av := .sl ((sortS (keysVS es)).map eTxt) .no, obl := StrKeys es ∧ KeysBS (keysVS es) }
    | _ => none) else none
  | _, _ => none
theorem sortedS_ok {P : Program} {ρ ρ' : Ren} (L : SlLaysZ.n6 P ρ) (L' : SlLaysZ.n10 P ρ') {f k : Nat} (hf : ρ.f 6 = f) (hk : ρ'.f 10 = k) (hent : ∀ args w, (callFunc f args).run P w = .ok (.enter f args) w)
  (hsort : ∀ m, AnyZ.SortsIn P ρ Fence.wide m) (e9 : ∀ args w, (callFunc (ρ.f 9) args).run P w = .ok (.enter (ρ.f 9) args) w) (eg : ∀ args w, (callFunc k args).run P w = .ok (.enter k args) w) : qap P f (sortedSS k) := by
 subst hf; subst hk;intro l M out h;unfold sortedSS at h;split at h
 ·rename_i k' i;split at h
  ·rename_i hkk;subst hkk;split at h
   ·rename_i es hMi;cases h;intro g vs hM sm hr ho;subst hM;cases hr with | cons hv hr => cases hr with | nil =>
    obtain ⟨b, rfl, hcell, hi⟩ := fn_inv hv;refine ⟨hent _ _, ?_⟩;obtain ⟨D0, R0, hown, hperm, hsize⟩ := ownsS_of sm hMi ho.1 ho.2 (P := P) (k := ρ'.t 26) L'.t26
    have hseq : SeqGives Fence.wide 2 P (ρ'.f 10) #[.pointer (some ⟨b, 0, none⟩)] encStr (fun ss => ss.Perm (strKeys D0)) (Maps.size D0) g.w :=
     AnyZ.keys_gives L' Fence.wide 2 trivial rfl (by omega) b (g.β i) es.length D0 g.w (cell_lt hcell) hcell hown
    have hbd := ho.2.2;simp only [keysVS, List.length_map] at hbd;have cS := AnyZ.sorted_in L Fence.wide 5 trivial trivial trivial trivial rfl (by omega) (hsort _) e9 (ρ'.f 10) #[.pointer (some ⟨b, 0, none⟩)] trivial eg _ _ (by rw [hsize]; simp only [maxLen]; omega) (by rw [hsize]; exact hbd) g.w hseq;refine ((callsIn_wide (n := 5)).1 cS).mono fun e w' => ?_;rintro ⟨v, ss, rfl, hS, hrow, _, hbel⟩;have hss : ss.mergeSort (fun x y => decide (x ≤ y)) = ((keysVS es).map kbytesOf).mergeSort (fun x y => decide (x ≤ y)) := mergeSort_of_perm (hS.trans hperm);rw [hss] at hrow;have hl : ss.length = (((keysVS es).map kbytesOf).mergeSort (fun x y => decide (x ≤ y))).length := by rw [← hss]; simp
    rw [hl] at hrow;refine ⟨_, rfl, g.β, g.ρ, ?_, ?_, ?_⟩
    ·simp only [G.out, Option.getD_none]; exact sim_below hbel sm
    ·simp only [G.out, Option.getD_none];have q := R.ownsRowG encStr (fun _ => rfl) sm hrow
     have e : (sortS (keysVS es)).map eTxt = (((keysVS es).map kbytesOf).mergeSort (fun x y => decide (x ≤ y))).map fun a => [AV.lit (encStr a)] := by
      unfold sortS;rw [List.map_map]; rfl
     rw [e]; exact q
    ·simp only [G.out, Option.getD_none]; exact keep_below hbel
   ·cases h
  ·cases h
 ·cases h
end Go.Ab
end
section
namespace Go.Ab
noncomputable def letterR (r : Int) : Bool := Lib.isLetterU r
noncomputable def digitR (r : Int) : Bool := Lib.isDigitU r
noncomputable def lowerR (r : Int) : Int := Lib.toLowerU r
def runeZ (r : Int) : List Int := Lib.encodeRuneZ r
def I32B (r : Int) : Prop := -2147483648 ≤ r ∧ r ≤ 2147483647
instance (r : Int) : Decidable (I32B r) := inferInstanceAs (Decidable (_ ∧ _))
end Go.Ab
end
section
namespace Go.Ab
def TextB (bs : List Int) : Prop := bs ≠ [] ∧ ∀ x ∈ bs, 0 ≤ x ∧ x < 256
instance (bs : List Int) : Decidable (TextB bs) := inferInstanceAs (Decidable (bs ≠ [] ∧ ∀ x ∈ bs, 0 ≤ x ∧ x < 256))
end Go.Ab
end
section

end
section
namespace Go.Proofs
open Go.Ab
noncomputable def gax (x0 : ByteArray) (x1 : Int) : Option ByteArray :=
 bif (ltI x1 (lenS x0)) then (
  need (CutB 0 x1 (lenS x0)) <|
  some (cutS x0 0 x1)
 ) else (
   some x0
 )
end Go.Proofs
end
section

end
section

end
section
namespace Go.Proofs
open Go.Ab
noncomputable def gau (x0 : ByteArray) : Option Tj :=
 some (Tj.mk x0 0)
noncomputable def gW (x0 : Tj) : Option Int :=
 some x0.fE
noncomputable def gI (x0 : Tj) (x1 : Int) : Option Tj :=
 bif (qaf (eqI x0.fE 0) (neI x1 0) false) then (
  some (Tj.mk ⟨#[]⟩ x1)
 ) else (
   some x0
 )
noncomputable def gZ (x0 : Tj) : Option Int :=
 some (lenS x0.fS)
noncomputable def gy (x0 : Tj) (x1 : Int) : Option (ByteArray × Tj) :=
 bif (neI x0.fE 0) then (
  some (⟨#[]⟩, x0)
 ) else (
   bif (ltI x1 0) then (
    ((gI x0 5)).bind fun r1 =>
    some (⟨#[]⟩, r1)
   ) else (
     bif (ltI (lenS x0.fS) x1) then (
      ((gI x0 1)).bind fun r2 =>
      some (⟨#[]⟩, r2)
     ) else (
       need (CutB 0 x1 (lenS x0.fS)) <|
       need (CutB x1 (lenS x0.fS) (lenS x0.fS)) <|
       some ((cutS x0.fS 0 x1), (Tj.mk (cutS x0.fS x1 (lenS x0.fS)) x0.fE))
     )
   )
 )
noncomputable def gm.loop1 (r1 : ByteArray × Tj) (s1 : Int × Int) : Option (Fl (Int × Int) (Fl Int (Int × Tj))) :=
 bif (ltI s1.1 (qat (numsOf r1.1))) then (
  need (InB s1.1 (qat (numsOf r1.1))) <|
  need (NonN 8) <|
  some (.go ((addI .i64 s1.1 1), (qaq .or .u64 (shlI .u64 s1.2 8) (cvtI .u64 (nthI (numsOf r1.1) s1.1)))))
 ) else (
   some (.out (.go s1.2))
 )
noncomputable def gm (x0 : Tj) (x1 : Int) : Option (Int × Tj) :=
 ((gy x0 (minI (maxI x1 1) 8))).bind fun r1 =>
 ((loopF (gm.loop1 r1) (0, 0)).bind fun f => flC f fun (v1 : Int) =>
   some (v1, r1.2)
 )
noncomputable def gX (x0 : Tj) : Option (Int × Tj) :=
 ((gm x0 1)).bind fun r1 =>
 some ((cvtI .u8 r1.1), r1.2)
noncomputable def gL (x0 : Tj) : Option (Int × Tj) :=
 ((gm x0 2)).bind fun r1 =>
 some ((cvtI .u16 r1.1), r1.2)
noncomputable def gM (x0 : Tj) : Option (Int × Tj) :=
 ((gm x0 4)).bind fun r1 =>
 some ((cvtI .u32 r1.1), r1.2)
noncomputable def gQ (x0 : Tj) : Option (ByteArray × Tj) :=
 ((gZ x0)).bind fun r1 =>
 ((gy x0 r1)).bind fun r2 =>
 some (r2.1, r2.2)
end Go.Proofs
end
section
namespace Go.Proofs
open Go.Ab
noncomputable def gN (x0 : Tb) (_x1 : Tf) (x2 : Tc) : Option Bool :=
 some (qaf (eqI x0.fOf.fc x2.fc) (eqI x0.fOf.ff x2.ff) false)
noncomputable def gT (x0 : Tb) (_x1 : Tf) (x2 : Int) : Option Bool :=
 some (eqI x0.fu x2)
end Go.Proofs
end
section
namespace Go.Proofs
open Go.RowKit Go.Ab
theorem Tryz.ccSize : (Tryz.prog.info? 141).map (·.size) = some 2 := by kernel_rfl
theorem Tryz.ccLies : liesAt Tryz.prog Tryz.prog.depth 143 (2 / Tryz.prog.cellsOf 143) 0 141 1 = true := by kernel_rfl
theorem Tryz.byteI : (Tryz.prog.info? 5).map (fun i => (i.zero, i.size, i.bytes)) = some (some (.int .u8 0), 1, 1) := by kernel_rfl
set_option maxHeartbeats 1000000 in
set_option maxRecDepth 100000 in
theorem Tryz.ccFresh (b : Nat) (w : World) (v : Value) (hb : w.heap[b]? = some (.cells #[.pointer none, v] 143 (0, 0))) :
  Calls Tryz.prog 135 #[.pointer (some ⟨b, 0, none⟩)] w fun e w' => e = .returned (.tuple #[]) ∧ w' = w.setCell ⟨b, 0, none⟩ (.pointer (some ⟨b, 0, none⟩)) := by
 obtain ⟨j, hj, hjs⟩ := Option.map_eq_some_iff.1 Tryz.ccSize;have h0 : w.cell? ⟨b, 0, none⟩ = some (.pointer none) := by rw [Lib.cell_of_heap hb]; rfl
 have hsh : w.shape? b = some (143, 2) := by simp [World.shape?, hb]
 have hfz : w.frozen? ⟨b, 0, none⟩ = false := Lib.frozen_of_heap hb 0
 go_enter Tryz.func135, Tryz.ntmps135
 go_wp2;rw [Lib.run_to_unsafe w ⟨b, 0, none⟩ Tryz.underlying138 Tryz.underlying237 hj (by rw [hjs]; decide) hsh (Nat.zero_lt_succ 1)];simp only [Result.andThen];rw [Oper.upon_value];go_wp2;rw [run_callFunc_extern Tryz.func158 (by kernel_rfl) (by kernel_rfl) (by kernel_rfl) (e := Extern.AbiNoEscape.same) (by kernel_rfl)];rw [Lib.run_noEscape];simp only [Result.andThen];rw [Oper.upon_value];go_wp2;rw [Lib.run_from_unsafe w ⟨b, 0, none⟩ Tryz.underlying237 Tryz.underlying138 hj hsh Tryz.ccLies];simp only [Result.andThen];rw [Oper.upon_value];go_wp2
 go_end0
 exact ⟨rfl, rfl⟩
set_option maxHeartbeats 1000000 in
set_option maxRecDepth 100000 in
theorem Tryz.ccUsed (b : Nat) (w : World) (v : Value) (hb : w.heap[b]? = some (.cells #[.pointer (some ⟨b, 0, none⟩), v] 143 (0, 0))) :
  Calls Tryz.prog 135 #[.pointer (some ⟨b, 0, none⟩)] w fun e w' => e = .returned (.tuple #[]) ∧ w' = w := by
 obtain ⟨j, hj, hjs⟩ := Option.map_eq_some_iff.1 Tryz.ccSize;have h0 : w.cell? ⟨b, 0, none⟩ = some (.pointer (some ⟨b, 0, none⟩)) := by rw [Lib.cell_of_heap hb]; rfl
 go_enter Tryz.func135, Tryz.ntmps135
 go_wp2;rw [Lib.run_neq_ptr_same w _ Tryz.underlying138 hj];go_wp2
 go_end0
 exact ⟨rfl, rfl⟩
theorem Tryz.ccAny (b : Nat) (w : World) (p v : Value) (n : Nat) (xs : List Value) (hb : w.heap[b]? = some (.cells #[p, v] 143 (0, 0))) (hp : p = .pointer none ∨ p = .pointer (some ⟨b, 0, none⟩))
  (hown : w.ownsRow 0 5 1 v n xs) (hne : v.ownBlock ≠ some b) :
  Calls Tryz.prog 135 #[.pointer (some ⟨b, 0, none⟩)] w fun e w' => e = .returned (.tuple #[]) ∧ w'.heap[b]? = some (.cells #[.pointer (some ⟨b, 0, none⟩), v] 143 (0, 0)) ∧
   w'.ownsRow 0 5 1 v n xs ∧ w'.heap.size = w.heap.size ∧ WrKeep b v.ownBlock w w' ∧ ∀ k, k ≠ b → w'.heap[k]? = w.heap[k]? := by
 rcases hp with rfl | rfl
 ·refine (Tryz.ccFresh b w v hb).mono ?_;rintro e w' ⟨rfl, rfl⟩;refine ⟨rfl, by simp [World.setCell, Array.getElem?_modify, hb], ?_, by simp [World.setCell], WrKeep.setCell _ _ _ _ _, fun k hk => heap_setCell_ne hk⟩;exact hown.kept (row := some b) ⟨rfl, rfl, rfl, by simp [World.setCell], fun k _ hk => heap_setCell_ne (fun e => hk (by simp [e]))⟩ (.inr hne)
 ·refine (Tryz.ccUsed b w v hb).mono ?_;rintro e w' ⟨rfl, rfl⟩;exact ⟨rfl, hb, hown, rfl, WrKeep.refl _ _ _, fun _ _ => rfl⟩
end Go.Proofs
end
section
namespace Go.Ab
open Go.ChangeShapes Go.WideShapes Go.ChangeAt Go.RowKit
structure Past (w w' : World) : Prop where
 kept : w.keptBut w' (fun _ => False)
 frozen : ∀ a : Addr, a.block < w.heap.size → w'.frozen? a = w.frozen? a
 size : w.heap.size ≤ w'.heap.size
 blocks : ∀ b, b < w.heap.size → w'.heap[b]? = w.heap[b]?
def g0 (w : World) : G := ⟨[], fun _ => 0, fun _ => ⟨0, 0, 0, nobs⟩, w, fun _ => False⟩
theorem no_reg0 (w : World) (a : Addr) : ¬ (g0 w).reg a := fun h => by
 rcases h with h | ⟨i, o, h, _⟩
 ·exact h
 ·simp [g0] at h
theorem sim0 (w : World) (hF : ∀ w' : World, (∀ b, b < w.heap.size → w'.heap[b]? = w.heap[b]?) → fctF w') : Sim (g0 w) where
 fct := ⟨fun b => b < w.heap.size, fun b hb => ⟨hb, fun _ => no_reg0 w _⟩, hF⟩
 blk i cells h := by simp [g0] at h
 iter i s p h := by simp [g0] at h
 room t e h := by simp [g0] at h
 disj i j oi oj a h := by simp [g0] at h
 inb a h := absurd h (no_reg0 w a)
 xdis a h := h.elim
 mapo i es h := by simp [g0] at h
 mapr i es vis cur t h := by simp [g0] at h
 opq i φ h := by simp [g0] at h
 own i P cur h := by simp [g0] at h
 arr i s els h := by simp [g0] at h
theorem past_of_keep {w : World} {g' : G} (k : Keep (g0 w) g') : Past w g'.w where
 kept := by
  refine ⟨k.io.1, k.io.2, fun i hi => ?_⟩;have h := k.blocks i hi fun off => no_reg0 w _;rw [h];simp only [g0];split
  ·rename_i c t fr c' t' fr' h1 h2;rw [h1] at h2; cases h2;exact ⟨rfl, rfl, rfl, fun _ _ => rfl⟩
  ·rename_i es clock es' clock' h1 h2;rw [h1] at h2; cases h2;exact .inr ⟨rfl, rfl⟩
  ·rfl
 frozen a ha := by
  have h := k.blocks a.block ha fun off => no_reg0 w _;simp only [World.frozen?, h];rfl
 size := k.size
 blocks b hb := k.blocks b hb fun off => no_reg0 w _
theorem walk_of_call {P : Program} {f : FuncId} {l : List AV} {vs : List Value} {w : World} {o : Prop} (h : qao P f l [] { av := .lit (.bool true), obl := o }) (hr : RL (g0 w) l vs) (ho : o) (hF : ∀ w' : World, (∀ b, b < w.heap.size → w'.heap[b]? = w.heap[b]?) → fctF w') :
  Calls P f vs.toArray w fun e w' => e = .returned (.bool true) ∧ Past w w' := by
 obtain ⟨_, c⟩ := h (g0 w) vs rfl (sim0 w hF) hr ho;refine c.mono fun e w' => ?_;rintro ⟨v, rfl, β, ρ, _, r, k⟩;cases r;exact ⟨rfl, past_of_keep k⟩
variable {H : Type} {enc : TypeId × Value → H} {P : Program}
theorem post_of_past {f : Func} {s : ChangeSpec} {apart fresh handsOn again : Bool} {W W' : World} {args : Array Value} {v : Value} {ds gs : List (DataW H)} {before pa pv : List MemPlace}
  (hW : DataW.Whole enc P f.params.toList s.vars apart W args.toList ds gs before)
  (hres : ∀ (b : Nat) (sp : Nat → Bool) (hd : Bool), DataW.TrodAll enc P W' b sp hd f.resultTypes.toList (v.resultList f.resultTypes.size) (s.fn H (ds ++ gs)).results [])
  (hargs : ∀ sp : Nat → Bool, (∀ p ∈ before, sp p.block = true) → DataW.TrodAll enc P W' 0 sp true f.params.toList args.toList (s.fn H (ds ++ gs)).args pa)
  (hvars : ∀ sp : Nat → Bool, (∀ p ∈ before, sp p.block = true) → DataW.TrodVars enc P W' sp s.vars (s.fn H (ds ++ gs)).vars pv)
  (hps : before = pa ++ pv) (hk : Past W W')
  (hok : ∀ (j : Nat) (t : TypeId) (r : Value), f.resultTypes[j]? = some t → (v.resultList f.resultTypes.size)[j]? = some r → Value.okWide P W' .any 0 t r) :
  s.post enc P f apart fresh handsOn again W args v W' := by
 have hlt := hW.lt;have hold : ∀ p ∈ before, (fun b => decide (b < W.heap.size)) p.block = true := fun p hp => by simpa using hlt p hp
 refine ⟨ds, gs, before, [], pa, pv, hW, hres _ _ _, hargs _ hold, hvars _ hold, World.keptBut_mono (fun p hp => hp.elim) hk.kept, fun _ => ?_⟩;obtain ⟨_, _, _, _, _, hz, hn⟩ := hW;refine ⟨hok, _, _, ([] ++ pa) ++ pv, ⟨[] ++ pa, pv, trodAll_append (hargs _ (fun _ _ => rfl)) (hres _ _ _), hvars _ (fun _ _ => rfl), rfl, ?_, ?_⟩, ?_⟩
 ·intro b off hp;have hp' : MemPlace.cell b off ∈ before := by rw [hps]; simpa using hp
  rw [hk.frozen _ (hlt _ hp')];exact hz b off hp'
 ·intro ha;have := hn ha;rw [hps] at this;simpa using this
 ·intro p hp _;rw [hps];simpa using hp
theorem split_by {α : Type} : ∀ (ss : List Nat) (cs : List α), cs.length = ss.sum →
  ∃ parts : List (List α), parts.length = ss.length ∧ cs = parts.flatten ∧ ∀ (j : Nat) s, ss[j]? = some s → parts[j]? = some ((cs.drop (ss.take j).sum).take s)
 | [], cs, h => ⟨[], rfl, by simpa using h, by simp⟩
 | s :: ss, cs, h => by
   obtain ⟨ps, h1, h2, h3⟩ := split_by ss (cs.drop s) (by simp at h ⊢; omega);refine ⟨cs.take s :: ps, by simp [h1], by simp [← h2], fun j t hj => ?_⟩;cases j with
   | zero => simp at hj ⊢; rw [hj]
   | succ j =>
     simp at hj;simp [h3 j t hj, List.drop_drop]
section
variable {w : World} {base : Nat} {sp : Nat → Bool} {held : Bool}
theorem cells_get {a : Addr} {n : Nat} {cs : List Value} (h : w.cells? base a n = some cs) : cs.length = n ∧ ∀ j (hj : j < cs.length), w.cell? (a.add j) = some cs[j] := by
 unfold World.cells? at h;split at h
 ·have hl : cs.length = n := by simpa using mapM_some_length h
  refine ⟨hl, fun j hj => ?_⟩;have := mapM_some_get h j j (by rw [List.getElem?_range (by omega)]);rw [this]; simp [hj]
 ·cases h
end
theorem trodAll_past {W W' : World} (K : Kids P (· < P.types.size)) (hz : ∀ {t e : TypeId}, t < P.types.size → P.underlying t = some (.slice e) → 0 < P.cellsOf e) (k : Past W W') {sp' : Nat → Bool} :
  ∀ {ts : List TypeId} {vs : List Value} {ds : List (DataW H)} {ps : List MemPlace}, (∀ t ∈ ts, t < P.types.size) → DataW.TrodAll enc P W 0 (fun _ => true) true ts vs ds ps → (∀ p ∈ ps, p.block < W.heap.size) → (∀ p ∈ ps, sp' p.block = true) →
    DataW.TrodAll enc P W' 0 sp' true ts vs ds ps
 | [], [], [], _, _, h, _, _ => h
 | t :: ts, v :: vs, d :: ds, ps, ht, ⟨p, q, ⟨n, h1⟩, h2, e⟩, hb, hs => by
   subst e
   refine ⟨p, q, ⟨n, DataW.trod_stays K hz (fun h => by cases h) (ht t (by simp)) h1 (fun x hx => ?_) (fun x hx => hs x (List.mem_append_left _ hx))⟩,
    trodAll_past K hz k (fun t' h' => ht t' (by simp [h'])) h2 (fun x hx => hb x (List.mem_append_right _ hx)) (fun x hx => hs x (List.mem_append_right _ hx)), rfl⟩
   have := hb x (List.mem_append_left _ hx);cases x with
   | cell b off => simp only [World.sameAt, World.cell?]; rw [k.blocks b this]
   | map b => exact k.blocks b this
theorem trodAll_len {w : World} {base : Nat} {sp : Nat → Bool} {held : Bool} : ∀ {ts : List TypeId} {vs : List Value} {ds : List (DataW H)} {ps : List MemPlace}, DataW.TrodAll enc P w base sp held ts vs ds ps → ds.length = ts.length
 | [], [], [], _, _ => rfl
 | _ :: _, _ :: _, _ :: _, _, ⟨_, _, _, h, _⟩ => by simp [trodAll_len h]
section
variable {t e : TypeId} {k : IntKind} {av : AV} {q : List AV}
end
end Go.Ab
end
