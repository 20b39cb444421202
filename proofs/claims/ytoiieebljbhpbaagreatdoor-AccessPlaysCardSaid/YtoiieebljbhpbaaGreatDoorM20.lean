import Derived.Test.YtoiieebljbhpbaaGreatDoorM12
import Derived.Test.YtoiieebljbhpbaaGreatDoorM16
import Derived.Shelf.SlIterI.Nil
import Derived.Maps.OwnSet
import Derived.WideShapes
import Derived.Test.YtoiieebljbhpbaaGreatDoorAb9
import Derived.Deep.AppendSrc
import Derived.Laws.AppendOwn
import Derived.Lib.Builder
section
namespace Go.Ab
open Go.Proofs Go.Shelf Go.Sort Go.Maps
def keysM {K V : Type} (m : List (K × V)) : List K := m.map (·.1)
def keysV (es : List (AV × AV)) : List Int := es.map fun e => dkI e.1
def IntKeys (k : IntKind) (es : List (AV × AV)) : Prop := ∀ e ∈ es, e.1 = kI k (dkI e.1)
@[simp] theorem keysV_encM {V : Type} (k : IntKind) (vE : V → AV) (m : List (Int × V)) : keysV (encM (kI k) vE m) = keysM m := by
  simp only [keysV, encM, keysM, List.map_map];exact List.map_congr_left fun e _ => rfl
@[simp] theorem intKeys_encM {V : Type} (k : IntKind) (vE : V → AV) (m : List (Int × V)) : IntKeys k (encM (kI k) vE m) ↔ True :=
  ⟨fun _ => trivial, fun _ e he => by obtain ⟨p, _, rfl⟩ := List.mem_map.1 he; rfl⟩
@[simp] theorem keysV_nil : keysV [] = [] := rfl
@[simp] theorem keysM_nil {K V : Type} : keysM ([] : List (K × V)) = [] := rfl
def KeysB (l : List Int) : Prop := (∀ x ∈ l, (Lit.int .i64 x).wf = true) ∧ l.length * 8 ≤ 140737488355328
def sortL (l : List Int) : List Int := l.mergeSort fun x y => decide (x ≤ y)
theorem R.ownsRow {g : G} {w' : World} (sm : Sim g) {e : TypeId} {v : Value} {l : List Int} (h : w'.ownsRow g.w.heap.size e 1 v l.length (l.map encZ)) : R { g with w := w' } (.sl (l.map (eNum .i64)) .no) v := by
 rcases h.2 with ⟨rfl, hz⟩ | ⟨gb, cap, cur, rfl, hbase, hgb, hcap, _, hsz, htake⟩
 ·have : l = [] := List.eq_nil_of_length_eq_zero hz;subst this;exact .nil _ trivial
 ·have hlen : (l.map (eNum .i64)).length = l.length := by simp
  have q : R { g with w := w' } (.sl (l.map (eNum .i64)) .no) (.slice (some ⟨gb, 0, none⟩) (l.map (eNum .i64)).length cap) := by
   have hcur : ∀ i, i < l.length → cur[i]? = some (encZ (l.getD i 0)) := fun i hi => by
    have : (cur.toList.take (l.length * 1))[i]? = some (encZ (l.getD i 0)) := by
     rw [htake, List.getElem?_map];simp [hi]
    rw [List.getElem?_take_of_lt (by omega)] at this;simpa using this
   refine .sl _ .no gb 0 1 cap (fun i _ => encZ (l.getD i 0)) (fun i hi => by simp) (fun i j hi hj => ?_) (fun i j hi hj hr => ?_) (fun i j hi hj => ?_) (fun _ _ _ _ => rfl) trivial (by omega)
   ·have hj0 : j = 0 := by omega
    subst hj0;have := hcur i (by omega);simp only [World.cell?, hgb, Nat.zero_add, Nat.mul_one, Nat.add_zero];simpa using this
   ·have := sm.inb _ hr;simp only at this;omega
   ·have hj0 : j = 0 := by simp at hj; omega
    subst hj0;have hi' : i < l.length := by omega
    simp only [List.getElem_map, encI_def, List.getElem_cons_zero];rw [show (l.getD i 0) = l[i] by simp [hi']];exact .lit _
  rw [hlen] at q; exact q
theorem owns_of {g : G} (sm : Sim g) {i : Nat} {es : List (AV × AV)} (hM : g.M[i]? = some (.mapo es)) (hk : IntKeys .i64 es) (hb : KeysB (keysV es)) {P : Program} {k : TypeId} (hkt : P.underlying k = some (.int .i64)) :
  ∃ (D0 : DataW Unit) (R0 : Value → Option (DataW Unit × List MemPlace)), g.w.ownsMap P k R0 (g.β i) es.length D0 ∧ (intKeys D0).Perm (keysV es) ∧ Maps.size D0 = es.length := by
 obtain ⟨ents, clock, hh, hst, he⟩ := map_at sm hM;have hlen := he.len;simp only [Array.length_toList] at hlen
 have hkey : ∀ (es : List (AV × AV)) (l : List MapEntry), EntR g es l → IntKeys .i64 es → l.map (·.key) = (keysV es).map encZ := by
  intro es l h
  induction h with
  | nil => intro _; rfl
  | @cons a v es e l hk hv r ih =>
    intro q;have h1 := q (a, v) (.head _);simp only at h1;rw [h1] at hk;have h2 : e.key = .int .i64 (dkI a) := hk.lit_inv;simp only [List.map_cons, keysV, h2];rw [ih fun e he => q e (.tail _ he)]; rfl
 have hks := hkey es ents.toList he hk
 have hread : ∀ x ∈ ents.toList, ∃ n : Int, x.key = encZ n ∧ n ∈ keysV es := fun x hx => by
  have : x.key ∈ ents.toList.map (·.key) := List.mem_map.2 ⟨x, hx, rfl⟩;rw [hks] at this;obtain ⟨n, hn, e⟩ := List.mem_map.1 this;exact ⟨n, e.symm, hn⟩
 let R0 : Value → Option (DataW Unit × List MemPlace) := fun _ => some (.nil, [])
 have hrd : ∀ x ∈ ents.toList, ∃ n : Int, x.key = encZ n ∧ WideElems.rd P k R0 x = some (.int .i64 n, .nil) := fun x hx => by
  obtain ⟨n, hn, hmem⟩ := hread x hx;refine ⟨n, hn, ?_⟩;simp only [WideElems.rd, hn, R0, Option.map_some];rw [show encZ n = .int .i64 n from rfl, Maps.keyOf_int_mk hkt (hb.1 n hmem)];rfl
 refine ⟨.map ((ents.toList.map (WideElems.rg P k R0)).foldr DataW.insert []), R0, ⟨ents, clock, hh, ⟨?_, hst, fun x hx => ?_⟩, by omega, rfl⟩, ?_, ?_⟩
 ·have := hb.2;simp only [keysV, List.length_map] at this;simp only [maxLen]; omega
 ·obtain ⟨n, _, h⟩ := hrd x hx;exact ⟨_, h⟩
 ·show (((ents.toList.map (WideElems.rg P k R0)).foldr DataW.insert []).map fun p => intOf p.1).Perm _;refine ((WideShapes.sorted_perm _).map _).trans ?_;rw [List.map_map]
  have : ents.toList.map ((fun p => intOf p.1) ∘ WideElems.rg P k R0) = keysV es := by
   have h2 : (ents.toList.map (·.key)).map (fun v => match v with | .int _ n => n | _ => 0) = keysV es := by
    rw [hks, List.map_map];exact (List.map_congr_left fun n _ => rfl).trans (List.map_id _)
   rw [← h2, List.map_map];refine List.map_congr_left fun x hx => ?_;obtain ⟨n, h3, h4⟩ := hrd x hx;simp only [Function.comp, WideElems.rg, h4, Option.getD_some, intOf, h3]
  rw [this]
 ·rw [Maps.size_eq, Go.length_read]; omega
def OwnKeys (Q : Own) : Prop := ∀ w C bs l, Q.rel w C bs l → l.map (·.1) = Q.data.map fun e => .int .i64 (dkI e.1)
theorem owns_own {g : G} (sm : Sim g) {i : Nat} {Q : Own} (hM : g.M[i]? = some (.own Q none)) (hq : OwnKeys Q) (hb : KeysB (keysV Q.data)) {P : Program} {k : TypeId} (hkt : P.underlying k = some (.int .i64)) :
  ∃ (D0 : DataW Unit) (R0 : Value → Option (DataW Unit × List MemPlace)), g.w.ownsMap P k R0 (g.β i) Q.data.length D0 ∧ (intKeys D0).Perm (keysV Q.data) ∧ Maps.size D0 = Q.data.length := by
 obtain ⟨ents, clock, hh, hst, _, _, hrel, _⟩ := sm.own i Q none hM
 have hks : ents.toList.map (·.key) = (keysV Q.data).map encZ := by
  have := hq _ _ _ _ hrel;simp only [pairsOf, List.map_map] at this;simp only [keysV, List.map_map];exact this
 have hlen : ents.toList.length = Q.data.length := by
  have := congrArg List.length hks;simpa [keysV] using this
 simp only [Array.length_toList] at hlen
 have hread : ∀ x ∈ ents.toList, ∃ n : Int, x.key = encZ n ∧ n ∈ keysV Q.data := fun x hx => by
  have : x.key ∈ ents.toList.map (·.key) := List.mem_map.2 ⟨x, hx, rfl⟩;rw [hks] at this;obtain ⟨n, hn, e⟩ := List.mem_map.1 this;exact ⟨n, e.symm, hn⟩
 let R0 : Value → Option (DataW Unit × List MemPlace) := fun _ => some (.nil, [])
 have hrd : ∀ x ∈ ents.toList, ∃ n : Int, x.key = encZ n ∧ WideElems.rd P k R0 x = some (.int .i64 n, .nil) := fun x hx => by
  obtain ⟨n, hn, hmem⟩ := hread x hx;refine ⟨n, hn, ?_⟩;simp only [WideElems.rd, hn, R0, Option.map_some];rw [show encZ n = .int .i64 n from rfl, Maps.keyOf_int_mk hkt (hb.1 n hmem)];rfl
 refine ⟨.map ((ents.toList.map (WideElems.rg P k R0)).foldr DataW.insert []), R0, ⟨ents, clock, hh, ⟨?_, hst, fun x hx => ?_⟩, by omega, rfl⟩, ?_, ?_⟩
 ·have := hb.2;simp only [keysV, List.length_map] at this;simp only [maxLen]; omega
 ·obtain ⟨n, _, h⟩ := hrd x hx;exact ⟨_, h⟩
 ·show (((ents.toList.map (WideElems.rg P k R0)).foldr DataW.insert []).map fun p => intOf p.1).Perm _;refine ((WideShapes.sorted_perm _).map _).trans ?_;rw [List.map_map]
  have : ents.toList.map ((fun p => intOf p.1) ∘ WideElems.rg P k R0) = keysV Q.data := by
   have h2 : (ents.toList.map (·.key)).map (fun v => match v with | .int _ n => n | _ => 0) = keysV Q.data := by
    rw [hks, List.map_map];exact (List.map_congr_left fun n _ => rfl).trans (List.map_id _)
   rw [← h2, List.map_map];refine List.map_congr_left fun x hx => ?_;obtain ⟨n, h3, h4⟩ := hrd x hx;simp only [Function.comp, WideElems.rg, h4, Option.getD_some, intOf, h3]
  rw [this]
 ·rw [Maps.size_eq, Go.length_read]; omega
@[simp] def keysS (k : Nat) : Sp
  | [.mp i], M => match M[i]? with
    | some (.mapo _) => some { av := .fn k [.mp i] }
    | some (.own _ none) => some { av := .fn k [.mp i] }
    | _ => none
  | _, _ => none
theorem keys_ok {P : Program} {ρ : Ren} (L : SlLaysZI.n7 P ρ) {f k : Nat} (hf : ρ.f 7 = f) (hk : ρ.f 10 = k) (hent : ∀ args w, (callFunc f args).run P w = .ok (.enter f args) w) : SpecOk P f (keysS k) := by
 subst hf; subst hk;intro l M out h;unfold keysS at h;split at h
 ·rename_i i
  have h : some ({ av := .fn (ρ.f 10) [.mp i] } : Out) = some out := by
   split at h
   ·exact h
   ·exact h
   ·cases h
  ·cases h;intro g vs hM sm hr _;cases hr with | cons hv hr => cases hr with | nil =>
   cases hv with
   | mp _ hi =>
   refine ⟨hent _ _, ?_⟩;refine ((callsIn_wide (n := 5)).1 (AnyZI.keys_in L Fence.wide 5 trivial rfl _ _)).mono fun e w' => ?_;rintro ⟨rfl, rfl⟩;have hw : (g.w.alloc (.cells #[.map (some (g.β i))] (ρ.t 23))).heap = g.w.heap.push (.cells #[.map (some (g.β i))] (ρ.t 23)) := rfl;refine ⟨_, rfl, g.β, g.ρ, ?_, ?_, ?_⟩
   ·simp only [G.out, Option.getD_none];exact sim_push hw sm
   ·simp only [G.out, Option.getD_none]
    have q : R { g with w := g.w.alloc (.cells #[.map (some (g.β i))] (ρ.t 23)) } (.fn (ρ.f 10) [.mp i]) (.func (.func (ρ.f 10)) #[] ((List.range [AV.mp i].length).map fun j => Value.pointer (some ⟨(fun _ => g.w.heap.size) j, 0, none⟩)).toArray) := by
     refine .fn (ρ.f 10) [.mp i] (fun _ => g.w.heap.size) (fun _ => .map (some (g.β i))) (fun j hj => ?_) (fun j hj hreg => ?_) (fun j hj => ?_)
     ·simp [World.cell?, hw]
     ·have := sm.inb _ hreg;simp at this
     ·have hj0 : j = 0 := by simp at hj; omega
      subst hj0;exact .mp (g := { g with w := g.w.alloc (.cells #[.map (some (g.β i))] (ρ.t 23)) }) i hi
    exact q
   ·simp only [G.out, Option.getD_none];exact keep_push hw
 ·cases h
theorem fn_inv {g : G} {f : Nat} {i : Nat} {v : Value} (h : R g (.fn f [.mp i]) v) : ∃ b, v = .func (.func f) #[] #[.pointer (some ⟨b, 0, none⟩)] ∧ g.w.cell? ⟨b, 0, none⟩ = some (.map (some (g.β i))) ∧ i < g.M.length := by
 cases h with
 | fn _ _ bs us h1 h2 h3 =>
   have h4 := h3 0 (by simp);simp only [List.getElem_cons_zero] at h4;generalize hu : us 0 = u at h4;cases h4 with
   | mp _ hi =>
     refine ⟨bs 0, by simp [List.range_succ], ?_, hi⟩;have := h1 0 (by simp);rw [hu] at this; exact this
@[simp] def sortedS (k : Nat) : Sp
  | [.fn k' [.mp i]], M => if k' = k then (match M[i]? with
    | some (.mapo es) => some { av := .sl ((sortL (keysV es)).map (eNum .i64)) .no, obl := IntKeys .i64 es ∧ KeysB (keysV es) }
    | some (.own Q none) => some { av := .sl ((sortL (keysV Q.data)).map (eNum .i64)) .no, obl := OwnKeys Q ∧ KeysB (keysV Q.data) }
    | _ => none) else none
  | _, _ => none
theorem sorted_ok {P : Program} {ρ ρ' : Ren} (L : SlLaysZI.n6 P ρ) (L' : SlLaysZI.n10 P ρ') {f k : Nat} (hf : ρ.f 6 = f) (hk : ρ'.f 10 = k) (hent : ∀ args w, (callFunc f args).run P w = .ok (.enter f args) w)
  (hsort : ∀ m, AnyZI.SortsIn P ρ Fence.wide m) (e9 : ∀ args w, (callFunc (ρ.f 9) args).run P w = .ok (.enter (ρ.f 9) args) w) (eg : ∀ args w, (callFunc k args).run P w = .ok (.enter k args) w) : SpecOk P f (sortedS k) := by
 subst hf; subst hk;intro l M out h;unfold sortedS at h;split at h
 ·rename_i k' i;split at h
  ·rename_i hkk;subst hkk;split at h
   ·rename_i es hMi;cases h;intro g vs hM sm hr ho;subst hM;cases hr with | cons hv hr => cases hr with | nil =>
    obtain ⟨b, rfl, hcell, hi⟩ := fn_inv hv;refine ⟨hent _ _, ?_⟩;obtain ⟨D0, R0, hown, hperm, hsize⟩ := owns_of sm hMi ho.1 ho.2 (P := P) (k := ρ'.t 26) L'.t26
    have hseq : SeqGives Fence.wide 2 P (ρ'.f 10) #[.pointer (some ⟨b, 0, none⟩)] encZ (fun ss => ss.Perm (intKeys D0)) (Maps.size D0) g.w :=
     AnyZI.keys_gives L' Fence.wide 2 trivial rfl (by omega) b (g.β i) es.length D0 g.w (cell_lt hcell) hcell hown
    have hbd := ho.2.2;simp only [keysV, List.length_map] at hbd;have cS := AnyZI.sorted_in L Fence.wide 5 trivial trivial trivial trivial rfl (by omega) (hsort _) e9 (ρ'.f 10) #[.pointer (some ⟨b, 0, none⟩)] trivial eg _ _ (by rw [hsize]; simp only [maxLen]; omega) (by rw [hsize]; exact hbd) g.w hseq;refine ((callsIn_wide (n := 5)).1 cS).mono fun e w' => ?_;rintro ⟨v, ss, rfl, hS, hrow, _, hbel⟩;have hss : ss.mergeSort (fun x y => decide (x ≤ y)) = sortL (keysV es) := mergeSort_of_perm_i (hS.trans hperm);rw [hss] at hrow;have hl : ss.length = (sortL (keysV es)).length := by rw [← hss]; simp
    rw [hl] at hrow;refine ⟨_, rfl, g.β, g.ρ, ?_, ?_, ?_⟩
    ·simp only [G.out, Option.getD_none]; exact sim_below hbel sm
    ·simp only [G.out, Option.getD_none]; exact R.ownsRow sm hrow
    ·simp only [G.out, Option.getD_none]; exact keep_below hbel
   ·rename_i Qo hMi;cases h;intro g vs hM sm hr ho;subst hM;cases hr with | cons hv hr => cases hr with | nil =>
    obtain ⟨b, rfl, hcell, hi⟩ := fn_inv hv;refine ⟨hent _ _, ?_⟩;obtain ⟨D0, R0, hown, hperm, hsize⟩ := owns_own sm hMi ho.1 ho.2 (P := P) (k := ρ'.t 26) L'.t26
    have hseq : SeqGives Fence.wide 2 P (ρ'.f 10) #[.pointer (some ⟨b, 0, none⟩)] encZ (fun ss => ss.Perm (intKeys D0)) (Maps.size D0) g.w :=
     AnyZI.keys_gives L' Fence.wide 2 trivial rfl (by omega) b (g.β i) Qo.data.length D0 g.w (cell_lt hcell) hcell hown
    have hbd := ho.2.2;simp only [keysV, List.length_map] at hbd;have cS := AnyZI.sorted_in L Fence.wide 5 trivial trivial trivial trivial rfl (by omega) (hsort _) e9 (ρ'.f 10) #[.pointer (some ⟨b, 0, none⟩)] trivial eg _ _ (by rw [hsize]; simp only [maxLen]; omega) (by rw [hsize]; exact hbd) g.w hseq;refine ((callsIn_wide (n := 5)).1 cS).mono fun e w' => ?_;rintro ⟨v, ss, rfl, hS, hrow, _, hbel⟩;have hss : ss.mergeSort (fun x y => decide (x ≤ y)) = sortL (keysV Qo.data) := mergeSort_of_perm_i (hS.trans hperm);rw [hss] at hrow;have hl : ss.length = (sortL (keysV Qo.data)).length := by rw [← hss]; simp
    rw [hl] at hrow;refine ⟨_, rfl, g.β, g.ρ, ?_, ?_, ?_⟩
    ·simp only [G.out, Option.getD_none]; exact sim_below hbel sm
    ·simp only [G.out, Option.getD_none]; exact R.ownsRow sm hrow
    ·simp only [G.out, Option.getD_none]; exact keep_below hbel
   ·cases h
  ·cases h
 ·cases h
end Go.Ab
end
section
namespace Go.Ab
theorem opq_turn {g : G} (s : Sim g) {i : Nat} {φ φ' : Opq} (hM : g.M[i]? = some (.opq φ)) {w' : World} {rb : Nat} (hsize : g.w.heap.size ≤ w'.heap.size) (io : SameIO g.w w')
  (hblk : ∀ k, k < g.w.heap.size → k ≠ g.β i → k ≠ (g.ρ i).b → w'.heap[k]? = g.w.heap[k]?)
  (hrb : rb = (g.ρ i).b ∨ rb = g.β i ∨ (g.w.heap.size ≤ rb ∧ rb < w'.heap.size)) (hφ : φ' (g.β i) rb (w'.heap[g.β i]?) (w'.heap[rb]?)) :
  Keep g ⟨g.M.set i (.opq φ'), g.β, upd g.ρ i ⟨rb, 0, 0, nobs⟩, w', g.X⟩ ∧ Sim ⟨g.M.set i (.opq φ'), g.β, upd g.ρ i ⟨rb, 0, 0, nobs⟩, w', g.X⟩ := by
 have hil : i < g.M.length := by
  rcases Nat.lt_or_ge i g.M.length with h | h
  ·exact h
  ·simp [List.getElem?_eq_none h] at hM
 have cov1 : ∀ off, (AObj.opq φ).covers (g.β i) (g.ρ i) ⟨g.β i, off, none⟩ := fun _ => .inl rfl;have cov2 : ∀ off, (AObj.opq φ).covers (g.β i) (g.ρ i) ⟨(g.ρ i).b, off, none⟩ := fun _ => .inr rfl
 have get : ∀ {j : Nat} {o : AObj}, (g.M.set i (.opq φ'))[j]? = some o → (j ≠ i ∧ g.M[j]? = some o) ∨ (j = i ∧ o = .opq φ') := by
  intro j o h;rw [List.getElem?_set] at h;by_cases hj : i = j
  ·subst hj;rw [if_pos rfl, if_pos hil] at h;exact .inr ⟨rfl, (Option.some.inj h).symm⟩
  ·rw [if_neg hj] at h;exact .inl ⟨fun e => hj e.symm, h⟩
 have other : ∀ {j : Nat} {o : AObj} {a : Addr}, j ≠ i → g.M[j]? = some o → o.covers (g.β j) (g.ρ j) a → a.block ≠ g.β i ∧ a.block ≠ (g.ρ i).b := by
  intro j o a hj ho hc;refine ⟨fun e => hj (s.disj j i o _ a ho hM hc (.inl e)), fun e => hj (s.disj j i o _ a ho hM hc (.inr e))⟩
 have heap : ∀ {j : Nat} {o : AObj} {a : Addr}, j ≠ i → g.M[j]? = some o → o.covers (g.β j) (g.ρ j) a → w'.heap[a.block]? = g.w.heap[a.block]? := by
  intro j o a hj ho hc;exact hblk _ (s.inb a (Lm ho hc)) (other hj ho hc).1 (other hj ho hc).2
 have unreg : ∀ {a : Addr}, ¬ g.reg a → a.block ≠ g.β i ∧ a.block ≠ (g.ρ i).b := by
  intro a h;exact ⟨fun e => h (Lm hM (.inl e)), fun e => h (Lm hM (.inr e))⟩
 have regs : ∀ a, a.block < g.w.heap.size → ¬ g.reg a → ¬ (⟨g.M.set i (.opq φ'), g.β, upd g.ρ i ⟨rb, 0, 0, nobs⟩, w', g.X⟩ : G).reg a := by
  intro a ha hr hr';rcases hr' with hr' | ⟨j, o, hj, hc⟩
  ·exact hr (.inl hr')
  rcases get hj with ⟨hne, hj'⟩ | ⟨rfl, rfl⟩
  ·exact hr (Lm hj' (by simpa [Le _ _ hne] using hc))
  ·have hc' : a.block = g.β j ∨ a.block = rb := by simpa [AObj.covers] using hc
   have h2 := unreg hr;rcases hc' with h | h
   ·exact h2.1 h
   ·rcases hrb with h' | h' | h'
    ·exact h2.2 (h.trans h')
    ·exact h2.1 (h.trans h')
    ·omega
 have xne : ∀ {a : Addr}, g.X a → a.block ≠ g.β i ∧ a.block ≠ (g.ρ i).b := fun h =>
  ⟨fun e => s.xdis _ h ⟨i, _, hM, .inl e⟩, fun e => s.xdis _ h ⟨i, _, hM, .inr e⟩⟩
 have k : Keep g ⟨g.M.set i (.opq φ'), g.β, upd g.ρ i ⟨rb, 0, 0, nobs⟩, w', g.X⟩ := by
  refine ⟨⟨by simp, fun _ _ => rfl, fun t ht e' he' => ?_, hsize, fun a x hx hr => ?_, regs, fun b hb hr => ?_, io⟩, fun _ h => h, fun a ha hx => ?_, fun b hb hx => ?_⟩
  ·rcases get he' with ⟨hne, h⟩ | ⟨_, h⟩
   ·exact ⟨e', h, Nat.le_refl _, fun _ => Le _ _ hne⟩
   ·cases h
  ·rw [← hx]; simp only [World.cell?]; rw [hblk _ (cell_lt hx) (unreg hr).1 (unreg hr).2]
  ·exact hblk b hb (unreg (hr 0)).1 (unreg (hr 0)).2
  ·simp only [World.cell?, World.frozen?]; rw [hblk _ ha (xne hx).1 (xne hx).2]; exact ⟨rfl, rfl⟩
  ·exact hblk b hb (xne (hx 0)).1 (xne (hx 0)).2
 have hin : ∀ a, (⟨g.M.set i (.opq φ'), g.β, upd g.ρ i ⟨rb, 0, 0, nobs⟩, w', g.X⟩ : G).reg a → a.block < w'.heap.size := by
  intro a ha;rcases ha with ha | ⟨j, o, hj, hc⟩
  ·exact Nat.lt_of_lt_of_le (s.inb a (.inl ha)) hsize
  rcases get hj with ⟨hne, hj'⟩ | ⟨rfl, rfl⟩
  ·exact Nat.lt_of_lt_of_le (s.inb a (Lm hj' (by simpa [Le _ _ hne] using hc))) hsize
  ·have hc' : a.block = g.β j ∨ a.block = rb := by simpa [AObj.covers] using hc
   have l1 := Ln s hM (.inl rfl);have l2 := Ln s hM (.inr rfl);show a.block < w'.heap.size;rcases hc' with h | h
   ·omega
   ·rcases hrb with h' | h' | h' <;> omega
 refine ⟨k, ?_⟩;refine ⟨s.fct.keep k, fun j cells hj => ?_, fun j t pos hj => ?_, fun t e ht q hq => ?_, fun j1 j2 o1 o2 a h1 h2 c1 c2 => ?_, fun a ha => ?_, fun a hx hr => ?_, fun j es hj => ?_, fun j es vis cur t hj => ?_, fun j ψ hj => ?_, fun j Po cur hj => ?_, fun j z els hj => ?_⟩
 ·rcases get hj with ⟨hne, h⟩ | ⟨_, h⟩
  ·obtain ⟨xs, T, h1, h2, h3, h4⟩ := s.blk j cells h;exact ⟨xs, T, (heap (a := ⟨g.β j, 0, none⟩) hne h rfl).trans h1, h2, fun q hq => (h3 q hq).keep k, h4⟩
  ·cases h
 ·rcases get hj with ⟨hne, h⟩ | ⟨_, h⟩
  ·exact (heap (a := ⟨g.β j, 0, none⟩) hne h rfl).trans (s.iter j t pos h)
  ·cases h
 ·rcases get ht with ⟨hne, h⟩ | ⟨_, h⟩
  ·simp only [Le _ _ hne] at hq ⊢;obtain ⟨x, h1, h2⟩ := s.room t e h q hq;have hh := heap (a := ⟨(g.ρ t).b, (g.ρ t).off + q, none⟩) hne h (show _ ∧ _ ∧ _ from ⟨rfl, by simp only; omega, by simp only; omega⟩);simp only at hh;refine ⟨x, ?_, ?_⟩
   ·simp only [World.cell?] at h1 ⊢; rw [hh]; exact h1
   ·simp only [World.frozen?] at h2 ⊢; rw [hh]; exact h2
  ·cases h
 ·rcases get h1 with ⟨n1, g1⟩ | ⟨e1, rfl⟩ <;> rcases get h2 with ⟨n2, g2⟩ | ⟨e2, rfl⟩
  ·simp only [Le _ _ n1, Le _ _ n2] at c1 c2;exact s.disj j1 j2 o1 o2 a g1 g2 c1 c2
  ·exfalso;simp only [Le _ _ n1] at c1;subst e2;have hc : a.block = g.β j2 ∨ a.block = rb := by simpa [AObj.covers] using c2
   have ho := other n1 g1 c1;have hl := s.inb a (Lm g1 c1);rcases hc with h | h
   ·exact ho.1 h
   ·rcases hrb with h' | h' | h'
    ·exact ho.2 (h.trans h')
    ·exact ho.1 (h.trans h')
    ·omega
  ·exfalso;simp only [Le _ _ n2] at c2;subst e1;have hc : a.block = g.β j1 ∨ a.block = rb := by simpa [AObj.covers] using c1
   have ho := other n2 g2 c2;have hl := s.inb a (Lm g2 c2);rcases hc with h | h
   ·exact ho.1 h
   ·rcases hrb with h' | h' | h'
    ·exact ho.2 (h.trans h')
    ·exact ho.1 (h.trans h')
    ·omega
  ·rw [e1, e2]
 ·exact hin a ha
 ·obtain ⟨j, o, hj, hc⟩ := hr;have hx0 := xne hx;have hl := s.inb a (.inl hx);rcases get hj with ⟨hne, hj'⟩ | ⟨rfl, rfl⟩
  ·exact s.xdis a hx ⟨j, o, hj', by simpa [Le _ _ hne] using hc⟩
  ·have hc' : a.block = g.β j ∨ a.block = rb := by simpa [AObj.covers] using hc
   rcases hc' with h | h
   ·exact hx0.1 h
   ·rcases hrb with h' | h' | h'
    ·exact hx0.2 (h.trans h')
    ·exact hx0.1 (h.trans h')
    ·omega
 ·rcases get hj with ⟨hne, h⟩ | ⟨_, h⟩
  ·obtain ⟨o, h1, h2⟩ := s.mapo j es h;exact ⟨o, (heap (a := ⟨g.β j, 0, none⟩) hne h rfl).trans h1, h2.keep k⟩
  ·cases h
 ·rcases get hj with ⟨hne, h⟩ | ⟨_, h⟩
  ·obtain ⟨t1, t2, o, oi, h1, h2, h3⟩ := s.mapr j es vis cur t h;simp only [Le _ _ hne];exact ⟨by simpa using t1, t2, o, oi, (heap (a := ⟨g.β j, 0, none⟩) hne h (.inl rfl)).trans h1, (heap (a := ⟨(g.ρ j).b, 0, none⟩) hne h (.inr rfl)).trans h2, h3.keep k⟩
  ·cases h
 ·rcases get hj with ⟨hne, h⟩ | ⟨rfl, h⟩
  ·have e1 := heap (a := ⟨g.β j, 0, none⟩) hne h (.inl rfl);have e2 := heap (a := ⟨(g.ρ j).b, 0, none⟩) hne h (.inr rfl);simp only at e1 e2;simp only [Le _ _ hne];show ψ.rel ψ.bs _ _ (w'.heap[g.β j]?) (w'.heap[(g.ρ j).b]?);rw [e1, e2]; exact s.opq j ψ h
  ·cases h;simp only [Lq];exact hφ
 ·rcases get hj with ⟨hne, h⟩ | ⟨_, h⟩
  ·exact s.ownKeep k.toKeep0 hin h hj rfl (by simp [Le _ _ hne]) fun b hb => heap (a := ⟨b, 0, none⟩) hne h (AObj.whole.covers hb)
  ·cases h
 ·rcases get hj with ⟨hne, h⟩ | ⟨_, h⟩
  ·exact (s.arr j z els h).keep0 k.toKeep0 fun hz => heap (a := ⟨g.β j, 0, none⟩) hne h ⟨hz, rfl⟩
  ·cases h
theorem AWp.regAlloc {P : Program} {n B : Nat} {Q : Exit → St → Prop} {σ : St} {id d1 : Nat} {ops : Array Oper} {o1 : Oper} {T : TypeId} {z : Value} {cs : Array Value} (φ : Opq) (ho : ops.toList = [o1]) (ho1 : o1.op = .alloc T) (hg : o1.guard = none)
  (hd1 : o1.dst = some d1) (hd : dstsOk ops n ops.toList [] = true) (hn : noTags σ.A = true) (hz : ∀ w, (zeroValue T).run P w = .ok z w) (hc : z.cells = cs)
  (hφ : ∀ b o, φ b b (some (.cells cs T (0, 0))) o) {dead : List Nat} (h : Q .normal ⟨⟨d1, none, .ptr σ.M.length 0⟩ :: without dead (without [d1] σ.A), σ.M ++ [.opq φ]⟩) :
  AWp P n B (.region id ops false) Q σ := by
 obtain ⟨A, M⟩ := σ;intro g0 g a at_;have hgM : g.M = M := at_.mem
 have htags : tagsIn A [] := fun e he τ hτ => by
  have := List.all_eq_true.1 hn e he;simp [hτ] at this
 have hd' := hd;rw [ho] at hd';unfold dstsOk at hd';rw [hd1] at hd';simp only [Bool.and_eq_true] at hd';have htag : tagOf ops o1 = some none := by unfold tagOf; rw [hg]
 have hdl : d1 < a.tmps.size := by
  rw [at_.size];simpa using hd'.1
 refine wp_region_list ?_;rw [ho];unfold wpList;rw [wanted_iff htag];simp only [tagB, if_true];left
 have hrun : (Instr.alloc T true (.tuple #[])).run P g.w = .ok (.pointer (some ⟨g.w.heap.size, 0, none⟩)) { g.w with heap := g.w.heap.push (.cells cs T) } := by
  simp [Instr.alloc, hz, newVar, newRow, hc]
 have hDoes : Does P o1 a g.w (fun v' w'' => v' = .pointer (some ⟨g.w.heap.size, 0, none⟩) ∧ w'' = { g.w with heap := g.w.heap.push (.cells cs T) }) := by
  obtain ⟨dst, op, type, pos, after, guard⟩ := o1;simp only at ho1;subst ho1;unfold Does;show After P _ ((do pure (Next.value (← Instr.alloc T true (.tuple #[])))).run P g.w);rw [Sem.run_bind, hrun];exact ⟨rfl, rfl⟩
 refine hDoes.wp fun v' w'' hv => ?_;obtain ⟨rfl, rfl⟩ := hv;rw [hd1];have hcov : ∀ x, (AObj.opq φ).covers g.w.heap.size (⟨g.w.heap.size, 0, 0, nobs⟩ : Room) x → x.block = g.w.heap.size := fun x hx => Or.elim hx (fun h => h) (fun h => h);have k := keep_add (g := g) (ao := .opq φ) (r := ⟨g.w.heap.size, 0, 0, nobs⟩) (w' := { g.w with heap := g.w.heap.push (.cells cs T) }) rfl hcov
 have s' := sim_add (g := g) (ao := .opq φ) (r := ⟨g.w.heap.size, 0, 0, nobs⟩) (w' := { g.w with heap := g.w.heap.push (.cells cs T) }) rfl hcov at_.sim
  (fun cs hcs => by cases hcs) (fun _ _ h => by cases h) (fun _ h => by cases h) (hopq := fun ψ hψ => by
   cases hψ;simp only [Array.getElem?_push_size];exact hφ _ _)
 have hr : R (g.add (.opq φ) ⟨g.w.heap.size, 0, 0, nobs⟩ { g.w with heap := g.w.heap.push (.cells cs T) }) (.ptr g.M.length 0) (.pointer (some ⟨g.w.heap.size, 0, none⟩)) := by
  have q : R (g.add (.opq φ) ⟨g.w.heap.size, 0, 0, nobs⟩ { g.w with heap := g.w.heap.push (.cells cs T) }) (.ptr g.M.length 0) (.pointer (some ⟨(g.add (.opq φ) ⟨g.w.heap.size, 0, 0, nobs⟩ { g.w with heap := g.w.heap.push (.cells cs T) }).β g.M.length, 0, none⟩)) :=
   .ptr _ _ (by simp [G.add])
  simp only [G.add, Lq] at q;exact q
 have hA' := (EnvRel.keep k at_.env).put (a := a) (dst := some d1) (tag := none) (fun d hd => by cases hd; exact ⟨hdl, free_of htags (by simp), fun τ hτ => by cases hτ⟩) hr;unfold wpList;refine ⟨_, g.add (.opq φ) ⟨g.w.heap.size, 0, 0, nobs⟩ { g.w with heap := g.w.heap.push (.cells cs T) }, h, rfl, at_.base, at_.ax, at_.keep.trans k, ?_, s', ?_, by rw [size_put]; exact at_.size, by rw [defers_put]; exact at_.defers⟩
 ·show g.M ++ _ = M ++ _;rw [hgM]
 ·intro t tag av he;rw [hgM] at hA';by_cases ht : d1 = t
  ·subst ht;refine hA' _ _ _ ?_;simpa [ent] using he
  ·refine hA' _ _ _ ?_;have he' : ent (without dead (without [d1] A)) t = some (tag, av) := by simpa [ent, ht] using he
   rw [without_ent] at he';split at he'
   ·cases he'
   rw [without_ent] at he';split at he'
   ·cases he'
   ·simpa [ent, ht] using he'
end Go.Ab
end
