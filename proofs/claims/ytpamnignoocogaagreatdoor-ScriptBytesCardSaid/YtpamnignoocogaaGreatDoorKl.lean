/- The library's iterators over a map's keys, as contracts on abstract values: over any program that bears the library's bodies. No condition. -/
import Derived.Test.YtpamnignoocogaaGreatDoorM11
import Derived.Test.YtpamnignoocogaaGreatDoorPn
import Derived.Shelf.SlIterI.Nil
import Derived.Maps.OwnSet
import Derived.WideShapes
namespace Go.Ab
open Go.Proofs Go.Shelf Go.Sort Go.Maps

/-- The keys of a map. -/
def keysM {K V : Type} (m : List (K × V)) : List K := m.map (·.1)
def keysV (es : List (AV × AV)) : List Int := es.map fun e => dkI e.1
def IntKeys (k : IntKind) (es : List (AV × AV)) : Prop := ∀ e ∈ es, e.1 = kI k (dkI e.1)
@[simp] theorem keysV_encM {V : Type} (k : IntKind) (vE : V → AV) (m : List (Int × V)) : keysV (encM (kI k) vE m) = keysM m := by
  simp only [keysV, encM, keysM, List.map_map]
  exact List.map_congr_left fun e _ => rfl
@[simp] theorem intKeys_encM {V : Type} (k : IntKind) (vE : V → AV) (m : List (Int × V)) : IntKeys k (encM (kI k) vE m) ↔ True :=
  ⟨fun _ => trivial, fun _ e he => by obtain ⟨p, _, rfl⟩ := List.mem_map.1 he; rfl⟩
@[simp] theorem keysV_nil : keysV [] = [] := rfl
@[simp] theorem keysM_nil {K V : Type} : keysM ([] : List (K × V)) = [] := rfl
@[simp] theorem intKeys_nil (k : IntKind) : IntKeys k [] ↔ True := ⟨fun _ => trivial, fun _ e he => by cases he⟩
/-- What collecting them asks. -/
def KeysB (l : List Int) : Prop := (∀ x ∈ l, (Lit.int .i64 x).wf = true) ∧ l.length * 8 ≤ 140737488355328
def sortL (l : List Int) : List Int := l.mergeSort fun x y => decide (x ≤ y)
/-- What the least of a list asks. -/
def MinB (l : List Int) : Prop := 0 < l.length ∧ l.length ≤ 4611686018427387904
def minL (l : List Int) : Int := l.foldl min (l.headD 0)

/-- A slice that owns its block, made by the call. -/
theorem R.ownsRow {g : G} {w' : World} (sm : Sim g) {e : TypeId} {v : Value} {l : List Int} (h : w'.ownsRow g.w.heap.size e 1 v l.length (l.map encZ)) : R { g with w := w' } (.sl (l.map (eNum .i64)) .no) v := by
  rcases h.2 with ⟨rfl, hz⟩ | ⟨gb, cap, cur, rfl, hbase, hgb, hcap, _, hsz, htake⟩
  · have : l = [] := List.eq_nil_of_length_eq_zero hz
    subst this
    exact .nil _ trivial
  · have hlen : (l.map (eNum .i64)).length = l.length := by simp
    have q : R { g with w := w' } (.sl (l.map (eNum .i64)) .no) (.slice (some ⟨gb, 0, none⟩) (l.map (eNum .i64)).length cap) := by
      have hcur : ∀ i, i < l.length → cur[i]? = some (encZ (l.getD i 0)) := fun i hi => by
        have : (cur.toList.take (l.length * 1))[i]? = some (encZ (l.getD i 0)) := by
          rw [htake, List.getElem?_map]
          simp [hi]
        rw [List.getElem?_take_of_lt (by omega)] at this
        simpa using this
      refine .sl _ .no gb 0 1 cap (fun i _ => encZ (l.getD i 0)) (fun i hi => by simp) (fun i j hi hj => ?_) (fun i j hi hj hr => ?_) (fun i j hi hj => ?_) (fun _ _ _ _ => rfl) trivial (by omega)
      · have hj0 : j = 0 := by omega
        subst hj0
        have := hcur i (by omega)
        simp only [World.cell?, hgb, Nat.zero_add, Nat.mul_one, Nat.add_zero]
        simpa using this
      · have := sm.inb _ hr
        simp only at this
        omega
      · have hj0 : j = 0 := by simp at hj; omega
        subst hj0
        have hi' : i < l.length := by omega
        simp only [List.getElem_map, encI_def, List.getElem_cons_zero]
        rw [show (l.getD i 0) = l[i] by simp [hi']]
        exact .lit _
    rw [hlen] at q; exact q

theorem owns_of {g : G} (sm : Sim g) {i : Nat} {es : List (AV × AV)} (hM : g.M[i]? = some (.mapo es)) (hk : IntKeys .i64 es) (hb : KeysB (keysV es)) {P : Program} {k : TypeId} (hkt : P.underlying k = some (.int .i64)) :
    ∃ (D0 : DataW Unit) (R0 : Value → Option (DataW Unit × List MemPlace)), g.w.ownsMap P k R0 (g.β i) es.length D0 ∧ (intKeys D0).Perm (keysV es) ∧ Maps.size D0 = es.length := by
  obtain ⟨ents, clock, hh, hst, he⟩ := map_at sm hM
  have hlen := he.len
  simp only [Array.length_toList] at hlen
  have hkey : ∀ (es : List (AV × AV)) (l : List MapEntry), EntR g es l → IntKeys .i64 es → l.map (·.key) = (keysV es).map encZ := by
    intro es l h
    induction h with
    | nil => intro _; rfl
    | @cons a v es e l hk hv r ih =>
      intro q
      have h1 := q (a, v) (.head _)
      simp only at h1
      rw [h1] at hk
      have h2 : e.key = .int .i64 (dkI a) := hk.lit_inv
      simp only [List.map_cons, keysV, h2]
      rw [ih fun e he => q e (.tail _ he)]; rfl
  have hks := hkey es ents.toList he hk
  have hread : ∀ x ∈ ents.toList, ∃ n : Int, x.key = encZ n ∧ n ∈ keysV es := fun x hx => by
    have : x.key ∈ ents.toList.map (·.key) := List.mem_map.2 ⟨x, hx, rfl⟩
    rw [hks] at this
    obtain ⟨n, hn, e⟩ := List.mem_map.1 this
    exact ⟨n, e.symm, hn⟩
  let R0 : Value → Option (DataW Unit × List MemPlace) := fun _ => some (.nil, [])
  have hrd : ∀ x ∈ ents.toList, ∃ n : Int, x.key = encZ n ∧ WideElems.rd P k R0 x = some (.int .i64 n, .nil) := fun x hx => by
    obtain ⟨n, hn, hmem⟩ := hread x hx
    refine ⟨n, hn, ?_⟩
    simp only [WideElems.rd, hn, R0, Option.map_some]
    rw [show encZ n = .int .i64 n from rfl, Maps.keyOf_int_mk hkt (hb.1 n hmem)]
    rfl
  refine ⟨.map ((ents.toList.map (WideElems.rg P k R0)).foldr DataW.insert []), R0, ⟨ents, clock, hh, ⟨?_, hst, fun x hx => ?_⟩, by omega, rfl⟩, ?_, ?_⟩
  · have := hb.2
    simp only [keysV, List.length_map] at this
    simp only [maxLen]; omega
  · obtain ⟨n, _, h⟩ := hrd x hx
    exact ⟨_, h⟩
  · show (((ents.toList.map (WideElems.rg P k R0)).foldr DataW.insert []).map fun p => intOf p.1).Perm _
    refine ((WideShapes.sorted_perm _).map _).trans ?_
    rw [List.map_map]
    have : ents.toList.map ((fun p => intOf p.1) ∘ WideElems.rg P k R0) = keysV es := by
      have h2 : (ents.toList.map (·.key)).map (fun v => match v with | .int _ n => n | _ => 0) = keysV es := by
        rw [hks, List.map_map]
        exact (List.map_congr_left fun n _ => rfl).trans (List.map_id _)
      rw [← h2, List.map_map]
      refine List.map_congr_left fun x hx => ?_
      obtain ⟨n, h3, h4⟩ := hrd x hx
      simp only [Function.comp, WideElems.rg, h4, Option.getD_some, intOf, h3]
    rw [this]
  · rw [Maps.size_eq, Go.length_read]; omega

/-- What is said of a map that owns what its values point to tells its keys. -/
def OwnKeys (Q : Own) : Prop := ∀ w C bs l, Q.rel w C bs l → l.map (·.1) = Q.data.map fun e => .int .i64 (dkI e.1)
@[simp] theorem ownKeys_ownP {T : Type} (key : Value → Prop) (fl : T → AV) (N : T → List AObj) (V : T → AV) (rows : List (Int × T)) : OwnKeys (ownP key (Value.int .i64) fl N V rows none) ↔ True :=
  ⟨fun _ => trivial, fun _ w C bs l h => by
    rw [Rows.mem h]
    simp only [ownP, List.map_map]
    rfl⟩
theorem owns_own {g : G} (sm : Sim g) {i : Nat} {Q : Own} (hM : g.M[i]? = some (.own Q none)) (hq : OwnKeys Q) (hb : KeysB (keysV Q.data)) {P : Program} {k : TypeId} (hkt : P.underlying k = some (.int .i64)) :
    ∃ (D0 : DataW Unit) (R0 : Value → Option (DataW Unit × List MemPlace)), g.w.ownsMap P k R0 (g.β i) Q.data.length D0 ∧ (intKeys D0).Perm (keysV Q.data) ∧ Maps.size D0 = Q.data.length := by
  obtain ⟨ents, clock, hh, hst, _, _, hrel, _⟩ := sm.own i Q none hM
  have hks : ents.toList.map (·.key) = (keysV Q.data).map encZ := by
    have := hq _ _ _ _ hrel
    simp only [pairsOf, List.map_map] at this
    simp only [keysV, List.map_map]
    exact this
  have hlen : ents.toList.length = Q.data.length := by
    have := congrArg List.length hks
    simpa [keysV] using this
  simp only [Array.length_toList] at hlen
  have hread : ∀ x ∈ ents.toList, ∃ n : Int, x.key = encZ n ∧ n ∈ keysV Q.data := fun x hx => by
    have : x.key ∈ ents.toList.map (·.key) := List.mem_map.2 ⟨x, hx, rfl⟩
    rw [hks] at this
    obtain ⟨n, hn, e⟩ := List.mem_map.1 this
    exact ⟨n, e.symm, hn⟩
  let R0 : Value → Option (DataW Unit × List MemPlace) := fun _ => some (.nil, [])
  have hrd : ∀ x ∈ ents.toList, ∃ n : Int, x.key = encZ n ∧ WideElems.rd P k R0 x = some (.int .i64 n, .nil) := fun x hx => by
    obtain ⟨n, hn, hmem⟩ := hread x hx
    refine ⟨n, hn, ?_⟩
    simp only [WideElems.rd, hn, R0, Option.map_some]
    rw [show encZ n = .int .i64 n from rfl, Maps.keyOf_int_mk hkt (hb.1 n hmem)]
    rfl
  refine ⟨.map ((ents.toList.map (WideElems.rg P k R0)).foldr DataW.insert []), R0, ⟨ents, clock, hh, ⟨?_, hst, fun x hx => ?_⟩, by omega, rfl⟩, ?_, ?_⟩
  · have := hb.2
    simp only [keysV, List.length_map] at this
    simp only [maxLen]; omega
  · obtain ⟨n, _, h⟩ := hrd x hx
    exact ⟨_, h⟩
  · show (((ents.toList.map (WideElems.rg P k R0)).foldr DataW.insert []).map fun p => intOf p.1).Perm _
    refine ((WideShapes.sorted_perm _).map _).trans ?_
    rw [List.map_map]
    have : ents.toList.map ((fun p => intOf p.1) ∘ WideElems.rg P k R0) = keysV Q.data := by
      have h2 : (ents.toList.map (·.key)).map (fun v => match v with | .int _ n => n | _ => 0) = keysV Q.data := by
        rw [hks, List.map_map]
        exact (List.map_congr_left fun n _ => rfl).trans (List.map_id _)
      rw [← h2, List.map_map]
      refine List.map_congr_left fun x hx => ?_
      obtain ⟨n, h3, h4⟩ := hrd x hx
      simp only [Function.comp, WideElems.rg, h4, Option.getD_some, intOf, h3]
    rw [this]
  · rw [Maps.size_eq, Go.length_read]; omega

/-- 'maps.Keys'. -/
@[simp] def keysS (k : Nat) : Sp
  | [.mp i], M => match M[i]? with
    | some (.mapo _) => some { av := .fn k [.mp i] }
    | some (.own _ none) => some { av := .fn k [.mp i] }
    | _ => none
  | _, _ => none

theorem keys_ok {P : Program} {ρ : Ren} (L : SlLaysZI.n7 P ρ) {f k : Nat} (hf : ρ.f 7 = f) (hk : ρ.f 10 = k) (hent : ∀ args w, (callFunc f args).run P w = .ok (.enter f args) w) : SpecOk P f (keysS k) := by
  subst hf; subst hk
  intro l M out h
  unfold keysS at h
  split at h
  · rename_i i
    have h : some ({ av := .fn (ρ.f 10) [.mp i] } : Out) = some out := by
      split at h
      · exact h
      · exact h
      · cases h
    · cases h
      intro g vs hM sm hr _
      cases hr with | cons hv hr => cases hr with | nil =>
      cases hv with
      | mp _ hi =>
      refine ⟨hent _ _, ?_⟩
      refine ((callsIn_wide (n := 5)).1 (AnyZI.keys_in L Fence.wide 5 trivial rfl _ _)).mono fun e w' => ?_
      rintro ⟨rfl, rfl⟩
      have hw : (g.w.alloc (.cells #[.map (some (g.β i))] (ρ.t 23))).heap = g.w.heap.push (.cells #[.map (some (g.β i))] (ρ.t 23)) := rfl
      refine ⟨_, rfl, g.β, g.ρ, ?_, ?_, ?_⟩
      · simp only [G.out, Option.getD_none]
        exact sim_push hw sm
      · simp only [G.out, Option.getD_none]
        have q : R { g with w := g.w.alloc (.cells #[.map (some (g.β i))] (ρ.t 23)) } (.fn (ρ.f 10) [.mp i]) (.func (.func (ρ.f 10)) #[] ((List.range [AV.mp i].length).map fun j => Value.pointer (some ⟨(fun _ => g.w.heap.size) j, 0, none⟩)).toArray) := by
          refine .fn (ρ.f 10) [.mp i] (fun _ => g.w.heap.size) (fun _ => .map (some (g.β i))) (fun j hj => ?_) (fun j hj hreg => ?_) (fun j hj => ?_)
          · simp [World.cell?, hw]
          · have := sm.inb _ hreg
            simp at this
          · have hj0 : j = 0 := by simp at hj; omega
            subst hj0
            exact .mp (g := { g with w := g.w.alloc (.cells #[.map (some (g.β i))] (ρ.t 23)) }) i hi
        exact q
      · simp only [G.out, Option.getD_none]
        exact keep_push hw
  · cases h

theorem fn_inv {g : G} {f : Nat} {i : Nat} {v : Value} (h : R g (.fn f [.mp i]) v) : ∃ b, v = .func (.func f) #[] #[.pointer (some ⟨b, 0, none⟩)] ∧ g.w.cell? ⟨b, 0, none⟩ = some (.map (some (g.β i))) ∧ i < g.M.length := by
  cases h with
  | fn _ _ bs us h1 h2 h3 =>
    have h4 := h3 0 (by simp)
    simp only [List.getElem_cons_zero] at h4
    generalize hu : us 0 = u at h4
    cases h4 with
    | mp _ hi =>
      refine ⟨bs 0, by simp [List.range_succ], ?_, hi⟩
      have := h1 0 (by simp)
      rw [hu] at this; exact this

/-- 'slices.Sorted' of a map's keys. -/
@[simp] def sortedS (k : Nat) : Sp
  | [.fn k' [.mp i]], M => if k' = k then (match M[i]? with
    | some (.mapo es) => some { av := .sl ((sortL (keysV es)).map (eNum .i64)) .no, obl := IntKeys .i64 es ∧ KeysB (keysV es) }
    | some (.own Q none) => some { av := .sl ((sortL (keysV Q.data)).map (eNum .i64)) .no, obl := OwnKeys Q ∧ KeysB (keysV Q.data) }
    | _ => none) else none
  | _, _ => none

theorem sorted_ok {P : Program} {ρ ρ' : Ren} (L : SlLaysZI.n6 P ρ) (L' : SlLaysZI.n10 P ρ') {f k : Nat} (hf : ρ.f 6 = f) (hk : ρ'.f 10 = k) (hent : ∀ args w, (callFunc f args).run P w = .ok (.enter f args) w)
    (hsort : ∀ m, AnyZI.SortsIn P ρ Fence.wide m) (e9 : ∀ args w, (callFunc (ρ.f 9) args).run P w = .ok (.enter (ρ.f 9) args) w) (eg : ∀ args w, (callFunc k args).run P w = .ok (.enter k args) w) : SpecOk P f (sortedS k) := by
  subst hf; subst hk
  intro l M out h
  unfold sortedS at h
  split at h
  · rename_i k' i
    split at h
    · rename_i hkk
      subst hkk
      split at h
      · rename_i es hMi
        cases h
        intro g vs hM sm hr ho
        subst hM
        cases hr with | cons hv hr => cases hr with | nil =>
        obtain ⟨b, rfl, hcell, hi⟩ := fn_inv hv
        refine ⟨hent _ _, ?_⟩
        obtain ⟨D0, R0, hown, hperm, hsize⟩ := owns_of sm hMi ho.1 ho.2 (P := P) (k := ρ'.t 26) L'.t26
        have hseq : SeqGives Fence.wide 2 P (ρ'.f 10) #[.pointer (some ⟨b, 0, none⟩)] encZ (fun ss => ss.Perm (intKeys D0)) (Maps.size D0) g.w :=
          AnyZI.keys_gives L' Fence.wide 2 trivial rfl (by omega) b (g.β i) es.length D0 g.w (cell_lt hcell) hcell hown
        have hbd := ho.2.2
        simp only [keysV, List.length_map] at hbd
        have cS := AnyZI.sorted_in L Fence.wide 5 trivial trivial trivial trivial rfl (by omega) (hsort _) e9 (ρ'.f 10) #[.pointer (some ⟨b, 0, none⟩)] trivial eg _ _ (by rw [hsize]; simp only [maxLen]; omega) (by rw [hsize]; exact hbd) g.w hseq
        refine ((callsIn_wide (n := 5)).1 cS).mono fun e w' => ?_
        rintro ⟨v, ss, rfl, hS, hrow, _, hbel⟩
        have hss : ss.mergeSort (fun x y => decide (x ≤ y)) = sortL (keysV es) := mergeSort_of_perm_i (hS.trans hperm)
        rw [hss] at hrow
        have hl : ss.length = (sortL (keysV es)).length := by rw [← hss]; simp
        rw [hl] at hrow
        refine ⟨_, rfl, g.β, g.ρ, ?_, ?_, ?_⟩
        · simp only [G.out, Option.getD_none]; exact sim_below hbel sm
        · simp only [G.out, Option.getD_none]; exact R.ownsRow sm hrow
        · simp only [G.out, Option.getD_none]; exact keep_below hbel
      · rename_i Qo hMi
        cases h
        intro g vs hM sm hr ho
        subst hM
        cases hr with | cons hv hr => cases hr with | nil =>
        obtain ⟨b, rfl, hcell, hi⟩ := fn_inv hv
        refine ⟨hent _ _, ?_⟩
        obtain ⟨D0, R0, hown, hperm, hsize⟩ := owns_own sm hMi ho.1 ho.2 (P := P) (k := ρ'.t 26) L'.t26
        have hseq : SeqGives Fence.wide 2 P (ρ'.f 10) #[.pointer (some ⟨b, 0, none⟩)] encZ (fun ss => ss.Perm (intKeys D0)) (Maps.size D0) g.w :=
          AnyZI.keys_gives L' Fence.wide 2 trivial rfl (by omega) b (g.β i) Qo.data.length D0 g.w (cell_lt hcell) hcell hown
        have hbd := ho.2.2
        simp only [keysV, List.length_map] at hbd
        have cS := AnyZI.sorted_in L Fence.wide 5 trivial trivial trivial trivial rfl (by omega) (hsort _) e9 (ρ'.f 10) #[.pointer (some ⟨b, 0, none⟩)] trivial eg _ _ (by rw [hsize]; simp only [maxLen]; omega) (by rw [hsize]; exact hbd) g.w hseq
        refine ((callsIn_wide (n := 5)).1 cS).mono fun e w' => ?_
        rintro ⟨v, ss, rfl, hS, hrow, _, hbel⟩
        have hss : ss.mergeSort (fun x y => decide (x ≤ y)) = sortL (keysV Qo.data) := mergeSort_of_perm_i (hS.trans hperm)
        rw [hss] at hrow
        have hl : ss.length = (sortL (keysV Qo.data)).length := by rw [← hss]; simp
        rw [hl] at hrow
        refine ⟨_, rfl, g.β, g.ρ, ?_, ?_, ?_⟩
        · simp only [G.out, Option.getD_none]; exact sim_below hbel sm
        · simp only [G.out, Option.getD_none]; exact R.ownsRow sm hrow
        · simp only [G.out, Option.getD_none]; exact keep_below hbel
      · cases h
    · cases h
  · cases h

/-- 'slices.Collect' of a map's keys: in some order. -/
@[simp] def collectS (k : Nat) : Sp
  | [.fn k' [.mp i]], M => if k' = k then (match M[i]? with
    | some (.mapo es) => some { av := .bag ((keysV es).map (eNum .i64)), obl := IntKeys .i64 es ∧ KeysB (keysV es) }
    | _ => none) else none
  | _, _ => none

theorem collect_ok {P : Program} {ρ ρ' : Ren} (L : SlLaysZI.n8 P ρ) (L' : SlLaysZI.n10 P ρ') {f k : Nat} (hf : ρ.f 8 = f) (hk : ρ'.f 10 = k) (hent : ∀ args w, (callFunc f args).run P w = .ok (.enter f args) w)
    (eg : ∀ args w, (callFunc k args).run P w = .ok (.enter k args) w) : SpecOk P f (collectS k) := by
  subst hf; subst hk
  intro l M out h
  unfold collectS at h
  split at h
  · rename_i k' i
    split at h
    · rename_i hkk
      subst hkk
      split at h
      · rename_i es hMi
        cases h
        intro g vs hM sm hr ho
        subst hM
        cases hr with | cons hv hr => cases hr with | nil =>
        obtain ⟨b, rfl, hcell, hi⟩ := fn_inv hv
        refine ⟨hent _ _, ?_⟩
        obtain ⟨D0, R0, hown, hperm, hsize⟩ := owns_of sm hMi ho.1 ho.2 (P := P) (k := ρ'.t 26) L'.t26
        have hseq : SeqGives Fence.wide 3 P (ρ'.f 10) #[.pointer (some ⟨b, 0, none⟩)] encZ (fun ss => ss.Perm (intKeys D0)) (Maps.size D0) g.w :=
          AnyZI.keys_gives L' Fence.wide 3 trivial rfl (by omega) b (g.β i) es.length D0 g.w (cell_lt hcell) hcell hown
        have hbd := ho.2.2
        simp only [keysV, List.length_map] at hbd
        have cS := AnyZI.collect_in L Fence.wide 5 trivial trivial rfl (by omega) (ρ'.f 10) #[.pointer (some ⟨b, 0, none⟩)] trivial eg _ _ (by rw [hsize]; simp only [maxLen]; omega) (by rw [hsize]; exact hbd) g.w hseq
        refine ((callsIn_wide (n := 5)).1 cS).mono fun e w' => ?_
        rintro ⟨v, ss, rfl, hS, hrow, _, hbel⟩
        refine ⟨_, rfl, g.β, g.ρ, ?_, ?_, ?_⟩
        · simp only [G.out, Option.getD_none]; exact sim_below hbel sm
        · simp only [G.out, Option.getD_none]
          exact .bag _ _ _ ((hS.trans hperm).map _) (R.ownsRow sm hrow)
        · simp only [G.out, Option.getD_none]; exact keep_below hbel
      · cases h
    · cases h
  · cases h

/-- 'slices.Min' of what stands in some order. -/
@[simp] def minS : Sp
  | [.bag els], _ => some { av := .lit (.int .i64 (minL (els.map decI))), obl := els = (els.map decI).map (eNum .i64) ∧ MinB (els.map decI) }
  | _, _ => none

theorem min_ok {P : Program} {f : FuncId} (h : ∀ (l : List Int) (M : List AObj), MinB l → CallOk P f [.sl (l.map (eNum .i64)) .no] M { av := .lit (.int .i64 (minL l)) })
    (hp : ∀ l l' : List Int, l.Perm l' → MinB l' → minL l = minL l') : SpecOk P f minS := by
  intro l M out ho
  unfold minS at ho
  split at ho
  · rename_i els
    cases ho
    intro g vs hM sm hr hobl
    cases hr with | cons hv hr => cases hr with | nil =>
    obtain ⟨h1, h2⟩ := hobl
    generalize hz : els.map decI = z at h1 h2 ⊢
    subst h1
    cases hv with
    | bag _ els' _ hperm hsl =>
      obtain ⟨l', q1, q2⟩ := perm_of_map (eNum .i64) hperm
      subst q2
      have hb : MinB l' := ⟨by rw [q1.length_eq]; exact h2.1, by rw [q1.length_eq]; exact h2.2⟩
      have := h l' M hb g _ hM sm (.cons hsl .nil) trivial
      rw [hp l' z q1 h2] at this
      exact this
  · cases ho
end Go.Ab
