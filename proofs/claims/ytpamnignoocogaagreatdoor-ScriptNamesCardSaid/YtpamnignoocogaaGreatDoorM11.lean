import Derived.Test.YtpamnignoocogaaGreatDoorM15
import Derived.Test.YtpamnignoocogaaGreatDoorTy
import Derived.Test.YtpamnignoocogaaGreatDoorM05
import Derived.Laws.Externs
import Derived.Test.YtpamnignoocogaaGreatDoorM04
import Derived.Shelf.SlIterI.Nil
import Derived.Maps.OwnSet
import Derived.WideShapes
import Derived.Test.YtpamnignoocogaaGreatDoorM06
section
namespace Go.Proofs
open Go.Ab
@[simp] def gX.out (_x0 : ByteArray) (_x1 : Int) (r : ByteArray) : Out := { av := .lit (.string r), M := none }
set_option maxHeartbeats 4000000 in
set_option maxRecDepth 100000 in
theorem gX.can (x0 : ByteArray) (x1 : Int) (r : ByteArray) (hr : gX x0 x1 = some r) : CallOk Tryz.prog 6 [.lit (.string x0), .lit (.int .i64 x1)] [] (gX.out x0 x1 r) := by
 unfold gX at hr;have hΓ := gamL_nil (P := Tryz.prog);refine cw Tryz.func6 rfl (by kernel_rfl) rfl rfl (by simp) fun _ _ _ => ?_;refine tq hΓ [] [] ?_;refine AWp.seq ?_;refine tq hΓ [8] [] ?_;refine AWp.cnd hr (by simp) (fun h3 hr => ?_) (fun h3 hr => ?_)
 ·obtain ⟨h4, hr⟩ := Lb hr;refine tq hΓ [4] [8, 0, 1] ?_ (by simp [h3, h4]; exact rr);obtain rfl := La hr;exact AWp.ret (Le (by simp))
 ·refine AWp.skip ?_;refine tq hΓ [4] [8, 0, 1] ?_ (by simp [h3]; exact rr);obtain rfl := La hr;exact AWp.ret (Le (by simp))
@[simp] noncomputable def gX.S : Sp
  | [.lit (.string x0), .lit (.int .i64 x1)], _ => some { av := .lit (.string ((gX x0 x1).getD dflt)), M := none, obl := (gX x0 x1).isSome = true }
  | _, _ => none
set_option maxHeartbeats 1000000 in
theorem gX.ok : SpecOk Tryz.prog 6 gX.S := by
 intro l M out h;unfold gX.S at h;split at h
 ·rename_i x0 x1;cases h;refine callOk_of fun ho => ?_;have hs := ho;obtain ⟨r, hr⟩ := so1 hs;simp only [hr, gd1];have q := Lh (M := M) [] (gX.can x0 x1 r hr) (by simp) rfl ixn;exact callOk_conv q trivial (by simp) (by simp [frameOut]) (by simp [frameOut])
 ·cases h
end Go.Proofs
end
section
namespace Go.Proofs
open Go.RowKit Go.Ab
theorem Tryz.bcSize : (Tryz.prog.info? 81).map (·.size) = some 2 := by kernel_rfl
theorem Tryz.bcLies : liesAt Tryz.prog Tryz.prog.depth 81 (2 / Tryz.prog.cellsOf 81) 0 81 1 = true := by kernel_rfl
theorem Tryz.bbyteI : (Tryz.prog.info? 5).map (fun i => (i.zero, i.size, i.bytes)) = some (some (.int .u8 0), 1, 1) := by kernel_rfl
set_option maxHeartbeats 1000000 in
set_option maxRecDepth 100000 in
theorem Tryz.bcFresh (b : Nat) (w : World) (v : Value) (hb : w.heap[b]? = some (.cells #[.pointer none, v] 81 (0, 0))) :
  Calls Tryz.prog 57 #[.pointer (some ⟨b, 0, none⟩)] w fun e w' => e = .returned (.tuple #[]) ∧ w' = w.setCell ⟨b, 0, none⟩ (.pointer (some ⟨b, 0, none⟩)) := by
 obtain ⟨j, hj, hjs⟩ := Option.map_eq_some_iff.1 Tryz.bcSize;have h0 : w.cell? ⟨b, 0, none⟩ = some (.pointer none) := by rw [Lib.cell_of_heap hb]; rfl
 have hsh : w.shape? b = some (81, 2) := by simp [World.shape?, hb]
 have hfz : w.frozen? ⟨b, 0, none⟩ = false := Lib.frozen_of_heap hb 0
 go_enter Tryz.func57, Tryz.ntmps57
 go_wp2;rw [Lib.run_to_unsafe w ⟨b, 0, none⟩ Tryz.underlying79 Tryz.underlying163 hj (by rw [hjs]; decide) hsh (Nat.zero_lt_succ 1)];simp only [Result.andThen];rw [Oper.upon_value];go_wp2;rw [run_callFunc_extern Tryz.func93 (by kernel_rfl) (by kernel_rfl) (by kernel_rfl) (e := Extern.AbiNoEscape.same) (by kernel_rfl)];rw [Lib.run_noEscape];simp only [Result.andThen];rw [Oper.upon_value];go_wp2;rw [Lib.run_from_unsafe w ⟨b, 0, none⟩ Tryz.underlying163 Tryz.underlying79 hj hsh Tryz.bcLies];simp only [Result.andThen];rw [Oper.upon_value];go_wp2
 go_end0
 exact ⟨rfl, rfl⟩
set_option maxHeartbeats 1000000 in
set_option maxRecDepth 100000 in
theorem Tryz.bcUsed (b : Nat) (w : World) (v : Value) (hb : w.heap[b]? = some (.cells #[.pointer (some ⟨b, 0, none⟩), v] 81 (0, 0))) :
  Calls Tryz.prog 57 #[.pointer (some ⟨b, 0, none⟩)] w fun e w' => e = .returned (.tuple #[]) ∧ w' = w := by
 obtain ⟨j, hj, hjs⟩ := Option.map_eq_some_iff.1 Tryz.bcSize;have h0 : w.cell? ⟨b, 0, none⟩ = some (.pointer (some ⟨b, 0, none⟩)) := by rw [Lib.cell_of_heap hb]; rfl
 go_enter Tryz.func57, Tryz.ntmps57
 go_wp2;rw [Lib.run_neq_ptr_same w _ Tryz.underlying79 hj];go_wp2
 go_end0
 exact ⟨rfl, rfl⟩
theorem Tryz.bcAny (b : Nat) (w : World) (p v : Value) (n : Nat) (xs : List Value) (hb : w.heap[b]? = some (.cells #[p, v] 81 (0, 0))) (hp : p = .pointer none ∨ p = .pointer (some ⟨b, 0, none⟩))
  (hown : w.ownsRow 0 5 1 v n xs) (hne : v.ownBlock ≠ some b) :
  Calls Tryz.prog 57 #[.pointer (some ⟨b, 0, none⟩)] w fun e w' => e = .returned (.tuple #[]) ∧ w'.heap[b]? = some (.cells #[.pointer (some ⟨b, 0, none⟩), v] 81 (0, 0)) ∧
   w'.ownsRow 0 5 1 v n xs ∧ w'.heap.size = w.heap.size ∧ WrKeep b v.ownBlock w w' ∧ ∀ k, k ≠ b → w'.heap[k]? = w.heap[k]? := by
 rcases hp with rfl | rfl
 ·refine (Tryz.bcFresh b w v hb).mono ?_;rintro e w' ⟨rfl, rfl⟩;refine ⟨rfl, by simp [World.setCell, Array.getElem?_modify, hb], ?_, by simp [World.setCell], WrKeep.setCell _ _ _ _ _, fun k hk => heap_setCell_ne hk⟩;exact hown.kept (row := some b) ⟨rfl, rfl, rfl, by simp [World.setCell], fun k _ hk => heap_setCell_ne (fun e => hk (by simp [e]))⟩ (.inr hne)
 ·refine (Tryz.bcUsed b w v hb).mono ?_;rintro e w' ⟨rfl, rfl⟩;exact ⟨rfl, hb, hown, rfl, WrKeep.refl _ _ _, fun _ _ => rfl⟩
end Go.Proofs
end
section
namespace Go.Ab
open Go.Proofs Go.Shelf Go.Sort Go.Maps
def keysV (es : List (AV × AV)) : List Int := es.map fun e => dkI e.1
def IntKeys (k : IntKind) (es : List (AV × AV)) : Prop := ∀ e ∈ es, e.1 = kI k (dkI e.1)
@[simp] theorem keysV_nil : keysV [] = [] := rfl
def KeysB (l : List Int) : Prop := (∀ x ∈ l, (Lit.int .i64 x).wf = true) ∧ l.length * 8 ≤ 140737488355328
def sortL (l : List Int) : List Int := l.mergeSort fun x y => decide (x ≤ y)
theorem R.ownsRow {g : G} {w' : World} (sm : Sim g) {e : TypeId} {v : Value} {l : List Int} (h : w'.ownsRow g.w.heap.size e 1 v l.length (l.map encZ)) : R { g with w := w' } (.sl (l.map (eNum .i64)) .no) v := by
 rcases h.2 with ⟨rfl, hz⟩ | ⟨gb, cap, cur, rfl, hbase, hgb, hcap, _, hsz, htake⟩
 ·have : l = [] := List.eq_nil_of_length_eq_zero hz;subst this;exact .nil _ trivial
 ·have hlen : (l.map (eNum .i64)).length = l.length := by simp
  have q : R { g with w := w' } (.sl (l.map (eNum .i64)) .no) (.slice (some ⟨gb, 0, none⟩) (l.map (eNum .i64)).length cap) := by
   have hcur : ∀ i, i < l.length → cur[i]? = some (encZ (l.getD i 0)) := fun i hi => by
    have : (cur.toList.take (l.length * 1))[i]? = some (encZ (l.getD i 0)) := by
     rw [htake, List.getElem?_map];simp [hi]
    rw [List.getElem?_take_of_lt (by omega)] at this;simpa using this
   refine .sl _ .no gb 0 1 cap (fun i _ => encZ (l.getD i 0)) (fun i hi => by simp) (fun i j hi hj => ?_) (fun i j hi hj hr => ?_) (fun i j hi hj => ?_) (fun _ _ _ _ => rfl) trivial (by omega)
   ·have hj0 : j = 0 := by omega
    subst hj0;have := hcur i (by omega);simp only [World.cell?, hgb, Nat.zero_add, Nat.mul_one, Nat.add_zero];simpa using this
   ·have := sm.inb _ hr;simp only at this;omega
   ·have hj0 : j = 0 := by simp at hj; omega
    subst hj0;have hi' : i < l.length := by omega
    simp only [List.getElem_map, encI_def, List.getElem_cons_zero];rw [show (l.getD i 0) = l[i] by simp [hi']];exact .lit _
  rw [hlen] at q; exact q
theorem owns_of {g : G} (sm : Sim g) {i : Nat} {es : List (AV × AV)} (hM : g.M[i]? = some (.mapo es)) (hk : IntKeys .i64 es) (hb : KeysB (keysV es)) {P : Program} {k : TypeId} (hkt : P.underlying k = some (.int .i64)) :
  ∃ (D0 : DataW Unit) (R0 : Value → Option (DataW Unit × List MemPlace)), g.w.ownsMap P k R0 (g.β i) es.length D0 ∧ (intKeys D0).Perm (keysV es) ∧ Maps.size D0 = es.length := by
 obtain ⟨ents, clock, hh, hst, he⟩ := map_at sm hM;have hlen := he.len;simp only [Array.length_toList] at hlen
 have hkey : ∀ (es : List (AV × AV)) (l : List MapEntry), EntR g es l → IntKeys .i64 es → l.map (·.key) = (keysV es).map encZ := by
  intro es l h
  induction h with
  | nil => intro _; rfl
  | @cons a v es e l hk hv r ih =>
    intro q;have h1 := q (a, v) (.head _);simp only at h1;rw [h1] at hk;have h2 : e.key = .int .i64 (dkI a) := hk.lit_inv;simp only [List.map_cons, keysV, h2];rw [ih fun e he => q e (.tail _ he)]; rfl
 have hks := hkey es ents.toList he hk
 have hread : ∀ x ∈ ents.toList, ∃ n : Int, x.key = encZ n ∧ n ∈ keysV es := fun x hx => by
  have : x.key ∈ ents.toList.map (·.key) := List.mem_map.2 ⟨x, hx, rfl⟩;rw [hks] at this;obtain ⟨n, hn, e⟩ := List.mem_map.1 this;exact ⟨n, e.symm, hn⟩
 let R0 : Value → Option (DataW Unit × List MemPlace) := fun _ => some (.nil, [])
 have hrd : ∀ x ∈ ents.toList, ∃ n : Int, x.key = encZ n ∧ WideElems.rd P k R0 x = some (.int .i64 n, .nil) := fun x hx => by
  obtain ⟨n, hn, hmem⟩ := hread x hx;refine ⟨n, hn, ?_⟩;simp only [WideElems.rd, hn, R0, Option.map_some];rw [show encZ n = .int .i64 n from rfl, Maps.keyOf_int_mk hkt (hb.1 n hmem)];rfl
 refine ⟨.map ((ents.toList.map (WideElems.rg P k R0)).foldr DataW.insert []), R0, ⟨ents, clock, hh, ⟨?_, hst, fun x hx => ?_⟩, by omega, rfl⟩, ?_, ?_⟩
 ·have := hb.2;simp only [keysV, List.length_map] at this;simp only [maxLen]; omega
 ·obtain ⟨n, _, h⟩ := hrd x hx;exact ⟨_, h⟩
 ·show (((ents.toList.map (WideElems.rg P k R0)).foldr DataW.insert []).map fun p => intOf p.1).Perm _;refine ((WideShapes.sorted_perm _).map _).trans ?_;rw [List.map_map]
  have : ents.toList.map ((fun p => intOf p.1) ∘ WideElems.rg P k R0) = keysV es := by
   have h2 : (ents.toList.map (·.key)).map (fun v => match v with | .int _ n => n | _ => 0) = keysV es := by
    rw [hks, List.map_map];exact (List.map_congr_left fun n _ => rfl).trans (List.map_id _)
   rw [← h2, List.map_map];refine List.map_congr_left fun x hx => ?_;obtain ⟨n, h3, h4⟩ := hrd x hx;simp only [Function.comp, WideElems.rg, h4, Option.getD_some, intOf, h3]
  rw [this]
 ·rw [Maps.size_eq, Go.length_read]; omega
def OwnKeys (Q : Own) : Prop := ∀ w C bs l, Q.rel w C bs l → l.map (·.1) = Q.data.map fun e => .int .i64 (dkI e.1)
theorem owns_own {g : G} (sm : Sim g) {i : Nat} {Q : Own} (hM : g.M[i]? = some (.own Q none)) (hq : OwnKeys Q) (hb : KeysB (keysV Q.data)) {P : Program} {k : TypeId} (hkt : P.underlying k = some (.int .i64)) :
  ∃ (D0 : DataW Unit) (R0 : Value → Option (DataW Unit × List MemPlace)), g.w.ownsMap P k R0 (g.β i) Q.data.length D0 ∧ (intKeys D0).Perm (keysV Q.data) ∧ Maps.size D0 = Q.data.length := by
 obtain ⟨ents, clock, hh, hst, _, _, hrel, _⟩ := sm.own i Q none hM
 have hks : ents.toList.map (·.key) = (keysV Q.data).map encZ := by
  have := hq _ _ _ _ hrel;simp only [pairsOf, List.map_map] at this;simp only [keysV, List.map_map];exact this
 have hlen : ents.toList.length = Q.data.length := by
  have := congrArg List.length hks;simpa [keysV] using this
 simp only [Array.length_toList] at hlen
 have hread : ∀ x ∈ ents.toList, ∃ n : Int, x.key = encZ n ∧ n ∈ keysV Q.data := fun x hx => by
  have : x.key ∈ ents.toList.map (·.key) := List.mem_map.2 ⟨x, hx, rfl⟩;rw [hks] at this;obtain ⟨n, hn, e⟩ := List.mem_map.1 this;exact ⟨n, e.symm, hn⟩
 let R0 : Value → Option (DataW Unit × List MemPlace) := fun _ => some (.nil, [])
 have hrd : ∀ x ∈ ents.toList, ∃ n : Int, x.key = encZ n ∧ WideElems.rd P k R0 x = some (.int .i64 n, .nil) := fun x hx => by
  obtain ⟨n, hn, hmem⟩ := hread x hx;refine ⟨n, hn, ?_⟩;simp only [WideElems.rd, hn, R0, Option.map_some];rw [show encZ n = .int .i64 n from rfl, Maps.keyOf_int_mk hkt (hb.1 n hmem)];rfl
 refine ⟨.map ((ents.toList.map (WideElems.rg P k R0)).foldr DataW.insert []), R0, ⟨ents, clock, hh, ⟨?_, hst, fun x hx => ?_⟩, by omega, rfl⟩, ?_, ?_⟩
 ·have := hb.2;simp only [keysV, List.length_map] at this;simp only [maxLen]; omega
 ·obtain ⟨n, _, h⟩ := hrd x hx;exact ⟨_, h⟩
 ·show (((ents.toList.map (WideElems.rg P k R0)).foldr DataW.insert []).map fun p => intOf p.1).Perm _;refine ((WideShapes.sorted_perm _).map _).trans ?_;rw [List.map_map]
  have : ents.toList.map ((fun p => intOf p.1) ∘ WideElems.rg P k R0) = keysV Q.data := by
   have h2 : (ents.toList.map (·.key)).map (fun v => match v with | .int _ n => n | _ => 0) = keysV Q.data := by
    rw [hks, List.map_map];exact (List.map_congr_left fun n _ => rfl).trans (List.map_id _)
   rw [← h2, List.map_map];refine List.map_congr_left fun x hx => ?_;obtain ⟨n, h3, h4⟩ := hrd x hx;simp only [Function.comp, WideElems.rg, h4, Option.getD_some, intOf, h3]
  rw [this]
 ·rw [Maps.size_eq, Go.length_read]; omega
@[simp] def keysS (k : Nat) : Sp
  | [.mp i], M => match M[i]? with
    | some (.mapo _) => some { av := .fn k [.mp i] }
    | some (.own _ none) => some { av := .fn k [.mp i] }
    | _ => none
  | _, _ => none
theorem keys_ok {P : Program} {ρ : Ren} (L : SlLaysZI.n7 P ρ) {f k : Nat} (hf : ρ.f 7 = f) (hk : ρ.f 10 = k) (hent : ∀ args w, (callFunc f args).run P w = .ok (.enter f args) w) : SpecOk P f (keysS k) := by
 subst hf; subst hk;intro l M out h;unfold keysS at h;split at h
 ·rename_i i
  have h : some ({ av := .fn (ρ.f 10) [.mp i] } : Out) = some out := by
   split at h
   ·exact h
   ·exact h
   ·cases h
  ·cases h;intro g vs hM sm hr _;cases hr with | cons hv hr => cases hr with | nil =>
   cases hv with
   | mp _ hi =>
   refine ⟨hent _ _, ?_⟩;refine ((callsIn_wide (n := 5)).1 (AnyZI.keys_in L Fence.wide 5 trivial rfl _ _)).mono fun e w' => ?_;rintro ⟨rfl, rfl⟩;have hw : (g.w.alloc (.cells #[.map (some (g.β i))] (ρ.t 23))).heap = g.w.heap.push (.cells #[.map (some (g.β i))] (ρ.t 23)) := rfl;refine ⟨_, rfl, g.β, g.ρ, ?_, ?_, ?_⟩
   ·simp only [G.out, Option.getD_none];exact sim_push hw sm
   ·simp only [G.out, Option.getD_none]
    have q : R { g with w := g.w.alloc (.cells #[.map (some (g.β i))] (ρ.t 23)) } (.fn (ρ.f 10) [.mp i]) (.func (.func (ρ.f 10)) #[] ((List.range [AV.mp i].length).map fun j => Value.pointer (some ⟨(fun _ => g.w.heap.size) j, 0, none⟩)).toArray) := by
     refine .fn (ρ.f 10) [.mp i] (fun _ => g.w.heap.size) (fun _ => .map (some (g.β i))) (fun j hj => ?_) (fun j hj hreg => ?_) (fun j hj => ?_)
     ·simp [World.cell?, hw]
     ·have := sm.inb _ hreg;simp at this
     ·have hj0 : j = 0 := by simp at hj; omega
      subst hj0;exact .mp (g := { g with w := g.w.alloc (.cells #[.map (some (g.β i))] (ρ.t 23)) }) i hi
    exact q
   ·simp only [G.out, Option.getD_none];exact keep_push hw
 ·cases h
theorem fn_inv {g : G} {f : Nat} {i : Nat} {v : Value} (h : R g (.fn f [.mp i]) v) : ∃ b, v = .func (.func f) #[] #[.pointer (some ⟨b, 0, none⟩)] ∧ g.w.cell? ⟨b, 0, none⟩ = some (.map (some (g.β i))) ∧ i < g.M.length := by
 cases h with
 | fn _ _ bs us h1 h2 h3 =>
   have h4 := h3 0 (by simp);simp only [List.getElem_cons_zero] at h4;generalize hu : us 0 = u at h4;cases h4 with
   | mp _ hi =>
     refine ⟨bs 0, by simp [List.range_succ], ?_, hi⟩;have := h1 0 (by simp);rw [hu] at this; exact this
@[simp] def sortedS (k : Nat) : Sp
  | [.fn k' [.mp i]], M => if k' = k then (match M[i]? with
    | some (.mapo es) => some { av := .sl ((sortL (keysV es)).map (eNum .i64)) .no, obl := IntKeys .i64 es ∧ KeysB (keysV es) }
    | some (.own Q none) => some { av := .sl ((sortL (keysV Q.data)).map (eNum .i64)) .no, obl := OwnKeys Q ∧ KeysB (keysV Q.data) }
    | _ => none) else none
  | _, _ => none
theorem sorted_ok {P : Program} {ρ ρ' : Ren} (L : SlLaysZI.n6 P ρ) (L' : SlLaysZI.n10 P ρ') {f k : Nat} (hf : ρ.f 6 = f) (hk : ρ'.f 10 = k) (hent : ∀ args w, (callFunc f args).run P w = .ok (.enter f args) w)
  (hsort : ∀ m, AnyZI.SortsIn P ρ Fence.wide m) (e9 : ∀ args w, (callFunc (ρ.f 9) args).run P w = .ok (.enter (ρ.f 9) args) w) (eg : ∀ args w, (callFunc k args).run P w = .ok (.enter k args) w) : SpecOk P f (sortedS k) := by
 subst hf; subst hk;intro l M out h;unfold sortedS at h;split at h
 ·rename_i k' i;split at h
  ·rename_i hkk;subst hkk;split at h
   ·rename_i es hMi;cases h;intro g vs hM sm hr ho;subst hM;cases hr with | cons hv hr => cases hr with | nil =>
    obtain ⟨b, rfl, hcell, hi⟩ := fn_inv hv;refine ⟨hent _ _, ?_⟩;obtain ⟨D0, R0, hown, hperm, hsize⟩ := owns_of sm hMi ho.1 ho.2 (P := P) (k := ρ'.t 26) L'.t26
    have hseq : SeqGives Fence.wide 2 P (ρ'.f 10) #[.pointer (some ⟨b, 0, none⟩)] encZ (fun ss => ss.Perm (intKeys D0)) (Maps.size D0) g.w :=
     AnyZI.keys_gives L' Fence.wide 2 trivial rfl (by omega) b (g.β i) es.length D0 g.w (cell_lt hcell) hcell hown
    have hbd := ho.2.2;simp only [keysV, List.length_map] at hbd;have cS := AnyZI.sorted_in L Fence.wide 5 trivial trivial trivial trivial rfl (by omega) (hsort _) e9 (ρ'.f 10) #[.pointer (some ⟨b, 0, none⟩)] trivial eg _ _ (by rw [hsize]; simp only [maxLen]; omega) (by rw [hsize]; exact hbd) g.w hseq;refine ((callsIn_wide (n := 5)).1 cS).mono fun e w' => ?_;rintro ⟨v, ss, rfl, hS, hrow, _, hbel⟩;have hss : ss.mergeSort (fun x y => decide (x ≤ y)) = sortL (keysV es) := mergeSort_of_perm_i (hS.trans hperm);rw [hss] at hrow;have hl : ss.length = (sortL (keysV es)).length := by rw [← hss]; simp
    rw [hl] at hrow;refine ⟨_, rfl, g.β, g.ρ, ?_, ?_, ?_⟩
    ·simp only [G.out, Option.getD_none]; exact sim_below hbel sm
    ·simp only [G.out, Option.getD_none]; exact R.ownsRow sm hrow
    ·simp only [G.out, Option.getD_none]; exact keep_below hbel
   ·rename_i Qo hMi;cases h;intro g vs hM sm hr ho;subst hM;cases hr with | cons hv hr => cases hr with | nil =>
    obtain ⟨b, rfl, hcell, hi⟩ := fn_inv hv;refine ⟨hent _ _, ?_⟩;obtain ⟨D0, R0, hown, hperm, hsize⟩ := owns_own sm hMi ho.1 ho.2 (P := P) (k := ρ'.t 26) L'.t26
    have hseq : SeqGives Fence.wide 2 P (ρ'.f 10) #[.pointer (some ⟨b, 0, none⟩)] encZ (fun ss => ss.Perm (intKeys D0)) (Maps.size D0) g.w :=
     AnyZI.keys_gives L' Fence.wide 2 trivial rfl (by omega) b (g.β i) Qo.data.length D0 g.w (cell_lt hcell) hcell hown
    have hbd := ho.2.2;simp only [keysV, List.length_map] at hbd;have cS := AnyZI.sorted_in L Fence.wide 5 trivial trivial trivial trivial rfl (by omega) (hsort _) e9 (ρ'.f 10) #[.pointer (some ⟨b, 0, none⟩)] trivial eg _ _ (by rw [hsize]; simp only [maxLen]; omega) (by rw [hsize]; exact hbd) g.w hseq;refine ((callsIn_wide (n := 5)).1 cS).mono fun e w' => ?_;rintro ⟨v, ss, rfl, hS, hrow, _, hbel⟩;have hss : ss.mergeSort (fun x y => decide (x ≤ y)) = sortL (keysV Qo.data) := mergeSort_of_perm_i (hS.trans hperm);rw [hss] at hrow;have hl : ss.length = (sortL (keysV Qo.data)).length := by rw [← hss]; simp
    rw [hl] at hrow;refine ⟨_, rfl, g.β, g.ρ, ?_, ?_, ?_⟩
    ·simp only [G.out, Option.getD_none]; exact sim_below hbel sm
    ·simp only [G.out, Option.getD_none]; exact R.ownsRow sm hrow
    ·simp only [G.out, Option.getD_none]; exact keep_below hbel
   ·cases h
  ·cases h
 ·cases h
end Go.Ab
end
section
namespace Go.Proofs
open Go.Ab
noncomputable def gar (x0 : Int) : Option Int :=
 bif (pickB (leqI 48 x0) (leqI x0 57) false) then (
  some (cvtI .i64 (subI .u8 x0 48))
 ) else (
   bif (pickB (leqI 97 x0) (leqI x0 102) false) then (
    some (addI .i64 (cvtI .i64 (subI .u8 x0 97)) 10)
   ) else (
     some (-1)
   )
 )
noncomputable def gas.loop1 (x0 : ByteArray) (s1 : Int × List Int) : Option (Fl (Int × List Int) (Fl (List Int) (ByteArray × Bool))) :=
 bif (ltI s1.1 (lenS x0)) then (
  need (InB s1.1 (lenS x0)) <|
  ((gar (idxS x0 s1.1))).bind fun r1 =>
  need (Under (ltI r1 0) false (InB (addI .i64 s1.1 1) (lenS x0))) <|
  need (Under (ltI r1 0) false ((gar (idxS x0 (addI .i64 s1.1 1))).isSome = true)) <|
  bif (pickB (ltI r1 0) true (ltI ((gar (idxS x0 (addI .i64 s1.1 1))).getD dflt) 0)) then (
   some (.out (.out (⟨#[]⟩, false)))
  ) else (
    need (InB s1.1 (lenS x0)) <|
    need (InB (addI .i64 s1.1 1) (lenS x0)) <|
    ((gar (idxS x0 (addI .i64 s1.1 1)))).bind fun r2 =>
    need (AppB (lenL s1.2) 1 1) <|
    some (.go ((addI .i64 s1.1 2), (appL s1.2 [(cvtI .u8 (addI .i64 (mulI .i64 16 r1) r2))])))
  )
 ) else (
   some (.out (.go s1.2))
 )
noncomputable def gas (x0 : ByteArray) : Option (ByteArray × Bool) :=
 need (NonZ 2) <|
 bif (eqI (remI (lenS x0) 2) 1) then (
  some (⟨#[]⟩, false)
 ) else (
   ((loopF (gas.loop1 x0) (0, [])).bind fun f => flC f fun (v1 : List Int) =>
     some ((strOfNums v1), true)
   )
 )
end Go.Proofs
end
section
namespace Go.Ab
def ofB (l : List UInt8) : ByteArray := ⟨l.toArray⟩
theorem ofB_b (l : List UInt8) : bytesOf (ofB l) = l := lit_b l
theorem ofB_of (s : ByteArray) : ofB (bytesOf s) = s := bytes_ext (ofB_b _)
theorem lenS_of (l : List UInt8) : lenS (ofB l) = (l.length : Int) := by rw [lenS_b, ofB_b]
theorem size_of (l : List UInt8) : (ofB l).size = l.length := by rw [← bytesOf_len, ofB_b]
def val (l : List UInt8) : Int := l.foldl (fun x b => x * 256 + (b.toNat : Int)) 0
def be : Nat → Int → List UInt8
 | 0, _ => []
 | n + 1, x => be n (x / 256) ++ [(x % 256).toNat.toUInt8]
theorem val_nil : val [] = 0 := rfl
theorem val_snoc (l : List UInt8) (b : UInt8) : val (l ++ [b]) = val l * 256 + (b.toNat : Int) := by simp [val]
theorem be_len : ∀ (n : Nat) (x : Int), (be n x).length = n
 | 0, _ => rfl
 | n + 1, x => by simp [be, be_len n]
theorem byte_of {x : Int} (h0 : 0 ≤ x) (h1 : x < 256) : ((x.toNat.toUInt8).toNat : Int) = x := by
 obtain ⟨n, rfl⟩ : ∃ n : Nat, x = n := ⟨x.toNat, by omega⟩;simp;omega
theorem val_be : ∀ (n : Nat) (x : Int), 0 ≤ x → x < 256 ^ n → val (be n x) = x
 | 0, x, h0, h1 => by
   simp at h1;simp [be, val];omega
 | n + 1, x, h0, h1 => by
   rw [be, val_snoc, val_be n (x / 256) (by omega) (by rw [Int.pow_succ] at h1; omega), byte_of (by omega) (by omega)];omega
theorem be_val : ∀ (n : Nat) (l : List UInt8), l.length = n → be n (val l) = l
 | 0, l, h => by
   have : l = [] := List.eq_nil_of_length_eq_zero h;subst this; rfl
 | n + 1, l, h => by
   rcases List.eq_nil_or_concat l with e | ⟨q, b, e⟩
   ·subst e; simp at h
   ·rw [List.concat_eq_append] at e;subst e;have hb := b.toNat_lt;have hq : q.length = n := by simpa using h
    rw [be, val_snoc];have e1 : (val q * 256 + (b.toNat : Int)) / 256 = val q := by omega
    have e2 : (val q * 256 + (b.toNat : Int)) % 256 = b.toNat := by omega
    rw [e1, e2, be_val n q hq];simp
theorem val_rng : ∀ (n : Nat) (l : List UInt8), l.length = n → 0 ≤ val l ∧ val l < 256 ^ n
 | 0, l, h => by
   have : l = [] := List.eq_nil_of_length_eq_zero h;subst this; simp [val]
 | n + 1, l, h => by
   rcases List.eq_nil_or_concat l with e | ⟨q, b, e⟩
   ·subst e; simp at h
   ·rw [List.concat_eq_append] at e;subst e;have hb := b.toNat_lt;have ih := val_rng n q (by simpa using h);rw [val_snoc, Int.pow_succ];omega
inductive Rd (α : Type) where
 | ret (a : α)
 | rd (n : Nat) (k : List UInt8 → Rd α)
 | bad (e : Int) (k : Rd α)
def stp (n : Nat) (l : List UInt8) (e : Int) : List UInt8 × List UInt8 × Int :=
 if e ≠ 0 then ([], l, e) else if l.length < n then ([], [], 1) else (l.take n, l.drop n, 0)
def flt (x : Int) (l : List UInt8) (e : Int) : List UInt8 × Int := if e = 0 then ([], x) else (l, e)
def Rd.run {α : Type} : Rd α → List UInt8 → Int → α × List UInt8 × Int
 | .ret a, l, e => (a, l, e)
 | .rd n k, l, e => (k (stp n l e).1).run (stp n l e).2.1 (stp n l e).2.2
 | .bad x k, l, e => k.run (flt x l e).1 (flt x l e).2
theorem stp_err {n : Nat} {l : List UInt8} {e : Int} (h : e ≠ 0) : stp n l e = ([], l, e) := by unfold stp; rw [if_pos h]
theorem stp_short {n : Nat} {l : List UInt8} (h : l.length < n) : stp n l 0 = ([], [], 1) := by unfold stp; rw [if_neg (by simp), if_pos h]
theorem stp_ok {n : Nat} {l : List UInt8} (h : n ≤ l.length) : stp n l 0 = (l.take n, l.drop n, 0) := by unfold stp; rw [if_neg (by simp), if_neg (by omega)]
theorem run_err {α : Type} : ∀ (m : Rd α) (l : List UInt8) (e : Int), e ≠ 0 → (m.run l e).2 = (l, e)
 | .ret _, _, _, _ => rfl
 | .rd n k, l, e, h => by
   rw [Rd.run, stp_err h];exact run_err _ _ _ h
 | .bad x k, l, e, h => by
   rw [Rd.run];unfold flt;rw [if_neg h];exact run_err _ _ _ h
section
variable {α : Type}
def num (n : Nat) (k : Int → Rd α) : Rd α := .rd n fun b => k (val b)
def tru (k : Bool → Rd α) : Rd α := .rd 1 fun b => if 1 < val b then .bad 2 (k false) else k (decide (val b = 1))
def many : Nat → List Int → (List Int → Rd α) → Rd α
 | 0, acc, k => k acc
 | m + 1, acc, k => num 4 fun x => many m (acc ++ [x]) k
def bitB (b : Bool) : UInt8 := if b then 1 else 0
theorem run_rd_inv {n : Nat} {k : List UInt8 → Rd α} {s r : List UInt8} {a : α} (h : (Rd.rd n k).run s 0 = (a, r, 0)) : ∃ b s', s = b ++ s' ∧ b.length = n ∧ (k b).run s' 0 = (a, r, 0) := by
 rw [Rd.run] at h;by_cases h1 : s.length < n
 ·rw [stp_short h1] at h;have := run_err (k []) [] 1 (by omega);rw [h] at this;cases this
 ·rw [stp_ok (by omega)] at h;exact ⟨s.take n, s.drop n, (List.take_append_drop n s).symm, by rw [List.length_take]; omega, h⟩
theorem Lq {n : Nat} {k : Int → Rd α} {s r : List UInt8} {a : α} (h : (num n k).run s 0 = (a, r, 0)) : ∃ x s', s = be n x ++ s' ∧ 0 ≤ x ∧ x < 256 ^ n ∧ (k x).run s' 0 = (a, r, 0) := by
 obtain ⟨b, s', h1, h2, h3⟩ := run_rd_inv h;have hr := val_rng n b h2;exact ⟨val b, s', by rw [be_val n b h2]; exact h1, hr.1, hr.2, h3⟩
theorem run_tru_inv {k : Bool → Rd α} {s r : List UInt8} {a : α} (h : (tru k).run s 0 = (a, r, 0)) : ∃ v s', s = bitB v :: s' ∧ (k v).run s' 0 = (a, r, 0) := by
 obtain ⟨b, s', h1, h2, h3⟩ := run_rd_inv h
 try dsimp only at h3
 split at h3
 ·exfalso;rw [Rd.run] at h3;have := run_err (k false) (flt 2 s' 0).1 (flt 2 s' 0).2 (by unfold flt; simp);rw [h3] at this;unfold flt at this;simp at this
 ·rename_i hb;have hr := val_rng 1 b h2;refine ⟨decide (val b = 1), s', ?_, h3⟩;rw [h1, ← be_val 1 b h2];by_cases h0 : val b = 1
  ·rw [h0]; rfl
  ·have : val b = 0 := by omega
   rw [this]; rfl
theorem run_many_inv : ∀ {m : Nat} {acc : List Int} {k : List Int → Rd α} {s r : List UInt8} {a : α}, (many m acc k).run s 0 = (a, r, 0) →
  ∃ l s', s = l.flatMap (be 4) ++ s' ∧ l.length = m ∧ (∀ x ∈ l, 0 ≤ x ∧ x < 4294967296) ∧ (k (acc ++ l)).run s' 0 = (a, r, 0)
 | 0, acc, k, s, r, a, h => ⟨[], s, rfl, rfl, (fun _ h => by cases h), (by rw [List.append_nil]; exact h)⟩
 | m + 1, acc, k, s, r, a, h => by
   obtain ⟨x, s', h1, h2, h3, h4⟩ := Lq h;obtain ⟨l, s2, k1, k2, k3, k4⟩ := run_many_inv h4;refine ⟨x :: l, s2, by rw [h1, k1]; simp, by simp [k2], fun y hy => ?_, by rw [List.append_assoc] at k4; exact k4⟩;rcases List.mem_cons.1 hy with rfl | hy
   ·exact ⟨h2, h3⟩
   ·exact k3 y hy
theorem run_rd_fwd {n : Nat} {k : List UInt8 → Rd α} {b s : List UInt8} (h : b.length = n) : (Rd.rd n k).run (b ++ s) 0 = (k b).run s 0 := by
 rw [Rd.run, stp_ok (by simp; omega), ← h, List.take_left, List.drop_left]
theorem Lp {n : Nat} {k : Int → Rd α} {x : Int} {s : List UInt8} (h0 : 0 ≤ x) (h1 : x < 256 ^ n) : (num n k).run (be n x ++ s) 0 = (k x).run s 0 := by
 unfold num;rw [run_rd_fwd (be_len n x), val_be n x h0 h1]
theorem run_tru_fwd {k : Bool → Rd α} {v : Bool} {s : List UInt8} : (tru k).run (bitB v :: s) 0 = (k v).run s 0 := by
 have : bitB v :: s = [bitB v] ++ s := rfl;unfold tru;rw [this, run_rd_fwd (b := [bitB v]) (n := 1) rfl];cases v
 ·rfl
 ·rfl
theorem run_many_fwd : ∀ {l : List Int} {acc : List Int} {k : List Int → Rd α} {s : List UInt8}, (∀ x ∈ l, 0 ≤ x ∧ x < 4294967296) → (many l.length acc k).run (l.flatMap (be 4) ++ s) 0 = (k (acc ++ l)).run s 0
 | [], acc, k, s, _ => by rw [List.append_nil]; rfl
 | x :: l, acc, k, s, h => by
   have hx := h x (by simp);rw [List.length_cons, many, List.flatMap_cons, List.append_assoc, Lp hx.1 hx.2, run_many_fwd fun y hy => h y (by simp [hy])];simp
end
end Go.Ab
end
