/- What these functions compute, as plain functions. No condition. -/
import Derived.Test.YtpamnignoocogaaGreatDoorM11
import Derived.Test.YtpamnignoocogaaGreatDoorKl
import Derived.Shelf.SlIter.Nil
import Derived.Test.YtpamnignoocogaaGreatDoorSh
import Derived.Test.YtpamnignoocogaaGreatDoorTy
import Derived.Stop.Joined
section
namespace Go.Proofs
open Go.Ab
noncomputable def gScriptDigit (x0 : Int) : Option Int :=
  some (ixbS ⟨#[48, 49, 50, 51, 52, 53, 54, 55, 56, 57, 97, 98, 99, 100, 101, 102]⟩ x0)

noncomputable def gScriptBytes.loop1 (x0 : ByteArray) (s1 : Int × List Int) : Option (Fl (Int × List Int) (Fl (List Int) (ByteArray × Bool))) :=
  bif (ltI s1.1 (lenS x0)) then (
    need (InB s1.1 (lenS x0)) <|
    ((gScriptDigit (idxS x0 s1.1))).bind fun r1 =>
    need (InB (addI .i64 s1.1 1) (lenS x0)) <|
    ((gScriptDigit (idxS x0 (addI .i64 s1.1 1)))).bind fun r2 =>
    bif (pickB (ltI r1 0) true (ltI r2 0)) then (
      some (.out (.out (⟨#[]⟩, false)))
    ) else (
      need (AppB (lenL s1.2) 1 1) <|
      some (.go ((addI .i64 s1.1 2), (appL s1.2 [(cvtI .u8 (addI .i64 (mulI .i64 16 r1) r2))])))
    )
  ) else (
    some (.out (.go s1.2))
  )

noncomputable def gScriptBytes (x0 : ByteArray) : Option (ByteArray × Bool) :=
  need (NonZ 2) <|
  bif (neI (remI (lenS x0) 2) 0) then (
    some (⟨#[]⟩, false)
  ) else (
    need (NonZ 2) <|
    need (RepB (quoI .i64 (lenS x0) 2) (quoI .i64 (lenS x0) 2) 1) <|
    ((loopF (gScriptBytes.loop1 x0) (0, [])).bind fun f => flC f fun (v1 : List Int) =>
      some ((strOfNums v1), true)
    )
  )

noncomputable def gScriptDigits.loop1 (x0 : ByteArray) (s1 : Int × List Int) : Option (Fl (Int × List Int) (Fl (List Int) ByteArray)) :=
  bif (ltI s1.1 (lenS x0)) then (
    need (InB s1.1 (lenS x0)) <|
    need (NonN 4) <|
    need (InB (shrI .u8 (idxS x0 s1.1) 4) (lenS ⟨#[48, 49, 50, 51, 52, 53, 54, 55, 56, 57, 97, 98, 99, 100, 101, 102]⟩)) <|
    need (AppB (lenL s1.2) 1 1) <|
    need (InB s1.1 (lenS x0)) <|
    need (InB (bitsOp .and .u8 (idxS x0 s1.1) 15) (lenS ⟨#[48, 49, 50, 51, 52, 53, 54, 55, 56, 57, 97, 98, 99, 100, 101, 102]⟩)) <|
    need (AppB ((lenL s1.2) + 1) 1 1) <|
    some (.go ((addI .i64 s1.1 1), (appL (appL s1.2 [(idxS ⟨#[48, 49, 50, 51, 52, 53, 54, 55, 56, 57, 97, 98, 99, 100, 101, 102]⟩ (shrI .u8 (idxS x0 s1.1) 4))]) [(idxS ⟨#[48, 49, 50, 51, 52, 53, 54, 55, 56, 57, 97, 98, 99, 100, 101, 102]⟩ (bitsOp .and .u8 (idxS x0 s1.1) 15))])))
  ) else (
    some (.out (.go s1.2))
  )

noncomputable def gScriptDigits (x0 : ByteArray) : Option ByteArray :=
  ((loopF (gScriptDigits.loop1 x0) (0, [])).bind fun f => flC f fun (v1 : List Int) =>
    need (TextE v1) <|
    some (strOfNums v1)
  )
end Go.Proofs
end
section
namespace Go.Ab
open Go.Proofs Go.Shelf Go.Sort Go.Maps

def keysVS (es : List (AV × AV)) : List ByteArray := es.map fun e => dkS e.1
def StrKeys (es : List (AV × AV)) : Prop := ∀ e ∈ es, e.1 = kS (dkS e.1)
@[simp] theorem keysVS_encM {V : Type} (vE : V → AV) (m : List (ByteArray × V)) : keysVS (encM kS vE m) = keysM m := by
  simp only [keysVS, encM, keysM, List.map_map]
  exact List.map_congr_left fun e _ => rfl
@[simp] theorem strKeys_encM {V : Type} (vE : V → AV) (m : List (ByteArray × V)) : StrKeys (encM kS vE m) ↔ True :=
  ⟨fun _ => trivial, fun _ e he => by obtain ⟨p, _, rfl⟩ := List.mem_map.1 he; rfl⟩
@[simp] theorem keysVS_nil : keysVS [] = [] := rfl
@[simp] theorem strKeys_nil : StrKeys [] ↔ True := ⟨fun _ => trivial, fun _ e he => by cases he⟩
/-- What sorting them asks. -/
def KeysBS (l : List ByteArray) : Prop := (∀ x ∈ l, x.size ≤ maxLen) ∧ l.length * 16 ≤ 140737488355328
def kbytesOf (x : ByteArray) : List UInt8 := x.data.toList
def kofBytes (x : List UInt8) : ByteArray := ⟨x.toArray⟩
theorem kofB_kbOf (x : ByteArray) : kofBytes (kbytesOf x) = x := by cases x; simp [kofBytes, kbytesOf]
theorem kbOf_kofB (x : List UInt8) : kbytesOf (kofBytes x) = x := by simp [kofBytes, kbytesOf]
def sortS (l : List ByteArray) : List ByteArray := ((l.map kbytesOf).mergeSort fun x y => decide (x ≤ y)).map kofBytes

/-- A slice that owns its block, made by the call. -/
theorem R.ownsRowG {α : Type} (f : α → Value) (hf : ∀ a, (f a).oneCell' = true) {g : G} {w' : World} (sm : Sim g) {e : TypeId} {v : Value} {l : List α} (h : w'.ownsRow g.w.heap.size e 1 v l.length (l.map f)) :
    R { g with w := w' } (.sl (l.map fun a => [.lit (f a)]) .no) v := by
  rcases h.2 with ⟨rfl, hz⟩ | ⟨gb, cap, cur, rfl, hbase, hgb, hcap, _, hsz, htake⟩
  · have : l = [] := List.eq_nil_of_length_eq_zero hz
    subst this
    exact .nil _ trivial
  · have hlen : (l.map fun a => [AV.lit (f a)]).length = l.length := by simp
    have q : R { g with w := w' } (.sl (l.map fun a => [.lit (f a)]) .no) (.slice (some ⟨gb, 0, none⟩) (l.map fun a => [AV.lit (f a)]).length cap) := by
      have hcur : ∀ i (hi : i < l.length), cur[i]? = some (f l[i]) := fun i hi => by
        have : (cur.toList.take (l.length * 1))[i]? = some (f l[i]) := by
          rw [htake, List.getElem?_map]
          simp [hi]
        rw [List.getElem?_take_of_lt (by omega)] at this
        simpa using this
      refine .sl _ .no gb 0 1 cap (fun i _ => ((l[i]?).map f).getD undef) (fun i hi => by simp) (fun i j hi hj => ?_) (fun i j hi hj hr => ?_) (fun i j hi hj => ?_) (fun i j hi hj => ?_) trivial (by omega)
      · have hj0 : j = 0 := by omega
        subst hj0
        have hi' : i < l.length := by omega
        have := hcur i hi'
        simp only [World.cell?, hgb, Nat.zero_add, Nat.mul_one, Nat.add_zero]
        rw [List.getElem?_eq_getElem hi']
        simpa using this
      · have := sm.inb _ hr
        simp only at this
        omega
      · have hj0 : j = 0 := by simp at hj; omega
        subst hj0
        have hi' : i < l.length := by omega
        simp only [List.getElem_map, List.getElem_cons_zero]
        rw [List.getElem?_eq_getElem hi']
        exact .lit _
      · have hi' : i < l.length := by omega
        rw [List.getElem?_eq_getElem hi']
        exact hf _
    rw [hlen] at q; exact q

theorem ownsS_of {g : G} (sm : Sim g) {i : Nat} {es : List (AV × AV)} (hM : g.M[i]? = some (.mapo es)) (hk : StrKeys es) (hb : KeysBS (keysVS es)) {P : Program} {k : TypeId} (hkt : P.underlying k = some .string) :
    ∃ (D0 : DataW Unit) (R0 : Value → Option (DataW Unit × List MemPlace)), g.w.ownsMap P k R0 (g.β i) es.length D0 ∧ (strKeys D0).Perm ((keysVS es).map kbytesOf) ∧ Maps.size D0 = es.length := by
  obtain ⟨ents, clock, hh, hst, he⟩ := map_at sm hM
  have hlen := he.len
  simp only [Array.length_toList] at hlen
  have hkey : ∀ (es : List (AV × AV)) (l : List MapEntry), EntR g es l → StrKeys es → l.map (·.key) = (keysVS es).map .string := by
    intro es l h
    induction h with
    | nil => intro _; rfl
    | @cons a v es e l hk hv r ih =>
      intro q
      have h1 := q (a, v) (.head _)
      simp only at h1
      rw [h1] at hk
      have h2 : e.key = .string (dkS a) := hk.lit_inv
      simp only [List.map_cons, keysVS, h2]
      rw [ih fun e he => q e (.tail _ he)]; rfl
  have hks := hkey es ents.toList he hk
  have hread : ∀ x ∈ ents.toList, ∃ n : ByteArray, x.key = .string n ∧ n ∈ keysVS es := fun x hx => by
    have : x.key ∈ ents.toList.map (·.key) := List.mem_map.2 ⟨x, hx, rfl⟩
    rw [hks] at this
    obtain ⟨n, hn, e⟩ := List.mem_map.1 this
    exact ⟨n, e.symm, hn⟩
  let R0 : Value → Option (DataW Unit × List MemPlace) := fun _ => some (.nil, [])
  have hrd : ∀ x ∈ ents.toList, ∃ n : ByteArray, x.key = .string n ∧ WideElems.rd P k R0 x = some (.string (kbytesOf n), .nil) := fun x hx => by
    obtain ⟨n, hn, hmem⟩ := hread x hx
    refine ⟨n, hn, ?_⟩
    have hsz := hb.1 n hmem
    simp only [WideElems.rd, hn, R0, Option.map_some]
    have : keyOf P k (.string n) = some (.string (kbytesOf n)) := by
      simp [keyOf, hkt, mapKey, kbytesOf]
      exact hsz
    rw [this]
    rfl
  refine ⟨.map ((ents.toList.map (WideElems.rg P k R0)).foldr DataW.insert []), R0, ⟨ents, clock, hh, ⟨?_, hst, fun x hx => ?_⟩, by omega, rfl⟩, ?_, ?_⟩
  · have := hb.2
    simp only [keysVS, List.length_map] at this
    simp only [maxLen]; omega
  · obtain ⟨n, _, h⟩ := hrd x hx
    exact ⟨_, h⟩
  · show (((ents.toList.map (WideElems.rg P k R0)).foldr DataW.insert []).map fun p => strOf p.1).Perm _
    refine ((WideShapes.sorted_perm _).map _).trans ?_
    rw [List.map_map]
    have : ents.toList.map ((fun p => strOf p.1) ∘ WideElems.rg P k R0) = (keysVS es).map kbytesOf := by
      have h2 : (ents.toList.map (·.key)).map (fun v => match v with | .string n => kbytesOf n | _ => []) = (keysVS es).map kbytesOf := by
        rw [hks, List.map_map]
        exact List.map_congr_left fun n _ => rfl
      rw [← h2, List.map_map]
      refine List.map_congr_left fun x hx => ?_
      obtain ⟨n, h3, h4⟩ := hrd x hx
      simp only [Function.comp, WideElems.rg, h4, Option.getD_some, strOf, h3]
    rw [this]
  · rw [Maps.size_eq, Go.length_read]; omega

theorem keysS_okZ {P : Program} {ρ : Ren} (L : SlLaysZ.n7 P ρ) {f k : Nat} (hf : ρ.f 7 = f) (hk : ρ.f 10 = k) (hent : ∀ args w, (callFunc f args).run P w = .ok (.enter f args) w) : SpecOk P f (keysS k) := by
  subst hf; subst hk
  intro l M out h
  unfold keysS at h
  split at h
  · rename_i i
    have h : some ({ av := .fn (ρ.f 10) [.mp i] } : Out) = some out := by
      split at h
      · exact h
      · exact h
      · cases h
    · cases h
      intro g vs hM sm hr _
      cases hr with | cons hv hr => cases hr with | nil =>
      cases hv with
      | mp _ hi =>
      refine ⟨hent _ _, ?_⟩
      refine ((callsIn_wide (n := 5)).1 (AnyZ.keys_in L Fence.wide 5 trivial rfl _ _)).mono fun e w' => ?_
      rintro ⟨rfl, rfl⟩
      have hw : (g.w.alloc (.cells #[.map (some (g.β i))] (ρ.t 23))).heap = g.w.heap.push (.cells #[.map (some (g.β i))] (ρ.t 23)) := rfl
      refine ⟨_, rfl, g.β, g.ρ, ?_, ?_, ?_⟩
      · simp only [G.out, Option.getD_none]
        exact sim_push hw sm
      · simp only [G.out, Option.getD_none]
        have q : R { g with w := g.w.alloc (.cells #[.map (some (g.β i))] (ρ.t 23)) } (.fn (ρ.f 10) [.mp i]) (.func (.func (ρ.f 10)) #[] ((List.range [AV.mp i].length).map fun j => Value.pointer (some ⟨(fun _ => g.w.heap.size) j, 0, none⟩)).toArray) := by
          refine .fn (ρ.f 10) [.mp i] (fun _ => g.w.heap.size) (fun _ => .map (some (g.β i))) (fun j hj => ?_) (fun j hj hreg => ?_) (fun j hj => ?_)
          · simp [World.cell?, hw]
          · have := sm.inb _ hreg
            simp at this
          · have hj0 : j = 0 := by simp at hj; omega
            subst hj0
            exact .mp (g := { g with w := g.w.alloc (.cells #[.map (some (g.β i))] (ρ.t 23)) }) i hi
        exact q
      · simp only [G.out, Option.getD_none]
        exact keep_push hw
  · cases h

/-- 'slices.Sorted' of a map's keys that are strings. -/
@[simp] def sortedSS (k : Nat) : Sp
  | [.fn k' [.mp i]], M => if k' = k then (match M[i]? with
    | some (.mapo es) => some { av := .sl ((sortS (keysVS es)).map eTxt) .no, obl := StrKeys es ∧ KeysBS (keysVS es) }
    | _ => none) else none
  | _, _ => none

theorem sortedS_ok {P : Program} {ρ ρ' : Ren} (L : SlLaysZ.n6 P ρ) (L' : SlLaysZ.n10 P ρ') {f k : Nat} (hf : ρ.f 6 = f) (hk : ρ'.f 10 = k) (hent : ∀ args w, (callFunc f args).run P w = .ok (.enter f args) w)
    (hsort : ∀ m, AnyZ.SortsIn P ρ Fence.wide m) (e9 : ∀ args w, (callFunc (ρ.f 9) args).run P w = .ok (.enter (ρ.f 9) args) w) (eg : ∀ args w, (callFunc k args).run P w = .ok (.enter k args) w) : SpecOk P f (sortedSS k) := by
  subst hf; subst hk
  intro l M out h
  unfold sortedSS at h
  split at h
  · rename_i k' i
    split at h
    · rename_i hkk
      subst hkk
      split at h
      · rename_i es hMi
        cases h
        intro g vs hM sm hr ho
        subst hM
        cases hr with | cons hv hr => cases hr with | nil =>
        obtain ⟨b, rfl, hcell, hi⟩ := fn_inv hv
        refine ⟨hent _ _, ?_⟩
        obtain ⟨D0, R0, hown, hperm, hsize⟩ := ownsS_of sm hMi ho.1 ho.2 (P := P) (k := ρ'.t 26) L'.t26
        have hseq : SeqGives Fence.wide 2 P (ρ'.f 10) #[.pointer (some ⟨b, 0, none⟩)] encStr (fun ss => ss.Perm (strKeys D0)) (Maps.size D0) g.w :=
          AnyZ.keys_gives L' Fence.wide 2 trivial rfl (by omega) b (g.β i) es.length D0 g.w (cell_lt hcell) hcell hown
        have hbd := ho.2.2
        simp only [keysVS, List.length_map] at hbd
        have cS := AnyZ.sorted_in L Fence.wide 5 trivial trivial trivial trivial rfl (by omega) (hsort _) e9 (ρ'.f 10) #[.pointer (some ⟨b, 0, none⟩)] trivial eg _ _ (by rw [hsize]; simp only [maxLen]; omega) (by rw [hsize]; exact hbd) g.w hseq
        refine ((callsIn_wide (n := 5)).1 cS).mono fun e w' => ?_
        rintro ⟨v, ss, rfl, hS, hrow, _, hbel⟩
        have hss : ss.mergeSort (fun x y => decide (x ≤ y)) = ((keysVS es).map kbytesOf).mergeSort (fun x y => decide (x ≤ y)) := mergeSort_of_perm (hS.trans hperm)
        rw [hss] at hrow
        have hl : ss.length = (((keysVS es).map kbytesOf).mergeSort (fun x y => decide (x ≤ y))).length := by rw [← hss]; simp
        rw [hl] at hrow
        refine ⟨_, rfl, g.β, g.ρ, ?_, ?_, ?_⟩
        · simp only [G.out, Option.getD_none]; exact sim_below hbel sm
        · simp only [G.out, Option.getD_none]
          have q := R.ownsRowG encStr (fun _ => rfl) sm hrow
          have e : (sortS (keysVS es)).map eTxt = (((keysVS es).map kbytesOf).mergeSort (fun x y => decide (x ≤ y))).map fun a => [AV.lit (encStr a)] := by
            unfold sortS
            rw [List.map_map]; rfl
          rw [e]; exact q
        · simp only [G.out, Option.getD_none]; exact keep_below hbel
      · cases h
    · cases h
  · cases h
end Go.Ab
end
section
namespace Go.Proofs
open Go.Ab Go.Shelf
theorem Tryz.sortsD (m : Nat) : AnyZI.SortsIn Tryz.prog Tryz.sortedAD_ren Fence.wide m :=
  ⟨fun blk off cap ss W hH hblk hsz => callsIn_wide.2 (AnyM.slices_Sort_int Tryz.sortAD blk off cap ss W hH hblk hsz),
   fun p cap W => callsIn_wide.2 (AnyM.slices_Sort_int_none Tryz.sortAD p cap W)⟩
theorem keysD.ok : SpecOk Tryz.prog 379 (keysS 433) :=
  keys_ok Tryz.keysAD rfl rfl (enters_of Tryz.func379 (by kernel_rfl) rfl)
theorem sortedD.ok : SpecOk Tryz.prog 171 (sortedS 433) :=
  sorted_ok Tryz.sortedAD { Tryz.keysAD with } rfl rfl (enters_of Tryz.func171 (by kernel_rfl) rfl) Tryz.sortsD (enters_of Tryz.func241 (by kernel_rfl) rfl) (enters_of Tryz.func433 (by kernel_rfl) rfl)
theorem keysP.ok : SpecOk Tryz.prog 172 (keysS 242) :=
  keys_ok Tryz.keysAP rfl rfl (enters_of Tryz.func172 (by kernel_rfl) rfl)
theorem sortedP.ok : SpecOk Tryz.prog 171 (sortedS 242) :=
  sorted_ok Tryz.sortedAD { Tryz.keysAP with } rfl rfl (enters_of Tryz.func171 (by kernel_rfl) rfl) Tryz.sortsD (enters_of Tryz.func241 (by kernel_rfl) rfl) (enters_of Tryz.func242 (by kernel_rfl) rfl)
theorem keysE.ok : SpecOk Tryz.prog 341 (keysS 412) :=
  keys_ok Tryz.keysAE rfl rfl (enters_of Tryz.func341 (by kernel_rfl) rfl)
theorem sortedE.ok : SpecOk Tryz.prog 171 (sortedS 412) :=
  sorted_ok Tryz.sortedAD { Tryz.keysAE with } rfl rfl (enters_of Tryz.func171 (by kernel_rfl) rfl) Tryz.sortsD (enters_of Tryz.func241 (by kernel_rfl) rfl) (enters_of Tryz.func412 (by kernel_rfl) rfl)
theorem keysN.ok : SpecOk Tryz.prog 417 (keysS 448) :=
  keys_ok Tryz.keysAN rfl rfl (enters_of Tryz.func417 (by kernel_rfl) rfl)
theorem sortedN.ok : SpecOk Tryz.prog 171 (sortedS 448) :=
  sorted_ok Tryz.sortedAD { Tryz.keysAN with } rfl rfl (enters_of Tryz.func171 (by kernel_rfl) rfl) Tryz.sortsD (enters_of Tryz.func241 (by kernel_rfl) rfl) (enters_of Tryz.func448 (by kernel_rfl) rfl)
theorem keysT.ok : SpecOk Tryz.prog 382 (keysS 436) :=
  keysS_okZ Tryz.keysAS rfl rfl (enters_of Tryz.func382 (by kernel_rfl) rfl)
theorem Tryz.sortsS (m : Nat) : AnyZ.SortsIn Tryz.prog Tryz.sortedAS_ren Fence.wide m :=
  ⟨fun blk off cap ss W hH hblk hsz => callsIn_wide.2 (AnyM.slices_Sort_string Tryz.sortAS blk off cap ss W hH hblk hsz),
   fun p cap W => callsIn_wide.2 (AnyM.slices_Sort_string_none Tryz.sortAS p cap W)⟩
theorem sortedT.ok : SpecOk Tryz.prog 381 (sortedSS 436) :=
  sortedS_ok Tryz.sortedAS { Tryz.keysAS with } rfl rfl (enters_of Tryz.func381 (by kernel_rfl) rfl) Tryz.sortsS (enters_of Tryz.func435 (by kernel_rfl) rfl) (enters_of Tryz.func436 (by kernel_rfl) rfl)
end Go.Proofs
end
section
namespace Go.Ab
open Go.Proofs Go.RowKit

@[simp] noncomputable def isLetterS : Sp
  | [.lit (.int .i32 r)], _ => some { av := .lit (.bool (letterR r)), obl := I32B r }
  | _, _ => none
@[simp] noncomputable def isDigitS : Sp
  | [.lit (.int .i32 r)], _ => some { av := .lit (.bool (digitR r)), obl := I32B r }
  | _, _ => none
@[simp] noncomputable def toLowerS : Sp
  | [.lit (.int .i32 r)], _ => some { av := .lit (.int .i32 (lowerR r)) }
  | _, _ => none

/-- A call that only makes blocks, and hands back a plain value. -/
theorem ok_below {P : Program} {f : FuncId} {g : G} {vs : List Value} {v : Value} (hent : ∀ args w, (callFunc f args).run P w = .ok (.enter f args) w) (sm : Sim g)
    (hc : Calls P f vs.toArray g.w fun e w' => e = .returned v ∧ Below g.w.heap.size g.w w') {ob : Prop} : 
    (callFunc f vs.toArray).run P g.w = .ok (.enter f vs.toArray) g.w ∧ Calls P f vs.toArray g.w fun e w' => ∃ u, e = .returned u ∧ Post g { av := .lit v, obl := ob } u w' := by
  refine ⟨hent _ _, hc.mono ?_⟩
  rintro e w' ⟨rfl, hb⟩
  exact ⟨v, rfl, g.β, g.ρ, sim_below hb sm, .lit _, keep_below hb⟩
end Go.Ab
namespace Go.Proofs
open Go.RowKit Go.Ab
theorem gIsLetter.ok : SpecOk Tryz.prog 75 isLetterS := by
  intro l M out h
  unfold isLetterS at h
  split at h
  · rename_i r
    cases h
    intro g vs hM sm hr ho
    cases hr with | cons hv hr => cases hr with | nil =>
    cases hv
    exact ok_below (fun _ _ => by kernel_rfl) sm (Any.unicode_IsLetter_all Tryz.laysLetter Tryz.gProps r g.w ho.1 ho.2 sm.fct.here.1 sm.fct.here.2.1)
  · cases h
theorem gIsDigit.ok : SpecOk Tryz.prog 76 isDigitS := by
  intro l M out h
  unfold isDigitS at h
  split at h
  · rename_i r
    cases h
    intro g vs hM sm hr ho
    cases hr with | cons hv hr => cases hr with | nil =>
    cases hv
    exact ok_below (fun _ _ => by kernel_rfl) sm (Any.unicode_IsDigit_all Tryz.laysDigit r g.w ho.1 ho.2 sm.fct.here.2.2.1)
  · cases h
theorem gToLower.ok : SpecOk Tryz.prog 39 toLowerS := by
  intro l M out h
  unfold toLowerS at h
  split at h
  · rename_i r
    cases h
    intro g vs hM sm hr ho
    cases hr with | cons hv hr => cases hr with | nil =>
    cases hv
    refine ok_below (fun _ _ => by kernel_rfl) sm ((Any.unicode_ToLower_laid Tryz.laysLower r g.w sm.fct.here.2.2.2.1).mono ?_)
    rintro e w' ⟨rfl, q, rfl⟩
    exact ⟨rfl, below_drewN _ _⟩
  · cases h
end Go.Proofs
end
section
namespace Go.Ab
open Go.ChangeShapes Go.WideShapes Go.ChangeAt Go.RowKit

variable {H : Type} {enc : TypeId × Value → H} {P : Program}

/-- The same of a row that lays variables. -/
theorem law_lifted_laid {C : Checked} {os : Os} {f : FuncId} {fn : Func} {s : ChangeSpec} {conds : List PathCond} {tb : TypeId} {l : List TypeId} {laid : List (String × DataW Unit)}
    (own : ownKnob C.prog.godebug = none) (started : os.Started) (noInit : C.prog.inits.idxOf? f = none) (hfn : C.prog.funcs[f]? = some fn)
    (witness : ∃ (w : World) (tape : Tape) (i : Input), w.os = os ∧ (w.forCall tape i).Shaped C.prog ∧ i.vars = [] ∧ Input.okWide C.prog (w.forCall tape i) .any w.heap.size f i ∧
      ((s.pre enc C.prog fn conds false (w.forCall tape i).memory i.args ∧ laidMetH C.prog laid (w.forCall tape i).memory) ∧ sizedMet enc C.prog fn (OpenSpec.ofChange s) false (w.forCall tape i).memory i.args) ∧ ({} : Assume).holds C.prog (lone (Frame.enter C.prog f i.args .normal) [] (w.forCall tape i)))
    (hvars : s.vars = []) (hres : fn.resultTypes = #[tb]) (htb : C.prog.underlying tb = some .bool)
    (hspec : ∀ ds : List (DataW H), ds.length = fn.params.toList.length → s.fn H ds = { results := [.lit (.bool true)], args := ds })
    (K : Kids C.prog (· < C.prog.types.size)) (hz : ((List.range C.prog.types.size).all fun t => match C.prog.underlying t with | some (.slice e) => decide (0 < C.prog.cellsOf e) | _ => true) = true)
    (hl : flatB C.prog l = true) (hT : topB C.prog l fn.params.toList = true)
    (call : ∀ avl, ShAll C.prog fn.params.toList avl → ∃ o : Prop, o ∧ CallOk C.prog f avl [] { av := .lit (.bool true), obl := o })
    (hF : ∀ w : World, laidMetH C.prog laid w → ∀ w' : World, (∀ b, b < w.heap.size → w'.heap[b]? = w.heap[b]?) → fctF w') :
    ReturnsInHanded {} C os f .any (fun w args => (s.pre enc C.prog fn conds false w args ∧ laidMetH C.prog laid w) ∧ sizedMet enc C.prog fn (OpenSpec.ofChange s) false w args) (s.post enc C.prog fn false true false false) := by
  refine returnsInHanded_of_change_and (X := fun w _ => laidMetH C.prog laid w) (fun _ _ _ hh h => h.of_heap hh) own started noInit hfn witness ?_
  intro W base args ds gs before hval hW _ _ hL _
  exact law_contract hvars hres htb hspec K hz hl hT call W (hF W hL) base args ds gs before hval hW

end Go.Ab
end
