/- What these functions compute, as plain functions. No condition. -/
import Derived.Test.YtijaigjfacfhnaaDoorM10
import Derived.Test.YtijaigjfacfhnaaDoorM05
import Derived.Test.YtijaigjfacfhnaaDoorNx
section
namespace Go.Proofs
open Go.Ab
noncomputable def gInternalStringsliteHasPrefix (x0 : ByteArray) (x1 : ByteArray) : Option Bool :=
  need (Under (leqI (lenS x1) (lenS x0)) true (CutB 0 (lenS x1) (lenS x0))) <|
  some (pickB (leqI (lenS x1) (lenS x0)) (eqS (cutS x0 0 (lenS x1)) x1) false)

noncomputable def gStringsHasPrefix (x0 : ByteArray) (x1 : ByteArray) : Option Bool :=
  ((gInternalStringsliteHasPrefix x0 x1)).bind fun r1 =>
  some r1

noncomputable def gLabelClass (x0 : Int) : Option Int :=
  bif (pickB (pickB (eqI x0 45) true (eqI x0 95)) true (eqI x0 46)) then (
    some 3
  ) else (
    need (I32B x0) <|
    bif (letterR x0) then (
      some 1
    ) else (
      need (I32B x0) <|
      bif (digitR x0) then (
        some 2
      ) else (
        some 0
      )
    )
  )

noncomputable def gLabelCheck.loop1 (x0 : ByteArray) (s1 : Int × Int × Nat) : Option (Fl (Int × Int × Nat) (Fl (Int × Int) Int)) :=
  bif (nextB x0 s1.2.2) then (
    ((gLabelClass (runeS x0 s1.2.2))).bind fun r1 =>
    need (Under (eqI (runeS x0 s1.2.2) 65533) true (Under (pickB (eqI r1 0) true (pickB (eqI r1 3) (eqI s1.2.1 3) false)) false (CutB (posI s1.2.2) (lenS x0) (lenS x0)))) <|
    need (Under (eqI (runeS x0 s1.2.2) 65533) true (Under (pickB (eqI r1 0) true (pickB (eqI r1 3) (eqI s1.2.1 3) false)) false ((gStringsHasPrefix (cutS x0 (posI s1.2.2) (lenS x0)) ⟨#[239, 191, 189]⟩).isSome = true))) <|
    bif (pickB (pickB (eqI r1 0) true (pickB (eqI r1 3) (eqI s1.2.1 3) false)) true (pickB (eqI (runeS x0 s1.2.2) 65533) (notB ((gStringsHasPrefix (cutS x0 (posI s1.2.2) (lenS x0)) ⟨#[239, 191, 189]⟩).getD dflt)) false)) then (
      some (.out (.out 6))
    ) else (
      some (.go ((addI .i64 s1.1 1), r1, (stepS x0 s1.2.2)))
    )
  ) else (
    some (.out (.go (s1.1, s1.2.1)))
  )

noncomputable def gLabelCheck (x0 : ByteArray) : Option Int :=
  bif (pickB (eqS x0 ⟨#[]⟩) true (ltI 64 (lenS x0))) then (
    some 6
  ) else (
    ((loopF (gLabelCheck.loop1 x0) (0, 3, 0)).bind fun f => flC f fun (v1 : Int × Int) =>
      bif (pickB (ltI 16 v1.1) true (eqI v1.2 3)) then (
        some 6
      ) else (
        some 0
      )
    )
  )
end Go.Proofs
end
section
namespace Go.Proofs
open Go.Ab
noncomputable def gRef02Num.loop1 (x0 : Int) (s1 : Int × ByteArray × Int) : Option (Fl (Int × ByteArray × Int) (Fl ByteArray ByteArray)) :=
  bif (ltI s1.1 (minI (maxI x0 1) 8)) then (
    need (NonZ 256) <|
    need (CatB (strOfNums [(cvtI .u8 (remI s1.2.2 256))]) s1.2.1) <|
    need (NonZ 256) <|
    some (.go ((addI .i64 s1.1 1), (catS (strOfNums [(cvtI .u8 (remI s1.2.2 256))]) s1.2.1), (quoI .u64 s1.2.2 256)))
  ) else (
    some (.out (.go s1.2.1))
  )

noncomputable def gRef02Num (x0 : Int) (x1 : Int) : Option ByteArray :=
  ((loopF (gRef02Num.loop1 x0) (0, ⟨#[]⟩, x1)).bind fun f => flC f fun (v1 : ByteArray) =>
    some v1
  )

noncomputable def gRef02Value.loop1 (x0 : ByteArray) (s1 : Int × Int) : Option (Fl (Int × Int) (Fl Int Int)) :=
  bif (ltI s1.1 (lenS x0)) then (
    need (InB s1.1 (lenS x0)) <|
    some (.go ((addI .i64 s1.1 1), (addI .u64 (mulI .u64 s1.2 256) (cvtI .u64 (idxS x0 s1.1)))))
  ) else (
    some (.out (.go s1.2))
  )

noncomputable def gRef02Value (x0 : ByteArray) : Option Int :=
  ((loopF (gRef02Value.loop1 x0) (0, 0)).bind fun f => flC f fun (v1 : Int) =>
    some v1
  )

noncomputable def gRef02Bytes (x0 : Antiphonref02Reader) (x1 : Int) : Option (Antiphonref02Reader × ByteArray) :=
  bif (neI x0.fE 0) then (
    some (x0, ⟨#[]⟩)
  ) else (
    bif (ltI x1 0) then (
      some ((Antiphonref02Reader.mk ⟨#[]⟩ 5), ⟨#[]⟩)
    ) else (
      bif (ltI (lenS x0.fS) x1) then (
        some ((Antiphonref02Reader.mk ⟨#[]⟩ 1), ⟨#[]⟩)
      ) else (
        need (CutB x1 (lenS x0.fS) (lenS x0.fS)) <|
        need (CutB 0 x1 (lenS x0.fS)) <|
        some ((Antiphonref02Reader.mk (cutS x0.fS x1 (lenS x0.fS)) 0), (cutS x0.fS 0 x1))
      )
    )
  )

noncomputable def gRef02Take (x0 : Antiphonref02Reader) (x1 : Int) : Option (Antiphonref02Reader × Int) :=
  ((gRef02Bytes x0 (minI (maxI x1 1) 8))).bind fun r1 =>
  ((gRef02Value r1.2)).bind fun r2 =>
  some (r1.1, r2)

noncomputable def gRef02Fail (x0 : Antiphonref02Reader) (x1 : Int) : Option Antiphonref02Reader :=
  bif (pickB (eqI x0.fE 0) (neI x1 0) false) then (
    some (Antiphonref02Reader.mk ⟨#[]⟩ x1)
  ) else (
    some x0
  )

noncomputable def gRef02End (x0 : Antiphonref02Reader) : Option Int :=
  bif (pickB (eqI x0.fE 0) (neS x0.fS ⟨#[]⟩) false) then (
    some 2
  ) else (
    some x0.fE
  )
end Go.Proofs
end
section
namespace Go.Ab
@[simp] theorem encL_d {α : Type} (e : α → List AV) (x : List α) : encL e x = [.sl (x.map e) .no] := rfl
@[simp] theorem encLL_bel {α : Type} {e : α → List AV} {n : Nat} (h : ∀ l : List α, belLL n (l.map e)) (l : List (List α)) : belLL n (l.map (encL e)) :=
  bel_map (fun x => by simp [h x]) l
@[simp] theorem encLL_ren {α : Type} {e : α → List AV} {σ : Nat → Nat} (h : ∀ l : List α, renLL σ (l.map e) = l.map e) (l : List (List α)) : renLL σ (l.map (encL e)) = l.map (encL e) :=
  ren_map (fun x => by simp [h x]) l
@[simp high] theorem encL_nth {α : Type} {e : α → List AV} {l : List (List α)} (n : Int) : nthL (l.map (encL e)) n.toNat [.sl [] .no] = [.sl ((nthI l n).map e) .no] := by
  simp only [nthL, nthI, List.getD_eq_getElem?_getD, List.getElem?_map]
  cases l[n.toNat]? <;> rfl
@[simp] theorem decL_d {α : Type} (d : List AV → α) (els : List (List AV)) (tok : Tok) : decL d [.sl els tok] = els.map d := rfl
@[simp] theorem map_decencL {α : Type} {e : α → List AV} {d : List AV → α} (h : d ∘ e = id) (l : List (List α)) : l.map (decL d ∘ encL e) = l := by
  rw [encL_comp h, List.map_id]

/-! ### One state says what another one says: twice -/
theorem Weak.trans {a b : AV} (h : Weak a b) : ∀ {c : AV}, Weak b c → Weak a c := by
  induction h with
  | refl a => intro c h; exact h
  | tok els tok =>
    intro c h
    cases h with
    | refl => exact .tok _ _
    | tok => exact .tok _ _
  | agg l l' hl h ih =>
    intro c h'
    cases h' with
    | refl => exact .agg _ _ hl h
    | agg _ l'' hl' h'' => exact .agg _ _ (hl.trans hl') fun j h1 h2 => ih j h1 (by omega) (h'' j (by omega) h2)
  | tup l l' hl h ih =>
    intro c h'
    cases h' with
    | refl => exact .tup _ _ hl h
    | tup _ l'' hl' h'' => exact .tup _ _ (hl.trans hl') fun j h1 h2 => ih j h1 (by omega) (h'' j (by omega) h2)
theorem WObj.trans {a b c : AObj} (h : WObj a b) (h' : WObj b c) : WObj a c := by
  cases h with
  | refl => exact h'
  | dead =>
    cases h' with
    | refl => exact .dead _
    | dead => exact .dead _
  | mapr es vis cur t =>
    cases h' with
    | refl => exact .mapr _ _ _ _
    | dead => exact .dead _
  | blk l l' hl h =>
    cases h' with
    | refl => exact .blk _ _ hl h
    | dead => exact .dead _
    | blk _ l'' hl' h'' => exact .blk _ _ (hl.trans hl') fun j h1 h2 => (h j h1 (by omega)).trans (h'' j (by omega) h2)
theorem WMem.trans {a b : List AObj} (h : WMem a b) : ∀ {c : List AObj}, WMem b c → WMem a c := by
  induction h with
  | nil => intro c h; exact h
  | cons h _ ih =>
    intro c h'
    cases h' with
    | cons q r => exact .cons (h.trans q) (ih r)
theorem WMem.take {a b : List AObj} (h : WMem a b) : ∀ n : Nat, WMem (a.take n) (b.take n) := by
  induction h with
  | nil => intro n; simp only [List.take_nil]; exact .nil
  | cons h _ ih =>
    intro n
    cases n with
    | zero => exact .nil
    | succ n => exact .cons h (ih n)
theorem subE_mem {A : Env} : ∀ {A' : Env}, subE A A' → ∀ e ∈ A', e.tag = none ∧ ∃ av, ent A e.t = some (none, av) ∧ Weak av e.av
  | ⟨t, tag, av⟩ :: r, h, e, he => by
    obtain ⟨h1, h2⟩ := h
    rcases List.mem_cons.1 he with rfl | he
    · split at h1
      · rename_i av' htag hent
        exact ⟨htag, av', hent, h1⟩
      · exact h1.elim
    · exact subE_mem h2 e he
theorem subE_of {A : Env} : ∀ {A' : Env}, (∀ e ∈ A', e.tag = none ∧ ∃ av, ent A e.t = some (none, av) ∧ Weak av e.av) → subE A A'
  | [], _ => trivial
  | ⟨t, tag, av⟩ :: r, h => by
    obtain ⟨h1, av', h2, h3⟩ := h _ (.head _)
    simp only at h1 h2 h3
    refine ⟨?_, subE_of fun e he => h e (.tail _ he)⟩
    simp only [h1, h2]
    exact h3
theorem Conv.trans {B m m' : Nat} {σ σ' σ'' : St} (h : Conv B m σ σ') (h' : Conv B m' σ' σ'') : Conv B m' σ σ'' := by
  obtain ⟨a1, a2, a3, a4, a5, a6⟩ := h
  obtain ⟨b1, b2, b3, b4, b5, b6⟩ := h'
  have hl := a5.length
  rw [List.length_take] at hl
  have hm : m' ≤ m := by omega
  refine ⟨b1, by omega, subE_of fun e he => ?_, b4, ?_, b6⟩
  · obtain ⟨e1, av, e2, e3⟩ := subE_mem b3 e he
    obtain ⟨_, av', e5, e6⟩ := subE_mem a3 _ (ent_mem e2)
    exact ⟨e1, av', e5, e6.trans e3⟩
  · have := a5.take m'
    rw [List.take_take, Nat.min_eq_left hm] at this
    exact this.trans b5
/-- A function without results ends as well where its end is said less sharply. -/
theorem fin_conv0 {ty : TyTab} {out : Out} {M : List AObj} {B m : Nat} {σ σ' : St} (hc : Conv B m σ σ') (h : finK out M σ'.M (resA ty σ'.A σ'.M [])) : finK out M σ.M (resA ty σ.A σ.M []) := by
  obtain ⟨_, _, _, _, a5, _⟩ := hc
  simp only [resA, finK] at h ⊢
  obtain ⟨h1, h2, h3, h4, h5, h6⟩ := h
  refine ⟨h1, h2, h3, ?_, h5, h6⟩
  have l1 := a5.length
  have l2 := h4.length
  rw [List.length_take] at l1 l2
  have q := a5.take (out.M.getD M).length
  rw [List.take_take, Nat.min_eq_left (by omega)] at q
  exact q.trans h4
end Go.Ab
end
