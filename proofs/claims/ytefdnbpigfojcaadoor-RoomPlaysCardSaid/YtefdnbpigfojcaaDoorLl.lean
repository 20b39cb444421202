/- Lists of lists, as abstract values. No condition. -/
import Derived.Test.YtefdnbpigfojcaaDoorNx
namespace Go.Ab
@[simp] theorem encL_d {α : Type} (e : α → List AV) (x : List α) : encL e x = [.sl (x.map e) .no] := rfl
@[simp] theorem encLL_bel {α : Type} {e : α → List AV} {n : Nat} (h : ∀ l : List α, belLL n (l.map e)) (l : List (List α)) : belLL n (l.map (encL e)) :=
  bel_map (fun x => by simp [h x]) l
@[simp] theorem encLL_ren {α : Type} {e : α → List AV} {σ : Nat → Nat} (h : ∀ l : List α, renLL σ (l.map e) = l.map e) (l : List (List α)) : renLL σ (l.map (encL e)) = l.map (encL e) :=
  ren_map (fun x => by simp [h x]) l
@[simp high] theorem encL_nth {α : Type} {e : α → List AV} {l : List (List α)} (n : Int) : nthL (l.map (encL e)) n.toNat [.sl [] .no] = [.sl ((nthI l n).map e) .no] := by
  simp only [nthL, nthI, List.getD_eq_getElem?_getD, List.getElem?_map]
  cases l[n.toNat]? <;> rfl
@[simp] theorem decL_d {α : Type} (d : List AV → α) (els : List (List AV)) (tok : Tok) : decL d [.sl els tok] = els.map d := rfl
@[simp] theorem map_decencL {α : Type} {e : α → List AV} {d : List AV → α} (h : d ∘ e = id) (l : List (List α)) : l.map (decL d ∘ encL e) = l := by
  rw [encL_comp h, List.map_id]

/-! ### One state says what another one says: twice -/
theorem Weak.trans {a b : AV} (h : Weak a b) : ∀ {c : AV}, Weak b c → Weak a c := by
  induction h with
  | refl a => intro c h; exact h
  | tok els tok =>
    intro c h
    cases h with
    | refl => exact .tok _ _
    | tok => exact .tok _ _
  | agg l l' hl h ih =>
    intro c h'
    cases h' with
    | refl => exact .agg _ _ hl h
    | agg _ l'' hl' h'' => exact .agg _ _ (hl.trans hl') fun j h1 h2 => ih j h1 (by omega) (h'' j (by omega) h2)
  | tup l l' hl h ih =>
    intro c h'
    cases h' with
    | refl => exact .tup _ _ hl h
    | tup _ l'' hl' h'' => exact .tup _ _ (hl.trans hl') fun j h1 h2 => ih j h1 (by omega) (h'' j (by omega) h2)
theorem WObj.trans {a b c : AObj} (h : WObj a b) (h' : WObj b c) : WObj a c := by
  cases h with
  | refl => exact h'
  | dead =>
    cases h' with
    | refl => exact .dead _
    | dead => exact .dead _
  | mapr es vis cur t =>
    cases h' with
    | refl => exact .mapr _ _ _ _
    | dead => exact .dead _
  | blk l l' hl h =>
    cases h' with
    | refl => exact .blk _ _ hl h
    | dead => exact .dead _
    | blk _ l'' hl' h'' => exact .blk _ _ (hl.trans hl') fun j h1 h2 => (h j h1 (by omega)).trans (h'' j (by omega) h2)
theorem WMem.trans {a b : List AObj} (h : WMem a b) : ∀ {c : List AObj}, WMem b c → WMem a c := by
  induction h with
  | nil => intro c h; exact h
  | cons h _ ih =>
    intro c h'
    cases h' with
    | cons q r => exact .cons (h.trans q) (ih r)
theorem WMem.take {a b : List AObj} (h : WMem a b) : ∀ n : Nat, WMem (a.take n) (b.take n) := by
  induction h with
  | nil => intro n; simp only [List.take_nil]; exact .nil
  | cons h _ ih =>
    intro n
    cases n with
    | zero => exact .nil
    | succ n => exact .cons h (ih n)
theorem subE_mem {A : Env} : ∀ {A' : Env}, subE A A' → ∀ e ∈ A', e.tag = none ∧ ∃ av, ent A e.t = some (none, av) ∧ Weak av e.av
  | ⟨t, tag, av⟩ :: r, h, e, he => by
    obtain ⟨h1, h2⟩ := h
    rcases List.mem_cons.1 he with rfl | he
    · split at h1
      · rename_i av' htag hent
        exact ⟨htag, av', hent, h1⟩
      · exact h1.elim
    · exact subE_mem h2 e he
theorem subE_of {A : Env} : ∀ {A' : Env}, (∀ e ∈ A', e.tag = none ∧ ∃ av, ent A e.t = some (none, av) ∧ Weak av e.av) → subE A A'
  | [], _ => trivial
  | ⟨t, tag, av⟩ :: r, h => by
    obtain ⟨h1, av', h2, h3⟩ := h _ (.head _)
    simp only at h1 h2 h3
    refine ⟨?_, subE_of fun e he => h e (.tail _ he)⟩
    simp only [h1, h2]
    exact h3
theorem Conv.trans {B m m' : Nat} {σ σ' σ'' : St} (h : Conv B m σ σ') (h' : Conv B m' σ' σ'') : Conv B m' σ σ'' := by
  obtain ⟨a1, a2, a3, a4, a5, a6⟩ := h
  obtain ⟨b1, b2, b3, b4, b5, b6⟩ := h'
  have hl := a5.length
  rw [List.length_take] at hl
  have hm : m' ≤ m := by omega
  refine ⟨b1, by omega, subE_of fun e he => ?_, b4, ?_, b6⟩
  · obtain ⟨e1, av, e2, e3⟩ := subE_mem b3 e he
    obtain ⟨_, av', e5, e6⟩ := subE_mem a3 _ (ent_mem e2)
    exact ⟨e1, av', e5, e6.trans e3⟩
  · have := a5.take m'
    rw [List.take_take, Nat.min_eq_left hm] at this
    exact this.trans b5
/-- A function without results ends as well where its end is said less sharply. -/
theorem fin_conv0 {ty : TyTab} {out : Out} {M : List AObj} {B m : Nat} {σ σ' : St} (hc : Conv B m σ σ') (h : finK out M σ'.M (resA ty σ'.A σ'.M [])) : finK out M σ.M (resA ty σ.A σ.M []) := by
  obtain ⟨_, _, _, _, a5, _⟩ := hc
  simp only [resA, finK] at h ⊢
  obtain ⟨h1, h2, h3, h4, h5, h6⟩ := h
  refine ⟨h1, h2, h3, ?_, h5, h6⟩
  have l1 := a5.length
  have l2 := h4.length
  rw [List.length_take] at l1 l2
  have q := a5.take (out.M.getD M).length
  rw [List.take_take, Nat.min_eq_left (by omega)] at q
  exact q.trans h4

/-! ### Rows of numbers in blocks of one's own, as simp leaves them -/
@[simp] theorem zeros_cellsI' (k : IntKind) (n : Int) : List.map (fun q => [AV.lit (Value.int k 0)][q % 1]?.getD default) (List.range n.toNat) = cellsI k (repL n 0) := by
  unfold cellsI repL
  rw [List.map_replicate]
  refine List.eq_replicate_iff.2 ⟨by simp, fun b hb => ?_⟩
  obtain ⟨x, _, rfl⟩ := List.mem_map.1 hb
  simp [Nat.mod_one]
@[simp] theorem getD_cellsI (κ : IntKind) (k : Int) (l : List Int) : (cellsI κ l)[k.toNat]?.getD (AV.lit (Value.int κ 0)) = .lit (.int κ (nthI l k)) := by
  unfold cellsI nthI
  rw [List.getElem?_map, List.getD_eq_getElem?_getD]
  cases l[k.toNat]? <;> rfl
@[simp] theorem len_setI {α : Type} (l : List α) (n : Int) (x : α) : (setI l n x).length = l.length := by simp [setI]
@[simp] theorem inB_sub {k : Int} {l : List Int} (h : InB k (lenL l)) : 0 < l.length - k.toNat ↔ True := ⟨fun _ => trivial, fun _ => by have := inB_lt h; omega⟩
@[simp] theorem splice_cellsI' {κ : IntKind} {k v : Int} {l : List Int} (h : InB k (lenL l)) : List.take k.toNat (cellsI κ l) ++ AV.lit (Value.int κ v) :: List.drop (k.toNat + 1) (cellsI κ l) = cellsI κ (setI l k v) := by
  have h1 := inB_lt h
  unfold cellsI setI
  rw [List.set_eq_take_append_cons_drop, if_pos h1]
  simp [List.map_take, List.map_drop]
end Go.Ab
